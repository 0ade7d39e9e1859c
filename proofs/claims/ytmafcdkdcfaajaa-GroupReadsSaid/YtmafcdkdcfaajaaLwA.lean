/- Logs, replicas and what is said of them. -/
import Derived.Test.YtmafcdkdcfaajaaFn4
set_option linter.unusedVariables false
set_option linter.unusedSimpArgs false
namespace Go.Proofs.Ytmafcdkdcfaajaa
open Eng

instance : DecidableEq api_Entry := fun a b =>
  if h : a.Epoch = b.Epoch ∧ a.Data = b.Data then isTrue (by cases a; cases b; simp_all) else isFalse (fun e => h (by subst e; exact ⟨rfl, rfl⟩))

theorem entry_ext {a b : api_Entry} : a = b ↔ a.Epoch = b.Epoch ∧ a.Data = b.Data := by
  constructor
  · rintro rfl; exact ⟨rfl, rfl⟩
  · intro h; cases a; cases b; simp_all

theorem agree_eq (K : Nat) (a b : api_Entry) : replog_agree K a b = some (decide (a = b)) := by
  unfold replog_agree bytes_Equal
  by_cases h : a.Epoch = b.Epoch
  · rw [if_pos h]
    simp only [Option.bind_some, List.map_id']
    congr 1
    simp only [decide_eq_decide, entry_ext, h, true_and]
  · rw [if_neg h]
    congr 1
    symm
    simp only [decide_eq_false_iff_not]
    intro e
    exact h (by rw [e])

theorem Agree_l15' (K : Nat) (a b : api_Entry) (hab : a.Data.length = b.Data.length) (hx : a.Data.length < 9223372036854775807) : ∀ (k n : Nat), a.Data.length - n < k → n ≤ a.Data.length →
    workflowref52_Agree.l15 K a b k (n : Int) = some (if a.Data.drop n = b.Data.drop n then Out.go () else Out.done false) := by
  intro k
  induction k with
  | zero => intro n h; omega
  | succ k ih =>
    intro n h hn
    unfold workflowref52_Agree.l15
    by_cases hlt : n < a.Data.length
    · rw [if_pos (by omega), if_pos (by omega), if_pos (by omega), Int.toNat_natCast, wrap_succ (by omega), ih (n + 1) (by omega) (by omega), drop_step hlt (0 : UInt8), drop_step (xs := b.Data) (n := n) (by omega) (0 : UInt8)]
      by_cases he : a.Data.getD n (0 : UInt8) = b.Data.getD n (0 : UInt8)
      · rw [if_neg (by rw [he]; simp)]
        simp only [he, List.cons.injEq, true_and]
      · rw [if_pos (by intro e; exact he (UInt8.toNat_inj.1 (by omega)))]
        simp only [List.cons.injEq, he, false_and, if_false]
    · rw [if_neg (by omega), drop_end hlt, drop_end (xs := b.Data) (by omega)]
      rfl

theorem Agree_eq (K : Nat) (a b : api_Entry) (hx : a.Data.length < 9223372036854775807) (hK : a.Data.length < K) : workflowref52_Agree K a b = some (decide (a = b)) := by
  unfold workflowref52_Agree
  by_cases h : a.Epoch = b.Epoch
  · rw [if_neg (by simpa using h)]
    by_cases h2 : a.Data.length = b.Data.length
    · rw [if_neg (by omega), show (0 : Int) = ((0 : Nat) : Int) from rfl, Agree_l15' K a b h2 hx K 0 (by omega) (by omega)]
      simp only [List.drop_zero]
      by_cases h3 : a.Data = b.Data
      · rw [if_pos h3, show a = b from entry_ext.2 ⟨h, h3⟩]
        simp [obind]
      · rw [if_neg h3]
        have : ¬ a = b := fun e => h3 (by rw [e])
        simp [obind, this]
    · rw [if_pos (by omega)]
      have : ¬ a = b := fun e => h2 (by rw [e])
      simp [this]
  · rw [if_pos (by simpa using h)]
    have : ¬ a = b := fun e => h (by rw [e])
    simp [this]

/-- How many entries agree, from the first on. -/
def common : List api_Entry → List api_Entry → Nat
  | x :: xs, y :: ys => if x = y then common xs ys + 1 else 0
  | _, _ => 0

theorem common_le : ∀ (xs ys : List api_Entry), common xs ys ≤ xs.length ∧ common xs ys ≤ ys.length
  | [], ys => by simp [common]
  | x :: xs, [] => by simp [common]
  | x :: xs, y :: ys => by
    have := common_le xs ys
    unfold common
    split <;> simp <;> omega

theorem common_take : ∀ (xs ys : List api_Entry), xs.take (common xs ys) = ys.take (common xs ys)
  | [], ys => by simp [common]
  | x :: xs, [] => by simp [common]
  | x :: xs, y :: ys => by
    have := common_take xs ys
    unfold common
    split
    · rename_i h; subst h; simpa using this
    · rfl

theorem slc_take {α : Type} (l : List α) (p : Int) : slc l 0 p = l.take p.toNat := by simp [slc]

theorem common_full : ∀ {xs ys : List api_Entry}, ys.take xs.length = xs → common xs ys = xs.length
  | [], ys, _ => by simp [common]
  | x :: xs, [], h => by simp at h
  | x :: xs, y :: ys, h => by
    simp only [List.length_cons, List.take_succ_cons, List.cons.injEq] at h
    unfold common
    rw [if_pos h.1.symm, common_full h.2, List.length_cons]

/-- A replica with few entries, each of which can be copied. -/
def Held (r : api_Replica) (D : Nat) : Prop := r.Log.length ≤ 2000 ∧ ∀ x ∈ r.Log, x.Data.length ≤ D

theorem common_comm : ∀ (xs ys : List api_Entry), common xs ys = common ys xs
  | [], ys => by cases ys <;> simp [common]
  | x :: xs, [] => by simp [common]
  | x :: xs, y :: ys => by
    unfold common
    by_cases h : x = y
    · rw [if_pos h, if_pos h.symm, common_comm xs ys]
    · rw [if_neg h, if_neg (fun e => h e.symm)]

theorem rCommonH_l7 (K D : Nat) (a b : api_Replica) (hf : Held a D) (hb : Held b D) (hK : D < K) (hD : D ≤ 140737488355328) : ∀ (k n : Nat), a.Log.length - n < k → n ≤ a.Log.length →
    workflowref52_Common.l7 K a b k (n : Int) = some ((n + common (a.Log.drop n) (b.Log.drop n) : Nat) : Int) := by
  obtain ⟨hl, hd⟩ := hf
  have hbl := hb.1
  intro k
  induction k with
  | zero => intro n h; omega
  | succ k ih =>
    intro n h hn
    unfold workflowref52_Common.l7
    by_cases hlt : n < a.Log.length
    · by_cases hlt2 : n < b.Log.length
      · rw [if_pos (by omega), if_pos (by omega), if_pos (by omega), if_pos (by omega), Int.toNat_natCast,
          Agree_eq K _ _ (by have := hd _ (getD_mem hlt z_api_Entry); omega) (by have := hd _ (getD_mem hlt z_api_Entry); omega),
          wrap_succ (by omega), ih (n + 1) (by omega) (by omega), drop_step hlt z_api_Entry, drop_step hlt2 z_api_Entry]
        simp only [Option.bind_some, common, decide_eq_true_eq]
        by_cases he : a.Log.getD n z_api_Entry = b.Log.getD n z_api_Entry
        · rw [if_pos he, if_pos he]
          congr 2
          omega
        · rw [if_neg he, if_neg he]
          congr 2
      · rw [if_pos (by omega), if_neg (by omega), drop_end hlt2]
        congr 2
        cases a.Log.drop n <;> simp [common]
    · rw [if_neg (by omega), drop_end hlt]
      congr 2

theorem rCommonH_eq (K D : Nat) (a b : api_Replica) (hf : Held a D) (hb : Held b D) (hK : D < K) (hK2 : 2000 < K) (hD : D ≤ 140737488355328) : workflowref52_Common K a b = some ((common a.Log b.Log : Nat) : Int) := by
  unfold workflowref52_Common
  have h := rCommonH_l7 K D a b hf hb hK hD K 0 (by have := hf.1; omega) (by omega)
  rw [show ((0 : Nat) : Int) = 0 from rfl] at h
  rw [h]
  simp

theorem Common_l7' (K : Nat) (a b : api_Replica) (ha : a.Log.length ≤ 2000) (hb : b.Log.length ≤ 2000) : ∀ (k n : Nat), a.Log.length - n < k → n ≤ a.Log.length →
    replog_Common.l7 K a b k (n : Int) = some ((n + common (a.Log.drop n) (b.Log.drop n) : Nat) : Int) := by
  intro k
  induction k with
  | zero => intro n h; omega
  | succ k ih =>
    intro n h hn
    unfold replog_Common.l7
    by_cases hlt : n < a.Log.length
    · by_cases hlt2 : n < b.Log.length
      · rw [if_pos (by omega), if_pos (by omega), if_pos (by omega), if_pos (by omega), Int.toNat_natCast, agree_eq,
          wrap_succ (by omega), ih (n + 1) (by omega) (by omega), drop_step hlt z_api_Entry, drop_step hlt2 z_api_Entry]
        simp only [Option.bind_some, common, decide_eq_true_eq]
        by_cases he : a.Log.getD n z_api_Entry = b.Log.getD n z_api_Entry
        · rw [if_pos he, if_pos he]
          congr 2
          omega
        · rw [if_neg he, if_neg he]
          congr 2
      · rw [if_pos (by omega), if_neg (by omega), drop_end hlt2]
        congr 2
        cases a.Log.drop n <;> simp [common]
    · rw [if_neg (by omega), drop_end hlt]
      congr 2

theorem Common_eq (K : Nat) (a b : api_Replica) (ha : a.Log.length ≤ 2000) (hb : b.Log.length ≤ 2000) (hK : 2000 < K) : replog_Common K a b = some ((common a.Log b.Log : Nat) : Int) := by
  unfold replog_Common
  have h := Common_l7' K a b ha hb K 0 (by omega) (by omega)
  rw [show ((0 : Nat) : Int) = 0 from rfl] at h
  rw [h]
  simp

/-! #### committed entries -/
def commitN (r : api_Replica) : Nat := min r.Log.length r.Commit.toNat

theorem rCommitted_l9 (K : Nat) (r : api_Replica) (hl : r.Log.length ≤ 2000) : ∀ (k n : Nat), r.Log.length - n < k → n ≤ r.Log.length → (n : Int) ≤ r.Commit ∨ n = 0 →
    workflowref52_Committed.l9 K r k (n : Int) ((r.Log.take n).map (·.Data)) = some ((r.Log.take (commitN r)).map (·.Data)) := by
  intro k
  induction k with
  | zero => intro n h; omega
  | succ k ih =>
    intro n h hn hc
    unfold workflowref52_Committed.l9
    by_cases hlt : n < r.Log.length
    · rw [if_pos (by omega)]
      by_cases hlt2 : (n : Int) < r.Commit
      · rw [if_pos hlt2, if_pos (by omega), if_pos (by simp; omega), Int.toNat_natCast, wrap_succ (by omega)]
        have e : (r.Log.take n).map (·.Data) ++ [(r.Log.getD n z_api_Entry).Data] = (r.Log.take (n + 1)).map (·.Data) := by
          rw [List.take_succ_eq_append_getElem hlt, List.map_append]
          simp [List.getD_eq_getElem?_getD, hlt]
        rw [e]
        exact ih (n + 1) (by omega) (by omega) (by omega)
      · rw [if_neg hlt2, show commitN r = n from by unfold commitN; omega]
    · rw [if_neg (by omega), show commitN r = n from by unfold commitN; omega]

theorem rCommitted_eq (K : Nat) (r : api_Replica) (hl : r.Log.length ≤ 2000) (hK : 2000 < K) : workflowref52_Committed K r = some ((r.Log.take (commitN r)).map (·.Data)) := by
  unfold workflowref52_Committed
  have h := rCommitted_l9 K r hl K 0 (by omega) (by omega) (.inr rfl)
  rw [show ((0 : Nat) : Int) = 0 from rfl] at h
  simp only [List.take_zero, List.map_nil] at h
  rw [h]
  rfl


theorem CloneH_eq (K : Nat) (l : List UInt8) (h : l.length ≤ 140737488355328) : bytes_Clone_38 K l = some l := by
  unfold bytes_Clone_38
  rw [if_pos (by omega)]

theorem Committed_l9 (K : Nat) (r : api_Replica) (hl : r.Log.length ≤ 2000) (hd : ∀ x ∈ r.Log, x.Data.length ≤ 140737488355328) : ∀ (k n : Nat), commitN r - n < k → n ≤ commitN r →
    replog_Committed.l9 K r k (n : Int) ((r.Log.take n).map (·.Data)) = some ((r.Log.take (commitN r)).map (·.Data)) := by
  have hs : (slc r.Log 0 ((if (r.Log.length : Int) < (if (0 : Int) > r.Commit then 0 else r.Commit) then (r.Log.length : Int) else (if (0 : Int) > r.Commit then 0 else r.Commit)))) = r.Log.take (commitN r) := by
    rw [slc_take]
    congr 1
    unfold commitN
    split <;> split <;> omega
  have hlen : (r.Log.take (commitN r)).length = commitN r := by rw [List.length_take]; unfold commitN; omega
  intro k
  induction k with
  | zero => intro n h; omega
  | succ k ih =>
    intro n h hn
    have hcl : commitN r ≤ r.Log.length := by unfold commitN; omega
    unfold replog_Committed.l9
    rw [hs, hlen]
    by_cases hlt : n < commitN r
    · have hlt2 : n < r.Log.length := by omega
      have hg : (r.Log.take (commitN r)).getD n z_api_Entry = r.Log.getD n z_api_Entry := by
        rw [List.getD_eq_getElem?_getD, List.getD_eq_getElem?_getD, List.getElem?_take, if_pos hlt]
      rw [if_pos (by omega), if_pos (by omega), Int.toNat_natCast, hg, CloneH_eq _ _ (hd _ (getD_mem hlt2 _))]
      simp only [Option.bind_some]
      rw [if_pos (by simp; omega), wrap_succ (by omega)]
      have e : (r.Log.take n).map (·.Data) ++ [(r.Log.getD n z_api_Entry).Data] = (r.Log.take (n + 1)).map (·.Data) := by
        rw [List.take_succ_eq_append_getElem hlt2, List.map_append]
        simp [List.getD_eq_getElem?_getD, hlt2]
      rw [e]
      exact ih (n + 1) (by omega) (by omega)
    · rw [if_neg (by omega), show n = commitN r from by omega]

theorem Committed_eq (K : Nat) (r : api_Replica) (hl : r.Log.length ≤ 2000) (hd : ∀ x ∈ r.Log, x.Data.length ≤ 140737488355328) (hK : 2000 < K) : replog_Committed K r = some ((r.Log.take (commitN r)).map (·.Data)) := by
  unfold replog_Committed
  rw [if_pos (by split <;> split <;> omega)]
  have h := Committed_l9 K r hl hd K 0 (by unfold commitN; omega) (by omega)
  rw [show ((0 : Nat) : Int) = 0 from rfl] at h
  simp only [List.take_zero, List.map_nil] at h
  rw [h]
  rfl

theorem SameData_l15 (K D : Nat) (l : List (List UInt8)) (hl : l.length ≤ 2000) (hd : ∀ x ∈ l, x.length ≤ D) (hK : D < K) (hD : D ≤ 140737488355328) : ∀ (k n : Nat), l.length - n < k → n ≤ l.length →
    workflowref52_SameData.l15 K l l k (n : Int) = some (Out.go ()) := by
  intro k
  induction k with
  | zero => intro n h; omega
  | succ k ih =>
    intro n h hn
    unfold workflowref52_SameData.l15
    by_cases hlt : n < l.length
    · have hm := hd _ (getD_mem hlt ([] : List UInt8))
      rw [if_pos (by omega), if_pos (by omega), if_pos (by omega), Int.toNat_natCast, Agree_eq K _ _ (by show (l.getD n ([] : List UInt8)).length < _; omega) (by show (l.getD n ([] : List UInt8)).length < _; omega)]
      simp only [Option.bind_some, decide_true, if_true]
      rw [wrap_succ (by omega)]
      exact ih (n + 1) (by omega) (by omega)
    · rw [if_neg (by omega)]

theorem SameData_eq (K D : Nat) (l : List (List UInt8)) (hl : l.length ≤ 2000) (hd : ∀ x ∈ l, x.length ≤ D) (hK : D < K) (hK2 : 2000 < K) (hD : D ≤ 140737488355328) : workflowref52_SameData K l l = some true := by
  unfold workflowref52_SameData
  have h := SameData_l15 K D l hl hd hK hD K 0 (by omega) (by omega)
  rw [show ((0 : Nat) : Int) = 0 from rfl] at h
  rw [if_neg (by simp), h]
  rfl

/-! #### Same -/
theorem EqualFunc_l15 (K : Nat) (xs ys : List api_Entry) (hl : xs.length ≤ 2000) (he : xs.length = ys.length) : ∀ (k n : Nat), xs.length - n < k → n ≤ xs.length →
    slices_EqualFunc_40.l15 K xs ys k (n : Int) = some (if xs.drop n = ys.drop n then Out.go () else Out.done false) := by
  intro k
  induction k with
  | zero => intro n h; omega
  | succ k ih =>
    intro n h hn
    unfold slices_EqualFunc_40.l15
    by_cases hlt : n < xs.length
    · rw [if_pos (by omega), if_pos (by omega), if_pos (by omega), Int.toNat_natCast, agree_eq, wrap_succ (by omega), ih (n + 1) (by omega) (by omega), drop_step hlt z_api_Entry, drop_step (xs := ys) (n := n) (by omega) z_api_Entry]
      simp only [Option.bind_some, decide_eq_true_eq]
      by_cases h1 : xs.getD n z_api_Entry = ys.getD n z_api_Entry
      · rw [if_pos h1]
        simp only [h1, List.cons.injEq, true_and]
      · rw [if_neg h1]
        simp only [List.cons.injEq, h1, false_and, if_false]
    · rw [if_neg (by omega), drop_end hlt, drop_end (xs := ys) (by omega)]
      rfl

def sameB (a b : api_Replica) : Bool := decide (a.Epoch = b.Epoch) && (decide (a.Vote = b.Vote) && (decide (a.Commit = b.Commit) && decide (a.Log = b.Log)))

theorem SameP_eq (K : Nat) (a b : api_Replica) (ha : a.Log.length ≤ 2000) (hK : 2000 < K) : replog_Same K a b = some (sameB a b) := by
  unfold replog_Same sameB
  by_cases h1 : a.Epoch = b.Epoch
  · rw [if_pos h1]
    by_cases h2 : a.Vote = b.Vote
    · rw [if_pos h2]
      by_cases h3 : a.Commit = b.Commit
      · rw [if_pos h3]
        unfold slices_EqualFunc_40
        by_cases h4 : a.Log.length = b.Log.length
        · have h := EqualFunc_l15 K a.Log b.Log ha h4 K 0 (by omega) (by omega)
          rw [show ((0 : Nat) : Int) = 0 from rfl] at h
          simp only [List.drop_zero] at h
          rw [if_neg (by omega), h]
          by_cases h5 : a.Log = b.Log
          · rw [if_pos h5]; simp [obind, h1, h2, h3, h5]
          · rw [if_neg h5]; simp [obind, h1, h2, h3, h5]
        · have h5 : ¬ a.Log = b.Log := fun e => h4 (by rw [e])
          rw [if_pos (by omega)]; simp [h1, h2, h3, h5]
      · rw [if_neg h3]; simp [h3]
    · rw [if_neg h2]; simp [h2]
  · rw [if_neg h1]; simp [h1]

theorem rSame_eq (K D : Nat) (a b : api_Replica) (ha : Held a D) (hb : Held b D) (hK : D < K) (hK2 : 2000 < K) (hD : D ≤ 140737488355328) : workflowref52_Same K a b = some (sameB a b) := by
  unfold workflowref52_Same sameB
  by_cases h1 : a.Epoch = b.Epoch
  · rw [if_pos h1]
    by_cases h2 : a.Vote = b.Vote
    · rw [if_pos h2]
      by_cases h3 : a.Commit = b.Commit
      · rw [if_pos h3]
        by_cases h4 : a.Log.length = b.Log.length
        · rw [if_pos (by omega), rCommonH_eq K D a b ha hb hK hK2 hD]
          simp only [Option.bind_some]
          congr 1
          by_cases h5 : a.Log = b.Log
          · have : common b.Log b.Log = b.Log.length := common_full (by rw [List.take_length])
            simp [h1, h2, h3, h5, this]
          · have : common a.Log b.Log ≠ a.Log.length := fun e => h5 (by
              have h6 := common_take a.Log b.Log
              rw [e, List.take_length, h4, List.take_length] at h6
              exact h6)
            simp only [h1, h2, h3, h5, decide_true, decide_false, Bool.true_and, Bool.and_false, decide_eq_false_iff_not]
            omega
        · have h5 : ¬ a.Log = b.Log := fun e => h4 (by rw [e])
          rw [if_neg (by omega)]; simp [h5]
      · rw [if_neg h3]; simp [h3]
    · rw [if_neg h2]; simp [h2]
  · rw [if_neg h1]; simp [h1]

/-- The greatest length of the data of entries. -/
def most (l : List api_Entry) : Nat := l.foldr (fun x m => max x.Data.length m) 0
theorem most_ge : ∀ (l : List api_Entry) (x : api_Entry), x ∈ l → x.Data.length ≤ most l
  | [], x, h => by cases h
  | y :: l, x, h => by
    unfold most
    rw [List.foldr_cons]
    rcases List.mem_cons.1 h with rfl | h
    · omega
    · have := most_ge l x h; unfold most at this; omega

end Go.Proofs.Ytmafcdkdcfaajaa
