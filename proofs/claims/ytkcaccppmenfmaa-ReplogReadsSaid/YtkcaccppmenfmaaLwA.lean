/- What the functions of the ballot and of the replicated log compute, as plain functions on lists; and that the laws on them answer with true. -/
import Derived.Test.YtkcaccppmenfmaaFn4
set_option linter.unusedVariables false
set_option linter.unusedSimpArgs false
namespace Go.Proofs.Ytkcaccppmenfmaa
open Eng


/-! #### large -/
theorem large_l15 (K : Nat) (r : api_Replica) (hl : r.Log.length ≤ 60) : ∀ (k n : Nat), r.Log.length - n < k → n ≤ r.Log.length →
    workflowlaw54_large.l15 K r k (n : Int) = some (if ∀ x ∈ r.Log.drop n, x.Data.length ≤ 200 then Out.go () else Out.done true) := by
  intro k
  induction k with
  | zero => intro n h; omega
  | succ k ih =>
    intro n h hn
    unfold workflowlaw54_large.l15
    by_cases hlt : n < r.Log.length
    · rw [if_pos (by omega), if_pos (by omega), Int.toNat_natCast, wrap_succ (by omega), ih (n + 1) (by omega) (by omega), drop_step hlt (⟨(0 : Int), ([] : List UInt8)⟩ : api_Entry)]
      by_cases hd : (r.Log.getD n (⟨(0 : Int), ([] : List UInt8)⟩ : api_Entry)).Data.length ≤ 200
      · rw [if_neg (by omega)]
        simp only [List.forall_mem_cons, hd, true_and]
      · rw [if_pos (by omega)]
        simp only [List.forall_mem_cons, hd, false_and, if_false]
    · rw [if_neg (by omega), drop_end hlt]
      simp

def Small (r : api_Replica) : Prop := r.Log.length ≤ 60 ∧ ∀ x ∈ r.Log, x.Data.length ≤ 200

theorem large_eq (K : Nat) (r : api_Replica) (hK : 61 ≤ K) : (Small r ∧ workflowlaw54_large K r = some false) ∨ (¬ Small r ∧ workflowlaw54_large K r = some true) := by
  unfold workflowlaw54_large Small
  by_cases h : r.Log.length ≤ 60
  · rw [if_neg (by omega), show (0 : Int) = ((0 : Nat) : Int) from rfl, large_l15 K r h K 0 (by omega) (by omega)]
    simp only [List.drop_zero]
    by_cases h2 : ∀ x ∈ r.Log, x.Data.length ≤ 200
    · rw [if_pos h2]; exact .inl ⟨⟨h, h2⟩, rfl⟩
    · rw [if_neg h2]; exact .inr ⟨fun h3 => h2 h3.2, rfl⟩
  · rw [if_pos (by omega)]; exact .inr ⟨fun h3 => h h3.1, rfl⟩

/-! #### Right -/
theorem in_eq (K : Nat) (a b c : Int) : replog_in K a b c = some (decide (b ≤ a ∧ a ≤ c)) := by
  unfold replog_in
  split
  · rename_i h; congr 1; simp; omega
  · rename_i h; congr 1; simp; omega

theorem rin_eq (K : Nat) (a b c : Int) : workflowref52_in K a b c = some (decide (b ≤ a ∧ a ≤ c)) := by
  unfold workflowref52_in
  split
  · rename_i h; congr 1; simp; omega
  · rename_i h; congr 1; simp; omega

/-- The last epoch of rising entries. -/
def riseL : List api_Entry → Int → Option Int
  | [], lo => some lo
  | e :: es, lo => if e.Epoch < (if (1 : Int) > lo then 1 else lo) then none else if (e.Data.length : Int) > 65536 then none else riseL es e.Epoch

theorem rising_l7 (K : Nat) (xs : List api_Entry) (hx : xs.length < 9223372036854775807) : ∀ (k n : Nat) (lo : Int), xs.length - n < k → n ≤ xs.length →
    replog_rising.l7 K xs k lo (n : Int) = some (match riseL (xs.drop n) lo with | none => Out.done false | some m => Out.go m) := by
  intro k
  induction k with
  | zero => intro n lo h; omega
  | succ k ih =>
    intro n lo h hn
    unfold replog_rising.l7
    by_cases hlt : n < xs.length
    · rw [if_pos (by omega), if_pos (by omega), Int.toNat_natCast, wrap_succ (by omega), ih (n + 1) _ (by omega) (by omega), drop_step hlt (⟨(0 : Int), ([] : List UInt8)⟩ : api_Entry)]
      simp only [riseL]
      generalize xs.getD n (⟨(0 : Int), ([] : List UInt8)⟩ : api_Entry) = e
      by_cases h1 : e.Epoch < (if (1 : Int) > lo then 1 else lo)
      · rw [if_pos h1, if_pos h1]
      · rw [if_neg h1, if_neg h1]
        by_cases h2 : (e.Data.length : Int) > 65536
        · rw [if_pos h2, if_pos h2]
        · rw [if_neg h2, if_neg h2]
    · rw [if_neg (by omega), drop_end hlt]
      rfl

theorem rising_eq (K : Nat) (xs : List api_Entry) (lo top : Int) (hx : xs.length < 9223372036854775807) (hK : xs.length < K) :
    replog_rising K xs lo top = some (match riseL xs lo with | none => false | some m => decide (m ≤ top)) := by
  unfold replog_rising
  rw [show (0 : Int) = ((0 : Nat) : Int) from rfl, rising_l7 K xs hx K 0 lo (by omega) (by omega)]
  simp only [List.drop_zero]
  cases riseL xs lo <;> rfl

def okL : List api_Entry → Int → Int → Bool
  | [], _, _ => true
  | e :: es, lo, top => decide (lo ≤ e.Epoch ∧ e.Epoch ≤ top) && (decide (e.Data.length ≤ 65536) && okL es e.Epoch top)

theorem right_l17 (K : Nat) (r : api_Replica) (hx : r.Log.length < 9223372036854775807) : ∀ (k n : Nat) (lo : Int), r.Log.length - n < k → n ≤ r.Log.length →
    workflowref52_Right.l17 K r k lo (n : Int) = some (if okL (r.Log.drop n) lo r.Epoch = true then Out.go () else Out.done false) := by
  intro k
  induction k with
  | zero => intro n lo h; omega
  | succ k ih =>
    intro n lo h hn
    unfold workflowref52_Right.l17
    by_cases hlt : n < r.Log.length
    · rw [if_pos (by omega), if_pos (by omega), Int.toNat_natCast, wrap_succ (by omega), ih (n + 1) _ (by omega) (by omega), drop_step hlt (⟨(0 : Int), ([] : List UInt8)⟩ : api_Entry)]
      simp only [okL, rin_eq, Option.bind_some]
      generalize r.Log.getD n (⟨(0 : Int), ([] : List UInt8)⟩ : api_Entry) = e
      by_cases h1 : lo ≤ e.Epoch ∧ e.Epoch ≤ r.Epoch
      · by_cases h2 : e.Data.length ≤ 65536
        · rw [if_pos (by simpa using h1), if_neg (by omega)]
          simp [h1, h2]
        · rw [if_pos (by simpa using h1), if_pos (by omega)]
          simp [h2]
      · rw [if_neg (by simpa using h1)]
        simp only [h1, decide_false, Bool.false_and, Bool.false_eq_true, if_false]
    · rw [if_neg (by omega), drop_end hlt]
      rfl

theorem riseL_le {xs : List api_Entry} : ∀ {lo m : Int}, riseL xs lo = some m → lo ≤ m := by
  induction xs with
  | nil => intro lo m h; cases h; exact Int.le_refl _
  | cons e es ih =>
    intro lo m h
    unfold riseL at h
    by_cases h1 : e.Epoch < (if (1 : Int) > lo then 1 else lo)
    · rw [if_pos h1] at h; cases h
    · rw [if_neg h1] at h
      by_cases h2 : (e.Data.length : Int) > 65536
      · rw [if_pos h2] at h; cases h
      · rw [if_neg h2] at h
        have := ih h
        split at h1 <;> omega

theorem okL_rise {xs : List api_Entry} : ∀ {lo top : Int}, lo ≤ top → okL xs (if (1 : Int) > lo then 1 else lo) top = (match riseL xs lo with | none => false | some m => decide (m ≤ top)) := by
  induction xs with
  | nil => intro lo top h; simp [okL, riseL, h]
  | cons e es ih =>
    intro lo top h
    unfold riseL okL
    by_cases h1 : e.Epoch < (if (1 : Int) > lo then 1 else lo)
    · rw [if_pos h1]
      simp only [show ¬ ((if (1 : Int) > lo then 1 else lo) ≤ e.Epoch ∧ e.Epoch ≤ top) from by omega, decide_false, Bool.false_and]
    · rw [if_neg h1]
      by_cases h2 : (e.Data.length : Int) > 65536
      · rw [if_pos h2]
        simp only [show ¬ (e.Data.length ≤ 65536) from by omega, decide_false, Bool.false_and, Bool.and_false]
      · rw [if_neg h2]
        have he : ¬ (1 : Int) > e.Epoch := by split at h1 <;> omega
        by_cases h3 : e.Epoch ≤ top
        · have := ih (lo := e.Epoch) (top := top) h3
          rw [if_neg he] at this
          rw [← this]
          simp only [show ((if (1 : Int) > lo then 1 else lo) ≤ e.Epoch ∧ e.Epoch ≤ top) from ⟨by omega, h3⟩, decide_true, and_self, Bool.true_and, show (e.Data.length ≤ 65536) from by omega]
        · simp only [show ¬ ((if (1 : Int) > lo then 1 else lo) ≤ e.Epoch ∧ e.Epoch ≤ top) from by omega, decide_false, Bool.false_and]
          cases hr : riseL es e.Epoch with
          | none => rfl
          | some m => have := riseL_le hr; simp; omega

def rightB (r : api_Replica) : Bool :=
  decide (0 ≤ r.Epoch ∧ r.Epoch ≤ 1099511627776) && (decide (-1 ≤ r.Vote ∧ r.Vote ≤ 8) && (decide (r.Log.length ≤ 5000) && (decide (0 ≤ r.Commit ∧ r.Commit ≤ r.Log.length) && okL r.Log 1 r.Epoch)))

theorem rRight_eq (K : Nat) (r : api_Replica) (hK : 5001 ≤ K) : workflowref52_Right K r = some (rightB r) := by
  unfold workflowref52_Right rightB
  simp only [rin_eq, Option.bind_some]
  by_cases h1 : 0 ≤ r.Epoch ∧ r.Epoch ≤ 1099511627776
  · by_cases h2 : -1 ≤ r.Vote ∧ r.Vote ≤ 8
    · by_cases h3 : r.Log.length ≤ 5000
      · by_cases h4 : 0 ≤ r.Commit ∧ r.Commit ≤ r.Log.length
        · rw [if_pos (by simpa using h1), if_pos (by simpa using h2), if_neg (by omega), if_pos (by simpa using h4), show (0 : Int) = ((0 : Nat) : Int) from rfl, right_l17 K r (by omega) K 0 1 (by omega) (by omega)]
          simp only [h1, h2, h3, h4, decide_true, Bool.true_and, List.drop_zero]
          cases okL r.Log 1 r.Epoch <;> simp [obind, h1, h4]
        · rw [if_pos (by simpa using h1), if_pos (by simpa using h2), if_neg (by omega), if_neg (by simpa using h4)]
          simp only [h1, h2, h3, h4, and_self, decide_true, decide_false, Bool.true_and, Bool.false_and]
      · rw [if_pos (by simpa using h1), if_pos (by simpa using h2), if_pos (by omega)]
        simp only [h1, h2, h3, and_self, decide_true, decide_false, Bool.true_and, Bool.false_and]
    · rw [if_pos (by simpa using h1), if_neg (by simpa using h2)]
      simp only [h1, h2, and_self, decide_true, decide_false, Bool.true_and, Bool.false_and]
  · rw [if_neg (by simpa using h1)]
    simp only [h1, decide_false, Bool.false_and]

theorem Right_eq (K : Nat) (r : api_Replica) (hK : 5001 ≤ K) : replog_Right K r = some (rightB r) := by
  unfold replog_Right rightB
  simp only [in_eq, Option.bind_some]
  by_cases h1 : 0 ≤ r.Epoch ∧ r.Epoch ≤ 1099511627776
  · by_cases h2 : -1 ≤ r.Vote ∧ r.Vote ≤ 8
    · by_cases h3 : r.Log.length ≤ 5000
      · by_cases h4 : 0 ≤ r.Commit ∧ r.Commit ≤ r.Log.length
        · rw [if_pos (by simpa using h1), if_pos (by simpa using h2), if_pos (by omega), if_pos (by simpa using h4), rising_eq K r.Log 0 r.Epoch (by omega) (by omega)]
          have := okL_rise (xs := r.Log) (lo := 0) (top := r.Epoch) h1.1
          rw [if_pos (by omega)] at this
          rw [← this]
          simp only [h1, h2, h3, h4, decide_true, Bool.true_and, Option.bind_some, and_self]
        · rw [if_pos (by simpa using h1), if_pos (by simpa using h2), if_pos (by omega), if_neg (by simpa using h4)]
          simp only [h1, h2, h3, h4, and_self, decide_true, decide_false, Bool.true_and, Bool.false_and]
      · rw [if_pos (by simpa using h1), if_pos (by simpa using h2), if_neg (by omega)]
        simp only [h1, h2, h3, and_self, decide_true, decide_false, Bool.true_and, Bool.false_and]
    · rw [if_pos (by simpa using h1), if_neg (by simpa using h2)]
      simp only [h1, h2, and_self, decide_true, decide_false, Bool.true_and, Bool.false_and]
  · rw [if_neg (by simpa using h1)]
    simp only [h1, decide_false, Bool.false_and]

/-! #### copies -/
theorem Clone_eq (K : Nat) (l : List UInt8) (h : l.length ≤ 65536) : bytes_Clone K l = some l := by
  unfold bytes_Clone
  rw [if_pos (by omega)]

theorem okL_data {xs : List api_Entry} : ∀ {lo top : Int}, okL xs lo top = true → ∀ x ∈ xs, x.Data.length ≤ 65536 := by
  induction xs with
  | nil => intro lo top _ x hx; cases hx
  | cons e es ih =>
    intro lo top h x hx
    unfold okL at h
    simp only [Bool.and_eq_true, decide_eq_true_eq] at h
    rcases List.mem_cons.1 hx with rfl | hx
    · exact h.2.1
    · exact ih h.2.2 x hx

def Fit (r : api_Replica) : Prop := r.Log.length ≤ 5000 ∧ ∀ x ∈ r.Log, x.Data.length ≤ 65536

theorem rightB_fit {r : api_Replica} (h : rightB r = true) : Fit r := by
  unfold rightB at h
  simp only [Bool.and_eq_true, decide_eq_true_eq] at h
  exact ⟨h.2.2.1, okL_data h.2.2.2.2⟩

theorem replica_l9 (K : Nat) (r : api_Replica) (hf : Fit r) : ∀ (k n : Nat), r.Log.length - n < k → n ≤ r.Log.length →
    ballot_replica.l9 K r k (n : Int) (r.Log.take n) = some r.Log := by
  obtain ⟨hl, hd⟩ := hf
  intro k
  induction k with
  | zero => intro n h; omega
  | succ k ih =>
    intro n h hn
    unfold ballot_replica.l9
    by_cases hlt : n < r.Log.length
    · rw [if_pos (by omega), if_pos (by omega), Int.toNat_natCast, wrap_succ (by omega)]
      have hm := getD_mem hlt (⟨(0 : Int), ([] : List UInt8)⟩ : api_Entry)
      rw [Clone_eq _ _ (hd _ hm)]
      simp only [Option.bind_some]
      rw [if_pos (by simp; omega)]
      have e : r.Log.take n ++ [(⟨(r.Log.getD n (⟨(0 : Int), ([] : List UInt8)⟩ : api_Entry)).Epoch, (r.Log.getD n (⟨(0 : Int), ([] : List UInt8)⟩ : api_Entry)).Data⟩ : api_Entry)] = r.Log.take (n + 1) := by
        have e0 : r.Log.getD n (⟨(0 : Int), ([] : List UInt8)⟩ : api_Entry) = r.Log[n] := by simp [List.getD_eq_getElem?_getD, hlt]
        rw [e0]
        exact (List.take_succ_eq_append_getElem hlt).symm
      rw [e]
      exact ih (n + 1) (by omega) (by omega)
    · rw [if_neg (by omega), List.take_of_length_le (by omega)]

theorem replica_eq (K : Nat) (r : api_Replica) (hf : Fit r) (hK : 5001 ≤ K) : ballot_replica K r = some r := by
  unfold ballot_replica
  have := replica_l9 K r hf K 0 (by have := hf.1; omega) (by omega)
  simp only [List.take_zero] at this
  rw [show (0 : Int) = ((0 : Nat) : Int) from rfl, this]
  rfl

theorem Observe_eq (K : Nat) (r : api_Replica) (e : Int) (hf : Fit r) (hK : 5001 ≤ K) : ballot_Observe K r e = workflowref54_Observe K r e := by
  unfold ballot_Observe workflowref54_Observe
  rw [replica_eq K r hf hK]
  rfl

def obs (r : api_Replica) (e : Int) : api_Replica := if e > r.Epoch then ⟨e, -1, r.Commit, r.Log⟩ else r

theorem rObserve_eq (K : Nat) (r : api_Replica) (e : Int) : workflowref54_Observe K r e = some (obs r e) := by
  unfold workflowref54_Observe obs
  split <;> rfl

theorem obs_log (r : api_Replica) (e : Int) : (obs r e).Log = r.Log := by unfold obs; split <;> rfl

theorem cand_eq (K : Nat) (c : Int) : ballot_candidate K c = some (decide (0 ≤ c ∧ c < 9)) := by
  unfold ballot_candidate
  split
  · rename_i h; congr 1; simp; omega
  · rename_i h; congr 1; simp; omega

theorem member_eq (K : Nat) (c : Int) : workflowref54_member K c = some (decide (0 ≤ c ∧ c < 9)) := by
  unfold workflowref54_member
  split
  · rename_i h; congr 1; simp; omega
  · rename_i h; congr 1; simp; omega

def lastE (r : api_Replica) : Int := match r.Log.getLast? with | some x => x.Epoch | none => 0

theorem rLast_eq (K : Nat) (r : api_Replica) (hl : r.Log.length < 9223372036854775807) : workflowref52_Last K r = some ((r.Log.length : Int), lastE r) := by
  unfold workflowref52_Last lastE
  by_cases h : r.Log.length = 0
  · rw [if_pos (by omega), List.length_eq_zero_iff.1 h]
    rfl
  · rw [if_neg (by omega), wrap_small (by omega) (by omega), if_pos (by omega)]
    have : Int.toNat ((r.Log.length : Int) - 1) = r.Log.length - 1 := by omega
    rw [this, List.getLast?_eq_getElem?, List.getD_eq_getElem?_getD, List.getElem?_eq_getElem (by omega)]
    rfl

theorem Last_eq (K : Nat) (r : api_Replica) (hl : r.Log.length < 9223372036854775807) : replog_Last K r = some ((r.Log.length : Int), lastE r) := rLast_eq K r hl

/-! #### Same -/
theorem Agree_l15 (K : Nat) (a : api_Entry) (hx : a.Data.length < 9223372036854775807) : ∀ (k n : Nat), a.Data.length - n < k → n ≤ a.Data.length →
    workflowref52_Agree.l15 K a a k (n : Int) = some (Out.go ()) := by
  intro k
  induction k with
  | zero => intro n h; omega
  | succ k ih =>
    intro n h hn
    unfold workflowref52_Agree.l15
    by_cases hlt : n < a.Data.length
    · rw [if_pos (by omega), if_pos (by omega), if_pos (by omega), if_neg (by simp), wrap_succ (by omega)]
      exact ih (n + 1) (by omega) (by omega)
    · rw [if_neg (by omega)]

theorem Agree_self (K : Nat) (a : api_Entry) (hx : a.Data.length ≤ 65536) (hK : 65537 ≤ K) : workflowref52_Agree K a a = some true := by
  unfold workflowref52_Agree
  rw [if_neg (by simp), if_neg (by simp), show (0 : Int) = ((0 : Nat) : Int) from rfl, Agree_l15 K a (by omega) K 0 (by omega) (by omega)]
  rfl

theorem Common_l7 (K : Nat) (a b : api_Replica) (hab : a.Log = b.Log) (hf : Fit a) (hK : 65537 ≤ K) : ∀ (k n : Nat), a.Log.length - n < k → n ≤ a.Log.length →
    workflowref52_Common.l7 K a b k (n : Int) = some (a.Log.length : Int) := by
  obtain ⟨hl, hd⟩ := hf
  intro k
  induction k with
  | zero => intro n h; omega
  | succ k ih =>
    intro n h hn
    unfold workflowref52_Common.l7
    rw [← hab]
    by_cases hlt : n < a.Log.length
    · rw [if_pos (by omega), if_pos (by omega), if_pos (by omega), if_pos (by omega), Int.toNat_natCast, Agree_self K _ (hd _ (getD_mem hlt _)) hK]
      simp only [Option.bind_some, if_true]
      rw [wrap_succ (by omega)]
      exact ih (n + 1) (by omega) (by omega)
    · rw [if_neg (by omega)]
      congr 1
      omega

theorem Same_self (K : Nat) (a : api_Replica) (hf : Fit a) (hK : 65537 ≤ K) : workflowref52_Same K a a = some true := by
  unfold workflowref52_Same workflowref52_Common
  rw [if_pos rfl, if_pos rfl, if_pos rfl, if_pos rfl, show (0 : Int) = ((0 : Nat) : Int) from rfl, Common_l7 K a a rfl hf hK K 0 (by have := hf.1; omega) (by omega)]
  simp

/-! #### Ask and Stand -/
theorem ballot_Newer_eq (K : Nat) (a b c d : Int) : ballot_Newer K a b c d = some (decide (b > d ∨ (b = d ∧ a ≥ c))) := by
  unfold ballot_Newer
  split
  · rename_i h; congr 1; simp; omega
  · rename_i h; congr 1; simp at h; simp [h]

theorem ref_Newer_eq (K : Nat) (a b c d : Int) : workflowref54_Newer K a b c d = some (decide (b > d ∨ (b = d ∧ a ≥ c))) := by
  unfold workflowref54_Newer
  split
  · rename_i h; simp [h]
  · rename_i h
    split
    · rename_i h2; simp [h2]
    · rename_i h2; simp [h, h2]

/-- What a request for a vote is answered. -/
def askB (r : api_Replica) (e c li le : Int) : api_Replica × Bool × Int :=
  if rightB r = true ∧ 1 ≤ e ∧ e ≤ 1099511627776 ∧ (0 ≤ c ∧ c < 9) ∧ 0 ≤ li ∧ 0 ≤ le then
    if e < r.Epoch then (⟨0, 0, 0, []⟩, false, 25)
    else if ((obs r e).Vote = -1 ∨ (obs r e).Vote = c) ∧ (le > lastE r ∨ (le = lastE r ∧ li ≥ r.Log.length)) then (⟨(obs r e).Epoch, c, r.Commit, r.Log⟩, true, 0)
    else (obs r e, false, 0)
  else (⟨0, 0, 0, []⟩, false, 2)

theorem obs_commit (r : api_Replica) (e : Int) : (obs r e).Commit = r.Commit := by unfold obs; split <;> rfl
theorem lastE_obs (r : api_Replica) (e : Int) : lastE (obs r e) = lastE r := by unfold lastE; rw [obs_log]

theorem rAsk_eq (K : Nat) (r : api_Replica) (e c li le : Int) (hK : 5001 ≤ K) : workflowref54_Ask K r e c li le = some (askB r e c li le) := by
  unfold workflowref54_Ask askB
  rw [rRight_eq K r hK]
  simp only [Option.bind_some]
  by_cases h0 : rightB r = true
  · have hf := rightB_fit h0
    rw [if_pos h0]
    by_cases h1 : e < 1
    · rw [if_pos h1, if_neg (by omega)]
    rw [if_neg h1]
    by_cases h2 : e > 1099511627776
    · rw [if_pos h2, if_neg (by omega)]
    rw [if_neg h2, member_eq]
    simp only [Option.bind_some, decide_eq_true_eq]
    by_cases h3 : 0 ≤ c ∧ c < 9
    · rw [if_pos h3]
      by_cases h4 : li < 0
      · rw [if_pos h4, if_neg (by omega)]
      rw [if_neg h4]
      by_cases h5 : le < 0
      · rw [if_pos h5, if_neg (by omega)]
      rw [if_neg h5, if_pos (show rightB r = true ∧ 1 ≤ e ∧ e ≤ 1099511627776 ∧ (0 ≤ c ∧ c < 9) ∧ 0 ≤ li ∧ 0 ≤ le from ⟨h0, by omega, by omega, h3, by omega, by omega⟩)]
      by_cases h6 : e < r.Epoch
      · rw [if_pos h6, if_pos h6]
      rw [if_neg h6, if_neg h6, rObserve_eq]
      simp only [Option.bind_some]
      rw [rLast_eq K _ (by rw [obs_log]; have := hf.1; omega), obs_log, lastE_obs, obs_commit]
      simp only [Option.bind_some, ref_Newer_eq, decide_eq_true_eq]
      by_cases h7 : (obs r e).Vote = -1
      · rw [if_neg (by simpa using h7)]
        by_cases h8 : le > lastE r ∨ (le = lastE r ∧ li ≥ r.Log.length)
        · rw [if_pos h8, if_pos ⟨.inl h7, h8⟩]
        · rw [if_neg h8, if_neg (fun h => h8 h.2)]
      · rw [if_pos h7]
        by_cases h9 : (obs r e).Vote = c
        · rw [if_neg (by simpa using h9)]
          by_cases h8 : le > lastE r ∨ (le = lastE r ∧ li ≥ r.Log.length)
          · rw [if_pos h8, if_pos ⟨.inr h9, h8⟩]
          · rw [if_neg h8, if_neg (fun h => h8 h.2)]
        · rw [if_pos h9, if_neg (fun h => by rcases h.1 with h | h <;> contradiction)]
    · rw [if_neg h3, if_neg (fun h => h3 h.2.2.2.1)]
  · rw [if_neg h0, if_neg (fun h => h0 h.1)]

theorem Ask_eq (K : Nat) (r : api_Replica) (e c li le : Int) (hK : 5001 ≤ K) : ballot_Ask K r e c li le = some (askB r e c li le) := by
  rw [← rAsk_eq K r e c li le hK]
  unfold ballot_Ask workflowref54_Ask
  rw [rRight_eq K r hK, Right_eq K r hK]
  simp only [Option.bind_some, cand_eq, member_eq, ballot_Newer_eq, ref_Newer_eq]
  by_cases h0 : rightB r = true
  · have hf := rightB_fit h0
    rw [Observe_eq K r e hf hK]
    rfl
  · rw [if_neg h0, if_neg h0]

theorem askB_fit {r : api_Replica} (e c li le : Int) : Fit (askB r e c li le).1 := by
  unfold askB
  split
  · rename_i h
    have hf := rightB_fit h.1
    split
    · exact ⟨by simp, by simp⟩
    · split
      · exact hf
      · unfold Fit; rw [obs_log]; exact hf
  · exact ⟨by simp, by simp⟩


theorem works54 : workflowlaw54_works 100000 = some true := by decide +kernel

theorem law_BallotAsk (r : api_Replica) (e c li le : Int) : workflowlaw54_BallotAsk 100000 r e c li le = some true := by
  unfold workflowlaw54_BallotAsk
  rcases large_eq 100000 r (by omega) with ⟨h, hl⟩ | ⟨h, hl⟩
  · rw [hl]
    simp only [Option.bind_some]
    have hf : Fit r := ⟨by have := h.1; omega, fun x hx => by have := h.2 x hx; omega⟩
    have hfo : Fit (obs r e) := by unfold Fit; rw [obs_log]; exact hf
    rw [if_neg (by simp), Ask_eq _ _ _ _ _ _ (by omega), rAsk_eq _ _ _ _ _ _ (by omega)]
    simp only [Option.bind_some]
    rw [if_pos (by simp), if_pos trivial, Same_self _ _ (askB_fit e c li le) (by omega)]
    simp only [Option.bind_some, if_true]
    rw [Observe_eq _ _ _ hf (by omega), rObserve_eq]
    simp only [Option.bind_some]
    rw [Same_self _ _ hfo (by omega)]
    simp only [Option.bind_some, if_true]
    rw [works54]
    rfl
  · rw [hl]
    simp only [Option.bind_some, if_true]
    rw [works54]
    rfl

def standB (r : api_Replica) (me : Int) : api_Replica × Int :=
  if rightB r = true ∧ 0 ≤ me ∧ me < 9 then
    if r.Epoch ≥ 1099511627776 then (⟨0, 0, 0, []⟩, 19) else (⟨IntKind.i64.wrap (r.Epoch + 1), me, r.Commit, r.Log⟩, 0)
  else (⟨0, 0, 0, []⟩, 2)

theorem rStand_eq (K : Nat) (r : api_Replica) (me : Int) (hK : 5001 ≤ K) : workflowref54_Stand K r me = some (standB r me) := by
  unfold workflowref54_Stand standB
  rw [rRight_eq K r hK]
  simp only [Option.bind_some, member_eq, decide_eq_true_eq]
  by_cases h0 : rightB r = true
  · by_cases h1 : 0 ≤ me ∧ me < 9
    · rw [if_pos h0, if_pos h1, if_pos (show rightB r = true ∧ 0 ≤ me ∧ me < 9 from ⟨h0, h1⟩)]
      by_cases h2 : r.Epoch ≥ 1099511627776
      · rw [if_pos h2, if_pos h2]
      · rw [if_neg h2, if_neg h2]
    · rw [if_pos h0, if_neg h1, if_neg (fun h => h1 h.2)]
  · rw [if_neg h0, if_neg (fun h => h0 h.1)]

theorem Stand_eq (K : Nat) (r : api_Replica) (me : Int) (hK : 5001 ≤ K) : ballot_Stand K r me = some (standB r me) := by
  rw [← rStand_eq K r me hK]
  unfold ballot_Stand workflowref54_Stand
  rw [rRight_eq K r hK, Right_eq K r hK]
  simp only [Option.bind_some, cand_eq, member_eq]
  by_cases h0 : rightB r = true
  · rw [if_pos h0, if_pos h0, replica_eq K r (rightB_fit h0) hK]
    rfl
  · rw [if_neg h0, if_neg h0]

theorem standB_fit (r : api_Replica) (me : Int) : Fit (standB r me).1 := by
  unfold standB
  split
  · rename_i h
    split
    · exact ⟨by simp, by simp⟩
    · exact (show Fit r from rightB_fit h.1)
  · exact ⟨by simp, by simp⟩

theorem law_BallotStand (r : api_Replica) (me : Int) : workflowlaw54_BallotStand 100000 r me = some true := by
  unfold workflowlaw54_BallotStand
  rcases large_eq 100000 r (by omega) with ⟨h, hl⟩ | ⟨h, hl⟩
  · rw [hl]
    simp only [Option.bind_some]
    rw [if_neg (by simp), Stand_eq _ _ _ (by omega), rStand_eq _ _ _ (by omega)]
    simp only [Option.bind_some]
    rw [if_pos trivial, Same_self _ _ (standB_fit r me) (by omega)]
    simp only [Option.bind_some, if_true]
    rw [works54]
    rfl
  · rw [hl]
    simp only [Option.bind_some, if_true]
    rw [works54]
    rfl

end Go.Proofs.Ytkcaccppmenfmaa
