/- Both forms of an append compute one function. -/
import Derived.Test.YtkcaccppmenfmaaLwD
set_option linter.unusedVariables false
set_option linter.unusedSimpArgs false
namespace Go.Proofs.Ytkcaccppmenfmaa
open Eng

/-- What the comparison of new entries with old ones ends in. -/
def missR (a b : Nat) (cm : Int) (p n c : Nat) (f : Bool) : Out (api_Replica × Int) Bool :=
  if n + c < a ∧ p + n + c < b then (if ((p + n + c : Nat) : Int) < cm then Out.done ((⟨0, 0, 0, []⟩ : api_Replica), 16) else Out.go false) else Out.go f

theorem accept_l33 (K : Nat) (r : api_Replica) (p : Nat) (es : List api_Entry) (hp : p ≤ 5000) (hl : r.Log.length ≤ 5000) (hd : ∀ x ∈ r.Log, x.Data.length ≤ 65536) (hK : 65537 ≤ K) (hx : es.length < 9223372036854770000) : ∀ (k n : Nat) (f : Bool), es.length - n < k → n ≤ es.length →
    workflowref52_Accept.l33 K r (p : Int) es k f (n : Int) = some (missR es.length r.Log.length r.Commit p n (common (es.drop n) (r.Log.drop (p + n))) f) := by
  intro k
  induction k with
  | zero => intro n f h; omega
  | succ k ih =>
    intro n f h hn
    unfold workflowref52_Accept.l33
    by_cases hlt : n < es.length
    · have hw : IntKind.i64.wrap ((p : Int) + (n : Int)) = ((p + n : Nat) : Int) := by rw [wrap_small (by omega) (by omega)]; omega
      rw [if_pos (by omega), hw]
      by_cases hlt2 : p + n < r.Log.length
      · rw [if_pos (by omega), if_pos (by omega), if_pos (by omega), Int.toNat_natCast, Int.toNat_natCast, wrap_succ (by omega), ih (n + 1) f (by omega) (by omega), ih (n + 1) false (by omega) (by omega),
          Agree_eq K _ _ (by have := hd _ (getD_mem hlt2 (⟨(0 : Int), ([] : List UInt8)⟩ : api_Entry)); omega) (by have := hd _ (getD_mem hlt2 (⟨(0 : Int), ([] : List UInt8)⟩ : api_Entry)); omega),
          drop_step hlt (⟨(0 : Int), ([] : List UInt8)⟩ : api_Entry), drop_step hlt2 (⟨(0 : Int), ([] : List UInt8)⟩ : api_Entry)]
        simp only [Option.bind_some, common, decide_eq_true_eq]
        rw [show p + (n + 1) = p + n + 1 from by omega]
        generalize common (es.drop (n + 1)) (r.Log.drop (p + n + 1)) = c
        by_cases he : r.Log.getD (p + n) (⟨(0 : Int), ([] : List UInt8)⟩ : api_Entry) = es.getD n (⟨(0 : Int), ([] : List UInt8)⟩ : api_Entry)
        · rw [if_pos he, if_pos he.symm]
          unfold missR
          rw [show n + 1 + c = n + (c + 1) from by omega, show p + (n + 1) + c = p + n + (c + 1) from by omega]
        · have he2 : ¬ es.getD n (⟨(0 : Int), ([] : List UInt8)⟩ : api_Entry) = r.Log.getD (p + n) (⟨(0 : Int), ([] : List UInt8)⟩ : api_Entry) := fun e => he e.symm
          rw [if_neg he, if_neg he2]
          unfold missR
          rw [if_pos (show n + 0 < es.length ∧ p + n + 0 < r.Log.length from ⟨hlt, hlt2⟩)]
          by_cases hc : ((p + n : Nat) : Int) < r.Commit
          · rw [if_pos hc, if_pos (show ((p + n + 0 : Nat) : Int) < r.Commit from hc)]
          · rw [if_neg hc, if_neg (show ¬ ((p + n + 0 : Nat) : Int) < r.Commit from hc)]
            congr 1
            split
            · rw [if_neg (by omega)]
            · rfl
      · rw [if_neg (by omega), drop_end hlt2]
        congr 1
        unfold missR
        rw [if_neg]
        rintro ⟨_, h2⟩
        omega
    · rw [if_neg (by omega)]
      congr 1
      unfold missR
      rw [if_neg]
      rintro ⟨h1, _⟩
      omega

def logB (l es : List api_Entry) (q : Nat) : List api_Entry :=
  if common es (l.drop q) < es.length ∧ q + common es (l.drop q) < l.length then l.take q ++ es else l ++ es.drop (common es (l.drop q))

theorem logB_ref {l es : List api_Entry} {q : Nat} (hq : q ≤ l.length) (h : ¬ (common es (l.drop q) < es.length ∧ q + common es (l.drop q) < l.length)) :
    (l.length > q + es.length → (l.take q ++ es) ++ l.drop (q + es.length) = logB l es q) ∧ (¬ l.length > q + es.length → l.take q ++ es = logB l es q) := by
  unfold logB
  rw [if_neg h]
  have h1 := common_le es (l.drop q)
  have h2 := common_take es (l.drop q)
  rw [List.length_drop] at h1
  generalize hc : common es (l.drop q) = c at *
  refine ⟨fun hg => ?_, fun hg => ?_⟩
  · have e : c = es.length := by omega
    rw [e] at h2 ⊢
    rw [List.take_length] at h2
    rw [List.drop_length, List.append_nil]
    have h3 : l.drop q = es ++ (l.drop q).drop es.length := by
      conv => lhs; rw [← List.take_append_drop es.length (l.drop q)]
      rw [← h2]
    rw [List.append_assoc, ← List.drop_drop, ← h3, List.take_append_drop]
  · have e : c = l.length - q := by omega
    have e2 : es.take c = l.drop q := by rw [h2, e]; exact List.take_of_length_le (by rw [List.length_drop]; omega)
    conv => lhs; rw [← List.take_append_drop c es, e2, ← List.append_assoc, List.take_append_drop]

def commB (r : api_Replica) (p cm : Int) (n : Nat) : Int :=
  let m := if p + (n : Int) < cm then p + (n : Int) else cm
  if m > r.Commit then m else r.Commit

/-- What an append is answered. -/
def acceptB (r : api_Replica) (e p pe : Int) (es : List api_Entry) (cm : Int) : api_Replica × Int :=
  if suitsB r e p pe es cm = true then
    if e < r.Epoch then (⟨0, 0, 0, []⟩, 25)
    else if (r.Log.length : Int) < p then (⟨0, 0, 0, []⟩, 26)
    else if p > 0 ∧ (r.Log.getD (Int.toNat (p - 1)) (⟨(0 : Int), ([] : List UInt8)⟩ : api_Entry)).Epoch ≠ pe then (⟨0, 0, 0, []⟩, 26)
    else if (common es (r.Log.drop p.toNat) < es.length ∧ p.toNat + common es (r.Log.drop p.toNat) < r.Log.length) ∧ ((p.toNat + common es (r.Log.drop p.toNat) : Nat) : Int) < r.Commit then (⟨0, 0, 0, []⟩, 16)
    else if (es.length : Int) > 5000 - p then (⟨0, 0, 0, []⟩, 18)
    else (⟨e, if e > r.Epoch then -1 else r.Vote, commB r p cm es.length, logB r.Log es p.toNat⟩, 0)
  else (⟨0, 0, 0, []⟩, 2)

theorem suitsB_iff {r : api_Replica} {e p pe : Int} {es : List api_Entry} {c : Int} : suitsB r e p pe es c = true ↔
    rightB r = true ∧ (1 ≤ e ∧ e ≤ 1099511627776) ∧ (0 ≤ p ∧ p ≤ 5000) ∧ pe ≥ 0 ∧ (decide (p = 0) == decide (pe = 0)) = true ∧ c ≥ 0 ∧ risingB es pe e = true := by
  unfold suitsB
  simp only [Bool.and_eq_true, decide_eq_true_eq]

theorem slc_take {α : Type} (l : List α) (p : Int) : slc l 0 p = l.take p.toNat := by simp [slc]
theorem slc_drop {α : Type} (l : List α) (p : Int) (h : 0 ≤ p) : slc l p (l.length : Int) = l.drop p.toNat := by
  unfold slc
  exact List.take_of_length_le (by rw [List.length_drop]; omega)

theorem Accept_eq (K : Nat) (r : api_Replica) (e p pe : Int) (es : List api_Entry) (cm : Int) (hK : 70000 ≤ K) (hx : es.length ≤ 60000) : replog_Accept K r e p pe es cm = some (acceptB r e p pe es cm) := by
  unfold replog_Accept acceptB
  rw [suits_eq K r e p pe es cm (by omega) (by omega) (by omega)]
  simp only [Option.bind_some]
  by_cases h0 : suitsB r e p pe es cm = true
  · rw [if_pos h0, if_pos h0]
    obtain ⟨hr, he, hp, hpe, hpp, hcm, hri⟩ := suitsB_iff.1 h0
    have hf := rightB_fit hr
    have hfl : r.Log.length ≤ 5000 := hf.1
    have hes := risingB_data hri
    by_cases h1 : e < r.Epoch
    · rw [if_pos h1, if_pos h1]; rfl
    rw [if_neg h1, if_neg h1]
    by_cases h2 : (r.Log.length : Int) < p
    · rw [if_pos h2, if_pos h2]; rfl
    rw [if_neg h2, if_neg h2]
    have hbody : (if p > 0 then (if (0 : Int) ≤ (IntKind.i64.wrap (p - 1)) ∧ ((IntKind.i64.wrap (p - 1)) : Int) < (r.Log.length : Int) then (if ((r.Log.getD (Int.toNat ((IntKind.i64.wrap (p - 1)))) (⟨(0 : Int), ([] : List UInt8)⟩ : api_Entry))).Epoch ≠ pe then some (Out.done (((⟨0, 0, 0, ([] : List api_Entry)⟩ : api_Replica), 26))) else some (Out.go ())) else none) else some (Out.go ()) : Option (Out (api_Replica × Int) Unit)) =
        some (if p > 0 ∧ (r.Log.getD (Int.toNat (p - 1)) (⟨(0 : Int), ([] : List UInt8)⟩ : api_Entry)).Epoch ≠ pe then Out.done (((⟨0, 0, 0, ([] : List api_Entry)⟩ : api_Replica), 26)) else Out.go ()) := by
      by_cases h3 : p > 0
      · rw [if_pos h3, wrap_small (by omega) (by omega), if_pos (by omega)]
        by_cases h4 : (r.Log.getD (Int.toNat (p - 1)) (⟨(0 : Int), ([] : List UInt8)⟩ : api_Entry)).Epoch ≠ pe
        · rw [if_pos h4, if_pos ⟨h3, h4⟩]
        · rw [if_neg h4, if_neg (fun h => h4 h.2)]
      · rw [if_neg h3, if_neg (fun h => h3 h.1)]
    rw [hbody]
    by_cases h3 : p > 0 ∧ (r.Log.getD (Int.toNat (p - 1)) (⟨(0 : Int), ([] : List UInt8)⟩ : api_Entry)).Epoch ≠ pe
    · rw [if_pos h3, if_pos h3]; rfl
    rw [if_neg h3, if_neg h3]
    simp only [obind]
    obtain ⟨q, rfl⟩ : ∃ q : Nat, p = (q : Int) := ⟨p.toNat, by omega⟩
    have h28 := accept_l28 K r q es (by omega) hf.1 (by omega) K 0 (by omega) (by omega)
    rw [show ((0 : Nat) : Int) = 0 from rfl] at h28
    rw [h28]
    simp only [Option.bind_some, List.drop_zero, Nat.zero_add, Nat.add_zero, Int.toNat_natCast]
    have hcl := common_le es (r.Log.drop q)
    rw [List.length_drop] at hcl
    generalize hc : common es (r.Log.drop q) = c at *
    have hw : IntKind.i64.wrap ((q : Int) + (c : Int)) = ((q + c : Nat) : Int) := by rw [wrap_small (by omega) (by omega)]; omega
    have hw2 : IntKind.i64.wrap ((q : Int) + (es.length : Int)) = (q : Int) + (es.length : Int) := by rw [wrap_small (by omega) (by omega)]
    have hw3 : IntKind.i64.wrap (5000 - (q : Int)) = 5000 - (q : Int) := by rw [wrap_small (by omega) (by omega)]
    rw [hw, hw2, hw3]
    have e1 : (if ((c : Nat) : Int) < (es.length : Int) then some (decide (((q + c : Nat) : Int) < (r.Log.length : Int))) else some false) = some (decide (c < es.length ∧ q + c < r.Log.length)) := by
      by_cases a : c < es.length
      · rw [if_pos (by omega)]; congr 1; simp only [decide_eq_decide]; omega
      · rw [if_neg (by omega)]; congr 1; simp [a]
    rw [e1]
    simp only [Option.bind_some, decide_eq_true_eq]
    have e2 : (if c < es.length ∧ q + c < r.Log.length then some (decide (((q + c : Nat) : Int) < r.Commit)) else some false) = some (decide ((c < es.length ∧ q + c < r.Log.length) ∧ ((q + c : Nat) : Int) < r.Commit)) := by
      by_cases a : c < es.length ∧ q + c < r.Log.length
      · rw [if_pos a]; congr 1; simp only [decide_eq_decide]; exact ⟨fun h => ⟨a, h⟩, fun h => h.2⟩
      · rw [if_neg a]; congr 1; simp only [a, false_and, decide_false]
    rw [e2]
    simp only [Option.bind_some, decide_eq_true_eq]
    by_cases h4 : (c < es.length ∧ q + c < r.Log.length) ∧ ((q + c : Nat) : Int) < r.Commit
    · rw [if_pos h4, if_pos h4]
    rw [if_neg h4, if_neg h4]
    by_cases h5 : (es.length : Int) > 5000 - (q : Int)
    · rw [if_pos h5, if_pos h5]
    rw [if_neg h5, if_neg h5]
    have e3 : (if e > r.Epoch then some (-1) else some r.Vote) = some (if e > r.Epoch then (-1 : Int) else r.Vote) := by split <;> rfl
    rw [e3]
    simp only [Option.bind_some, slc_take, Int.toNat_natCast]
    rw [slc_drop es (c : Int) (by omega)]
    simp only [Int.toNat_natCast, logB, hc, commB]
    by_cases a : c < es.length ∧ q + c < r.Log.length
    · rw [if_pos a, if_pos a, if_pos (by omega), entries_eq K (r.Log.take q) (by rw [List.length_take]; omega) (fun x hx => hf.2 x (List.mem_of_mem_take hx)) (by rw [List.length_take]; omega), entries_eq K es (by omega) hes (by omega)]
      simp only [Option.bind_some]
      rw [if_pos (by rw [List.length_take]; omega)]
    · rw [if_neg a, if_neg a, entries_eq K r.Log (by omega) hf.2 (by omega)]
      simp only [Option.bind_some]
      rw [if_pos (by omega), entries_eq K (es.drop c) (by rw [List.length_drop]; omega) (fun x hx => hes x (List.mem_of_mem_drop hx)) (by rw [List.length_drop]; omega)]
      simp only [Option.bind_some]
      rw [if_pos (by rw [List.length_drop]; omega)]
  · rw [if_neg h0, if_neg h0]
    rfl


theorem rAccept_eq (K : Nat) (r : api_Replica) (e p pe : Int) (es : List api_Entry) (cm : Int) (hK : 70000 ≤ K) (hx : es.length ≤ 60000) : workflowref52_Accept K r e p pe es cm = some (acceptB r e p pe es cm) := by
  unfold workflowref52_Accept acceptB
  rw [rRight_eq K r (by omega)]
  simp only [rin_eq, Option.bind_some, decide_eq_true_eq]
  rw [risingref_eq K es pe e (by omega) (by omega)]
  simp only [Option.bind_some]
  by_cases h0 : suitsB r e p pe es cm = true
  · rw [if_pos h0]
    obtain ⟨hr, he, hp, hpe, hpp, hcm, hri⟩ := suitsB_iff.1 h0
    have hf := rightB_fit hr
    have hfl : r.Log.length ≤ 5000 := hf.1
    rw [if_pos hr, if_pos he, if_pos hp, if_neg (by omega), if_pos hpp, if_neg (by omega), if_pos hri]
    by_cases h1 : e < r.Epoch
    · rw [if_pos h1, if_pos h1]
    rw [if_neg h1, if_neg h1]
    by_cases h2 : (r.Log.length : Int) < p
    · rw [if_pos h2, if_pos h2]; rfl
    rw [if_neg h2, if_neg h2]
    have hbody : (if p > 0 then (if (0 : Int) ≤ (IntKind.i64.wrap (p - 1)) ∧ ((IntKind.i64.wrap (p - 1)) : Int) < (r.Log.length : Int) then (if ((r.Log.getD (Int.toNat ((IntKind.i64.wrap (p - 1)))) (⟨(0 : Int), ([] : List UInt8)⟩ : api_Entry))).Epoch ≠ pe then some (Out.done (((⟨0, 0, 0, ([] : List api_Entry)⟩ : api_Replica), 26))) else some (Out.go ())) else none) else some (Out.go ()) : Option (Out (api_Replica × Int) Unit)) =
        some (if p > 0 ∧ (r.Log.getD (Int.toNat (p - 1)) (⟨(0 : Int), ([] : List UInt8)⟩ : api_Entry)).Epoch ≠ pe then Out.done (((⟨0, 0, 0, ([] : List api_Entry)⟩ : api_Replica), 26)) else Out.go ()) := by
      by_cases h3 : p > 0
      · rw [if_pos h3, wrap_small (by omega) (by omega), if_pos (by omega)]
        by_cases h4 : (r.Log.getD (Int.toNat (p - 1)) (⟨(0 : Int), ([] : List UInt8)⟩ : api_Entry)).Epoch ≠ pe
        · rw [if_pos h4, if_pos ⟨h3, h4⟩]
        · rw [if_neg h4, if_neg (fun h => h4 h.2)]
      · rw [if_neg h3, if_neg (fun h => h3 h.1)]
    rw [hbody]
    by_cases h3 : p > 0 ∧ (r.Log.getD (Int.toNat (p - 1)) (⟨(0 : Int), ([] : List UInt8)⟩ : api_Entry)).Epoch ≠ pe
    · rw [if_pos h3, if_pos h3]; rfl
    rw [if_neg h3, if_neg h3]
    simp only [obind]
    obtain ⟨q, rfl⟩ : ∃ q : Nat, p = (q : Int) := ⟨p.toNat, by omega⟩
    have h33 := accept_l33 K r q es (by omega) hf.1 hf.2 (by omega) (by omega) K 0 true (by omega) (by omega)
    rw [show ((0 : Nat) : Int) = 0 from rfl] at h33
    rw [h33]
    simp only [List.drop_zero, Nat.add_zero, Int.toNat_natCast]
    have hlr := logB_ref (l := r.Log) (es := es) (q := q) (by omega)
    have hcl := common_le es (r.Log.drop q)
    rw [List.length_drop] at hcl
    have hlb : logB r.Log es q = if common es (r.Log.drop q) < es.length ∧ q + common es (r.Log.drop q) < r.Log.length then r.Log.take q ++ es else r.Log ++ es.drop (common es (r.Log.drop q)) := rfl
    generalize hc : common es (r.Log.drop q) = c at *
    have hw2 : IntKind.i64.wrap ((q : Int) + (es.length : Int)) = (q : Int) + (es.length : Int) := by rw [wrap_small (by omega) (by omega)]
    rw [hw2]
    have e3 : (if e > r.Epoch then some (-1) else some r.Vote) = some (if e > r.Epoch then (-1 : Int) else r.Vote) := by split <;> rfl
    have e4 : (if cm > (q : Int) + (es.length : Int) then some ((q : Int) + (es.length : Int)) else some cm) = some (if (q : Int) + (es.length : Int) < cm then (q : Int) + (es.length : Int) else cm) := by split <;> rfl
    by_cases a : c < es.length ∧ q + c < r.Log.length
    · have em : missR es.length r.Log.length r.Commit q 0 c true = if ((q + c : Nat) : Int) < r.Commit then Out.done ((⟨0, 0, 0, []⟩ : api_Replica), 16) else Out.go false := by
        unfold missR
        rw [if_pos (show 0 + c < es.length ∧ q + 0 + c < r.Log.length from ⟨by omega, by omega⟩)]
        rfl
      rw [em]
      by_cases h4 : ((q + c : Nat) : Int) < r.Commit
      · rw [if_pos h4, if_pos (show (c < es.length ∧ q + c < r.Log.length) ∧ ((q + c : Nat) : Int) < r.Commit from ⟨a, h4⟩)]
      rw [if_neg h4, if_neg (show ¬ ((c < es.length ∧ q + c < r.Log.length) ∧ ((q + c : Nat) : Int) < r.Commit) from fun h => h4 h.2)]
      simp only
      by_cases h5 : (es.length : Int) > 5000 - (q : Int)
      · rw [if_pos (by omega), if_pos h5]
      rw [if_neg (by omega), if_neg h5, e3, e4]
      simp only [Option.bind_some, slc_take, Int.toNat_natCast, Bool.false_eq_true, if_false]
      rw [if_pos (by omega), if_pos (by rw [List.length_take]; omega), if_pos (by rw [List.length_take]; omega)]
      rw [hlb, if_pos a]
      unfold commB
      simp only
      generalize (if (q : Int) + (es.length : Int) < cm then (q : Int) + (es.length : Int) else cm) = m
      split <;> rfl
    · have em : missR es.length r.Log.length r.Commit q 0 c true = Out.go true := by
        unfold missR
        rw [if_neg]
        intro h
        exact a ⟨by omega, by omega⟩
      rw [em, if_neg (show ¬ ((c < es.length ∧ q + c < r.Log.length) ∧ ((q + c : Nat) : Int) < r.Commit) from fun h => a h.1)]
      simp only
      by_cases h5 : (es.length : Int) > 5000 - (q : Int)
      · rw [if_pos (by omega), if_pos h5]
      rw [if_neg (by omega), if_neg h5, e3, e4]
      simp only [Option.bind_some, slc_take, Int.toNat_natCast, if_true]
      rw [if_pos (by omega), if_pos (by rw [List.length_take]; omega), if_pos (by rw [List.length_take]; omega)]
      obtain ⟨l1, l2⟩ := hlr a
      have hfin : ∀ L : List api_Entry, L = logB r.Log es q → (if (if (q : Int) + (es.length : Int) < cm then (q : Int) + (es.length : Int) else cm) > r.Commit then some (((⟨e, if e > r.Epoch then (-1 : Int) else r.Vote, if (q : Int) + (es.length : Int) < cm then (q : Int) + (es.length : Int) else cm, L⟩ : api_Replica), (0 : Int))) else some (((⟨e, if e > r.Epoch then (-1 : Int) else r.Vote, r.Commit, L⟩ : api_Replica), 0))) =
          some (⟨e, if e > r.Epoch then -1 else r.Vote, commB r (q : Int) cm es.length, logB r.Log es q⟩, 0) := by
        intro L hL
        rw [hL]
        unfold commB
        simp only
        generalize (if (q : Int) + (es.length : Int) < cm then (q : Int) + (es.length : Int) else cm) = m
        split <;> rfl
      by_cases h6 : (r.Log.length : Int) > (q : Int) + (es.length : Int)
      · rw [if_pos (by simpa using h6), if_pos (by omega), slc_drop r.Log _ (by omega), show Int.toNat ((q : Int) + (es.length : Int)) = q + es.length from by omega, if_pos (by rw [List.length_append, List.length_take, List.length_drop]; omega)]
        simp only [Option.bind_some]
        exact hfin _ (l1 (by omega))
      · rw [if_neg (by simpa using h6)]
        simp only [Option.bind_some]
        exact hfin _ (l2 (by omega))
  · rw [if_neg h0]
    rw [suitsB_iff] at h0
    by_cases hr : rightB r = true
    · rw [if_pos hr]
      by_cases he : 1 ≤ e ∧ e ≤ 1099511627776
      · rw [if_pos he]
        by_cases hp : 0 ≤ p ∧ p ≤ 5000
        · rw [if_pos hp]
          by_cases hpe : pe < 0
          · rw [if_pos hpe]
          rw [if_neg hpe]
          by_cases hpp : (decide (p = 0) == decide (pe = 0)) = true
          · rw [if_pos hpp]
            by_cases hcm : cm < 0
            · rw [if_pos hcm]
            rw [if_neg hcm, if_neg (fun hri => h0 ⟨hr, he, hp, by omega, hpp, by omega, hri⟩)]
          · rw [if_neg hpp]
        · rw [if_neg hp]
      · rw [if_neg he]
    · rw [if_neg hr]

end Go.Proofs.Ytkcaccppmenfmaa
