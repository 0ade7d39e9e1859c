/- Equality of entries, rising entries, how many agree. -/
import Derived.Test.YtkcaccppmenfmaaLwC
set_option linter.unusedVariables false
set_option linter.unusedSimpArgs false
namespace Go.Proofs.Ytkcaccppmenfmaa
open Eng

instance : DecidableEq api_Entry := fun a b =>
  if h : a.Epoch = b.Epoch ∧ a.Data = b.Data then isTrue (by cases a; cases b; simp_all) else isFalse (fun e => h (by subst e; exact ⟨rfl, rfl⟩))

theorem entry_ext {a b : api_Entry} : a = b ↔ a.Epoch = b.Epoch ∧ a.Data = b.Data := by
  constructor
  · rintro rfl; exact ⟨rfl, rfl⟩
  · intro h; cases a; cases b; simp_all

theorem agree_eq (K : Nat) (a b : api_Entry) : replog_agree K a b = some (decide (a = b)) := by
  unfold replog_agree bytes_Equal
  by_cases h : a.Epoch = b.Epoch
  · rw [if_pos h]
    simp only [Option.bind_some, List.map_id']
    congr 1
    simp only [decide_eq_decide, entry_ext, h, true_and]
  · rw [if_neg h]
    congr 1
    symm
    simp only [decide_eq_false_iff_not]
    intro e
    exact h (by rw [e])

theorem Agree_l15' (K : Nat) (a b : api_Entry) (hab : a.Data.length = b.Data.length) (hx : a.Data.length < 9223372036854775807) : ∀ (k n : Nat), a.Data.length - n < k → n ≤ a.Data.length →
    workflowref52_Agree.l15 K a b k (n : Int) = some (if a.Data.drop n = b.Data.drop n then Out.go () else Out.done false) := by
  intro k
  induction k with
  | zero => intro n h; omega
  | succ k ih =>
    intro n h hn
    unfold workflowref52_Agree.l15
    by_cases hlt : n < a.Data.length
    · rw [if_pos (by omega), if_pos (by omega), if_pos (by omega), Int.toNat_natCast, wrap_succ (by omega), ih (n + 1) (by omega) (by omega), drop_step hlt (0 : UInt8), drop_step (xs := b.Data) (n := n) (by omega) (0 : UInt8)]
      by_cases he : a.Data.getD n (0 : UInt8) = b.Data.getD n (0 : UInt8)
      · rw [if_neg (by rw [he]; simp)]
        simp only [he, List.cons.injEq, true_and]
      · rw [if_pos (by intro e; exact he (UInt8.toNat_inj.1 (by omega)))]
        simp only [List.cons.injEq, he, false_and, if_false]
    · rw [if_neg (by omega), drop_end hlt, drop_end (xs := b.Data) (by omega)]
      rfl

theorem Agree_eq (K : Nat) (a b : api_Entry) (hx : a.Data.length < 9223372036854775807) (hK : a.Data.length < K) : workflowref52_Agree K a b = some (decide (a = b)) := by
  unfold workflowref52_Agree
  by_cases h : a.Epoch = b.Epoch
  · rw [if_neg (by simpa using h)]
    by_cases h2 : a.Data.length = b.Data.length
    · rw [if_neg (by omega), show (0 : Int) = ((0 : Nat) : Int) from rfl, Agree_l15' K a b h2 hx K 0 (by omega) (by omega)]
      simp only [List.drop_zero]
      by_cases h3 : a.Data = b.Data
      · rw [if_pos h3, show a = b from entry_ext.2 ⟨h, h3⟩]
        simp [obind]
      · rw [if_neg h3]
        have : ¬ a = b := fun e => h3 (by rw [e])
        simp [obind, this]
    · rw [if_pos (by omega)]
      have : ¬ a = b := fun e => h2 (by rw [e])
      simp [this]
  · rw [if_pos (by simpa using h)]
    have : ¬ a = b := fun e => h (by rw [e])
    simp [this]

/-- How many entries agree, from the first on. -/
def common : List api_Entry → List api_Entry → Nat
  | x :: xs, y :: ys => if x = y then common xs ys + 1 else 0
  | _, _ => 0

theorem common_le : ∀ (xs ys : List api_Entry), common xs ys ≤ xs.length ∧ common xs ys ≤ ys.length
  | [], ys => by simp [common]
  | x :: xs, [] => by simp [common]
  | x :: xs, y :: ys => by
    have := common_le xs ys
    unfold common
    split <;> simp <;> omega

theorem common_take : ∀ (xs ys : List api_Entry), xs.take (common xs ys) = ys.take (common xs ys)
  | [], ys => by simp [common]
  | x :: xs, [] => by simp [common]
  | x :: xs, y :: ys => by
    have := common_take xs ys
    unfold common
    split
    · rename_i h; subst h; simpa using this
    · rfl

theorem risingref_l7 (K : Nat) (xs : List api_Entry) (hx : xs.length < 9223372036854775807) : ∀ (k n : Nat) (lo : Int), xs.length - n < k → n ≤ xs.length →
    workflowref52_rising.l7 K xs k lo (n : Int) = some (match riseL (xs.drop n) lo with | none => Out.done false | some m => Out.go m) := by
  intro k
  induction k with
  | zero => intro n lo h; omega
  | succ k ih =>
    intro n lo h hn
    unfold workflowref52_rising.l7
    by_cases hlt : n < xs.length
    · rw [if_pos (by omega), if_pos (by omega), Int.toNat_natCast, wrap_succ (by omega), ih (n + 1) _ (by omega) (by omega), drop_step hlt (⟨(0 : Int), ([] : List UInt8)⟩ : api_Entry)]
      simp only [riseL]
      generalize xs.getD n (⟨(0 : Int), ([] : List UInt8)⟩ : api_Entry) = e
      by_cases h1 : e.Epoch < (if (1 : Int) > lo then 1 else lo)
      · rw [if_pos h1]
        by_cases h2 : e.Epoch < lo
        · rw [if_pos h2]
        · rw [if_neg h2, if_pos (by split at h1 <;> omega)]
      · rw [if_neg h1, if_neg (by split at h1 <;> omega), if_neg (by split at h1 <;> omega)]
        by_cases h2 : (e.Data.length : Int) > 65536
        · rw [if_pos h2, if_pos h2]
        · rw [if_neg h2, if_neg h2]
    · rw [if_neg (by omega), drop_end hlt]
      rfl

def risingB (xs : List api_Entry) (lo top : Int) : Bool := match riseL xs lo with | none => false | some m => decide (m ≤ top)

theorem risingref_eq (K : Nat) (xs : List api_Entry) (lo top : Int) (hx : xs.length < 9223372036854775807) (hK : xs.length < K) :
    workflowref52_rising K lo top xs = some (risingB xs lo top) := by
  unfold workflowref52_rising risingB
  rw [show (0 : Int) = ((0 : Nat) : Int) from rfl, risingref_l7 K xs hx K 0 lo (by omega) (by omega)]
  simp only [List.drop_zero]
  cases riseL xs lo <;> rfl

theorem riseL_data {xs : List api_Entry} : ∀ {lo m : Int}, riseL xs lo = some m → ∀ x ∈ xs, x.Data.length ≤ 65536 := by
  induction xs with
  | nil => intro lo m _ x hx; cases hx
  | cons e es ih =>
    intro lo m h x hx
    unfold riseL at h
    by_cases h1 : e.Epoch < (if (1 : Int) > lo then 1 else lo)
    · rw [if_pos h1] at h; cases h
    · rw [if_neg h1] at h
      by_cases h2 : (e.Data.length : Int) > 65536
      · rw [if_pos h2] at h; cases h
      · rw [if_neg h2] at h
        rcases List.mem_cons.1 hx with rfl | hx
        · omega
        · exact ih h x hx

theorem risingB_data {xs : List api_Entry} {lo top : Int} (h : risingB xs lo top = true) : ∀ x ∈ xs, x.Data.length ≤ 65536 := by
  unfold risingB at h
  split at h
  · cases h
  · rename_i h1; exact riseL_data h1

def suitsB (r : api_Replica) (e p pe : Int) (es : List api_Entry) (c : Int) : Bool :=
  rightB r && (decide (1 ≤ e ∧ e ≤ 1099511627776) && (decide (0 ≤ p ∧ p ≤ 5000) && (decide (pe ≥ 0) && ((decide (p = 0) == decide (pe = 0)) && (decide (c ≥ 0) && risingB es pe e)))))

theorem suits_eq (K : Nat) (r : api_Replica) (e p pe : Int) (es : List api_Entry) (c : Int) (hK : 5001 ≤ K) (hx : es.length < 9223372036854775807) (hK2 : es.length < K) : replog_suits K r e p pe es c = some (suitsB r e p pe es c) := by
  unfold replog_suits suitsB
  rw [Right_eq K r hK]
  simp only [in_eq, Option.bind_some]
  cases rightB r with
  | false => rfl
  | true =>
    by_cases h1 : 1 ≤ e ∧ e ≤ 1099511627776
    · by_cases h2 : 0 ≤ p ∧ p ≤ 5000
      · by_cases h3 : pe ≥ 0
        · by_cases h4 : (decide (p = 0) == decide (pe = 0)) = true
          · by_cases h5 : c ≥ 0
            · rw [if_pos rfl, if_pos (by simpa using h1), if_pos (by simpa using h2), if_pos h3, if_pos h4, if_pos h5, rising_eq K es pe e hx hK2]
              simp only [h1, h2, h3, h4, h5, and_self, decide_true, Bool.true_and, Option.bind_some]
              rfl
            · rw [if_pos rfl, if_pos (by simpa using h1), if_pos (by simpa using h2), if_pos h3, if_pos h4, if_neg h5]
              simp only [h1, h2, h3, h4, h5, and_self, decide_true, decide_false, Bool.true_and, Bool.false_and]
          · rw [if_pos rfl, if_pos (by simpa using h1), if_pos (by simpa using h2), if_pos h3, if_neg h4]
            simp only [Bool.not_eq_true] at h4
            simp only [h1, h2, h3, h4, and_self, decide_true, decide_false, Bool.true_and, Bool.false_and]
        · rw [if_pos rfl, if_pos (by simpa using h1), if_pos (by simpa using h2), if_neg h3]
          simp only [h1, h2, h3, and_self, decide_true, decide_false, Bool.true_and, Bool.false_and]
      · rw [if_pos rfl, if_pos (by simpa using h1), if_neg (by simpa using h2)]
        simp only [h1, h2, and_self, decide_true, decide_false, Bool.true_and, Bool.false_and]
    · rw [if_pos rfl, if_neg (by simpa using h1)]
      simp only [h1, decide_false, Bool.true_and, Bool.false_and]

theorem accept_l28 (K : Nat) (r : api_Replica) (p : Nat) (es : List api_Entry) (hp : p ≤ 5000) (hl : r.Log.length ≤ 5000) (hx : es.length < 9223372036854770000) : ∀ (k n : Nat), es.length - n < k → n ≤ es.length →
    replog_Accept.l28 K r (p : Int) es k (n : Int) = some ((n + common (es.drop n) (r.Log.drop (p + n)) : Nat) : Int) := by
  intro k
  induction k with
  | zero => intro n h; omega
  | succ k ih =>
    intro n h hn
    unfold replog_Accept.l28
    by_cases hlt : n < es.length
    · have hw : IntKind.i64.wrap ((p : Int) + (n : Int)) = ((p + n : Nat) : Int) := by rw [wrap_small (by omega) (by omega)]; omega
      rw [if_pos (by omega), hw]
      by_cases hlt2 : p + n < r.Log.length
      · rw [if_pos (by omega), if_pos (by omega), if_pos (by omega), Int.toNat_natCast, Int.toNat_natCast, wrap_succ (by omega), ih (n + 1) (by omega) (by omega), agree_eq, drop_step hlt (⟨(0 : Int), ([] : List UInt8)⟩ : api_Entry), drop_step hlt2 (⟨(0 : Int), ([] : List UInt8)⟩ : api_Entry)]
        simp only [Option.bind_some, common, decide_eq_true_eq]
        by_cases he : es.getD n (⟨(0 : Int), ([] : List UInt8)⟩ : api_Entry) = r.Log.getD (p + n) (⟨(0 : Int), ([] : List UInt8)⟩ : api_Entry)
        · rw [if_pos he, if_pos he]
          congr 2
          rw [show p + (n + 1) = p + n + 1 from by omega]
          omega
        · rw [if_neg he, if_neg he]
          congr 2
      · rw [if_neg (by omega), drop_end hlt2]
        congr 2
        cases es.drop n <;> simp [common]
    · rw [if_neg (by omega), drop_end hlt]
      congr 2

end Go.Proofs.Ytkcaccppmenfmaa
