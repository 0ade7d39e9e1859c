/- The law. -/
import Derived.Test.YtmafcdkdcfaajaaGreatLwC
set_option linter.unusedVariables false
set_option linter.unusedSimpArgs false
namespace Go.Proofs.YtmafcdkdcfaajaaGreat
open Eng
def Held (r : aRep) (D : Nat) : Prop := r.Log.length ≤ 5000 ∧ ∀ x ∈ r.Log, x.Data.length ≤ D
theorem rCommonH_l7 (K D : Nat) (a b : aRep) (hf : Held a D) (hb : Held b D) (hK : D < K) (hD : D ≤ 140737488355328) : ∀ (k n : Nat), a.Log.length - n < k → n ≤ a.Log.length →
  wr52_Common.l7 K a b k (n : Int) = some ((n + common (a.Log.drop n) (b.Log.drop n) : Nat) : Int) := by
 obtain ⟨hl, hd⟩ := hf
 have hbl := hb.1
 intro k
 induction k with
 | zero => intro n h; omega
 | succ k ih =>
  intro n h hn
  unfold wr52_Common.l7
  by_cases hlt : n < a.Log.length
  ·by_cases hlt2 : n < b.Log.length
   ·rw [if_pos (by omega), if_pos (by omega), if_pos (by omega), if_pos (by omega), Int.toNat_natCast,
     Agree_eq K _ _ (by have := hd _ (getD_mem hlt z_aEnt); omega) (by have := hd _ (getD_mem hlt z_aEnt); omega),
     wrap_succ (by omega), ih (n + 1) (by omega) (by omega), drop_step hlt z_aEnt, drop_step hlt2 z_aEnt]
    simp only [Option.bind_some, common, decide_eq_true_eq]
    by_cases he : a.Log.getD n z_aEnt = b.Log.getD n z_aEnt
    ·rw [if_pos he, if_pos he]
     congr 2
     omega
    ·rw [if_neg he, if_neg he]
     congr 2
   ·rw [if_pos (by omega), if_neg (by omega), drop_end hlt2]
    congr 2
    cases a.Log.drop n <;> simp [common]
  ·rw [if_neg (by omega), drop_end hlt]
   congr 2
theorem rCommonH_eq (K D : Nat) (a b : aRep) (hf : Held a D) (hb : Held b D) (hK : D < K) (hK2 : 5000 < K) (hD : D ≤ 140737488355328) : wr52_Common K a b = some ((common a.Log b.Log : Nat) : Int) := by
 unfold wr52_Common
 have h := rCommonH_l7 K D a b hf hb hK hD K 0 (by have := hf.1; omega) (by omega)
 rw [show ((0 : Nat) : Int) = 0 from rfl] at h
 rw [h]
 simp
theorem Common_l7' (K : Nat) (a b : aRep) (ha : a.Log.length ≤ 5000) (hb : b.Log.length ≤ 5000) : ∀ (k n : Nat), a.Log.length - n < k → n ≤ a.Log.length →
  replog_Common.l7 K a b k (n : Int) = some ((n + common (a.Log.drop n) (b.Log.drop n) : Nat) : Int) := by
 intro k
 induction k with
 | zero => intro n h; omega
 | succ k ih =>
  intro n h hn
  unfold replog_Common.l7
  by_cases hlt : n < a.Log.length
  ·by_cases hlt2 : n < b.Log.length
   ·rw [if_pos (by omega), if_pos (by omega), if_pos (by omega), if_pos (by omega), Int.toNat_natCast, agree_eq,
     wrap_succ (by omega), ih (n + 1) (by omega) (by omega), drop_step hlt z_aEnt, drop_step hlt2 z_aEnt]
    simp only [Option.bind_some, common, decide_eq_true_eq]
    by_cases he : a.Log.getD n z_aEnt = b.Log.getD n z_aEnt
    ·rw [if_pos he, if_pos he]
     congr 2
     omega
    ·rw [if_neg he, if_neg he]
     congr 2
   ·rw [if_pos (by omega), if_neg (by omega), drop_end hlt2]
    congr 2
    cases a.Log.drop n <;> simp [common]
  ·rw [if_neg (by omega), drop_end hlt]
   congr 2
theorem Common_eq (K : Nat) (a b : aRep) (ha : a.Log.length ≤ 5000) (hb : b.Log.length ≤ 5000) (hK : 5000 < K) : replog_Common K a b = some ((common a.Log b.Log : Nat) : Int) := by
 unfold replog_Common
 have h := Common_l7' K a b ha hb K 0 (by omega) (by omega)
 rw [show ((0 : Nat) : Int) = 0 from rfl] at h
 rw [h]
 simp
end Go.Proofs.YtmafcdkdcfaajaaGreat
