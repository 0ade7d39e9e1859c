/- The law. -/
import Derived.Test.YtifjagfmfkemmaaGreatDoorLwG
set_option linter.unusedVariables false
set_option linter.unusedSimpArgs false
set_option maxHeartbeats 4000000
namespace Go.Proofs.YtifjagfmfkemmaaGreatDoor
open Eng Go
theorem Ik {K f : Nat} {l : List Aa} (h : ∀ x ∈ l, (Ar.upto K f).Ao x = some (dc (IsB x))) (hl : l.length ≤ 9000000000) (hK : l.length < K) : (Ar.upto K (f + 1)).A7 l = some (dc (Bs l)) := by
 show obind (A7.l7 K (Ar.upto K f) l K 0) _ _ = _
 rw [F0 (d := Ai) (L := A7.l7 K (Ar.upto K f) l) (f := (Ar.upto K f).Ao) (fun k i => rfl) h hl hK, Ep (Hx l)]
 exact Ft
theorem Ko {K f : Nat} {n : Aa} (hK0 : 1000 ≤ K) (h : ∀ x ∈ n.Kids, (Ar.upto K f).Bq x = some (dc (IsS x))) (hl : n.Kids.length ≤ 9000000000) (hK : n.Kids.length < K) : (Ar.upto K (f + 1)).Ao n = some (dc (IsB n)) := by
 show Ao.F K (Ar.upto K f) n = _
 unfold Ao.F
 rw [F0 (d := Ai) (L := Ao.l15 K (Ar.upto K f) n) (f := (Ar.upto K f).Bq) (fun k i => rfl) h hl hK, Fv hK0, Ft, ← Ep (Hw n.Kids), Jc]
 have ht : n.Text = [] → (n.Text.length : Int) ≤ 4096 := fun h => by rw [h]; simp
 simp [D4, Fh]
 apply Ep; constructor <;> intro h <;> simp_all
theorem Hm {c p : Prop} [Decidable c] : (if c then some (if dc p = true then Out.go () else Out.done false) else some (Out.done false) : Option (Out Bool Unit)) = some (if dc (c ∧ p) = true then Out.go () else Out.done false) := by
 split
 ·rename_i h; rw [Ep (show p ↔ c ∧ p from ⟨fun x => ⟨h, x⟩, fun x => x.2⟩)]
 ·rename_i h; rw [Fi (show ¬ (c ∧ p) from fun x => h x.1)]; rfl
theorem Iz {K : Nat} {R : Ar} (hK0 : 1000 ≤ K) (l : List Aa) (hl : l.length ≤ 9000000000)
  (hE : ∀ x ∈ l, ∀ i, i < x.Kids.length → Am K (x.Kids.getD i Ai) = some (dc (IsE (x.Kids.getD i Ai))))
  (hB : ∀ x ∈ l, ∀ i, i < x.Kids.length → R.Ao (x.Kids.getD i Ai) = some (dc (IsB (x.Kids.getD i Ai)))) :
  ∀ (k i : Nat), i ≤ l.length → l.length < i + k → Bd.l7 K R l k i = some (if dc (Cs (l.drop i) (16 - i)) then Out.go () else Out.done false) := by
 intro k
 induction k with
 | zero => intro i h1 h2; omega
 | succ k ih =>
  intro i h1 h2
  rw [Bd.l7]
  by_cases hi : (i : Int) < (l.length : Int)
  case neg => rw [if_neg hi, List.drop_eq_nil_iff.2 (by omega), F3 (by simp [Cs])]; rfl
  have hi' : i < l.length := by omega
  have hx := Fr (d := Ai) hi'
  have hm := List.getElem_mem hi'
  rw [if_pos hi, if_pos ⟨by omega, hi⟩, Int.toNat_natCast, List.drop_eq_getElem_cons hi', hx]
  generalize l[i] = x at *
  have ih' := ih (i + 1) (by omega) (by omega)
  replace ih' : Bd.l7 K R l k ((i : Int) + 1) = _ := ih'
  have hz : ((i : Int) = (l.length : Int) - 1) ↔ (l.drop (i + 1) = []) := by rw [List.drop_eq_nil_iff]; omega
  rw [w64 (x := (i : Int) + 1) (by omega) (by omega), w64 (x := (l.length : Int) - 1) (by omega) (by omega), ih', Cs]
  show _ = some (if dc ((IsZ x ∧ l.drop (i + 1) = []) ∨ (1 ≤ 16 - i ∧ IsC x ∧ Cs (l.drop (i + 1)) (16 - i - 1))) = true then Out.go () else Out.done false)
  rw [show 16 - (i + 1) = 16 - i - 1 by omega]
  have hN : Cs [] (16 - i - 1) = True := by simp [Cs]
  have hC : l.drop (i + 1) = [] → Cs (l.drop (i + 1)) (16 - i - 1) := fun h => by rw [h, hN]; trivial
  have hg : ((i : Int) ≥ 16) ↔ ¬ (1 ≤ 16 - i) := by omega
  have hzz : ((i : Int) = (l.length : Int) - 1) = True ∨ ((i : Int) = (l.length : Int) - 1) = False := by by_cases h : (i : Int) = (l.length : Int) - 1 <;> simp [h]
  have hgg : ((i : Int) ≥ 16) = True ∨ ((i : Int) ≥ 16) = False := by by_cases h : (i : Int) ≥ 16 <;> simp [h]
  generalize Cs (l.drop (i + 1)) (16 - i - 1) = C at *
  generalize (l.drop (i + 1) = []) = rn at *
  generalize (1 ≤ 16 - i) = rm at *
  clear hN ih ih'
  have ht : x.Text = [] → (x.Text.length : Int) ≤ 4096 := fun h => by rw [h]; simp
  have e1 : (x.Kids.length : Int) = 1 → R.Ao (x.Kids.getD 0 Ai) = some (dc (Bs x.Kids)) := fun h => by rw [hB x hm 0 (by omega), Hg h]
  have e2 : (x.Kids.length : Int) = 2 → Am K (x.Kids.getD 0 Ai) = some (dc (IsE (x.Kids.getD 0 Ai))) := fun h => hE x hm 0 (by omega)
  have e3 : (x.Kids.length : Int) = 2 → R.Ao (x.Kids.getD 1 Ai) = some (dc (IsB (x.Kids.getD 1 Ai))) := fun h => hB x hm 1 (by omega)
  have e4 : (x.Kids.length : Int) = 2 → W2 x.Kids = (IsE (x.Kids.getD 0 Ai) ∧ IsB (x.Kids.getD 1 Ai)) := Ii
  have e5 : ¬ (x.Kids.length : Int) = 2 → W2 x.Kids = False := Il
  rw [H2, H5]
  simp only [Fv hK0, Option.bind_some, Ff, Fb, Int.toNat_zero, Int.toNat_one, ne_eq, ite_not]
  clear hE hB
  rcases x with ⟨op, nm, it, tx, ks⟩
  dsimp only at *
  generalize IsE (ks.getD 0 Ai) = E0 at *
  generalize IsB (ks.getD 1 Ai) = B1 at *
  generalize Am K (ks.getD 0 Ai) = r0 at *
  generalize R.Ao (ks.getD 0 Ai) = r1 at *
  generalize R.Ao (ks.getD 1 Ai) = r2 at *
  generalize W2 ks = W at *
  generalize Bs ks = B at *
  generalize (ks.length : Int) = k at *
  rcases hzz with hz1 | hz1 <;> rcases hgg with hg1 | hg1 <;> rw [hz1] at hz <;> rw [hg1] at hg <;> simp only [hz1, hg1, true_iff, false_iff, iff_true, iff_false, Classical.not_not] at hz hg ⊢
  all_goals simp only [hz, hg, if_true, if_false]
  all_goals by_cases h51 : op = 51
  all_goals first | (subst h51; by_cases hk : k = 1 <;> simp [hk, e1, Hm]; done) | (subst h51; by_cases hk : k = 1 <;> simp [hk, e1, Hm]; refine congrArg (fun b : Bool => if b = true then Out.go () else Out.done false) (Ep ?_); simp only [Fb]; constructor <;> intro h <;> simp_all; done) | (by_cases h50 : op = 50 <;> simp [h51, h50]; done) | skip
  all_goals by_cases h50 : op = 50
  all_goals first | (simp [h51, h50]; done) | skip
  all_goals by_cases hk : k = 2
  all_goals first | (simp [hk, e5, h50]; done) | skip
  all_goals
   subst hk
   rw [e2 rfl, e3 rfl, e4 rfl]
   simp [Hm]
   refine congrArg (fun b : Bool => if b = true then Out.go () else Out.done false) (Ep ?_)
   simp only [Fb]
   by_cases hn : nm = [] <;> simp [hn, h51, h50] <;> constructor <;> intro h <;> simp_all
theorem H1 {K : Nat} {R : Ar} (hK : 1000 ≤ K) (n : Aa)
  (hE : ∀ i, i < n.Kids.length → Am K (n.Kids.getD i Ai) = some (dc (IsE (n.Kids.getD i Ai))))
  (hEs : Ay K n.Kids = some (dc (Es n.Kids)))
  (hB : ∀ i, i < n.Kids.length → R.Ao (n.Kids.getD i Ai) = some (dc (IsB (n.Kids.getD i Ai))))
  (hS : ∀ i, i < n.Kids.length → R.Bq (n.Kids.getD i Ai) = some (dc (IsS (n.Kids.getD i Ai))))
  (hBs : R.A7 n.Kids = some (dc (Bs n.Kids))) (hC : R.Bd n.Kids = some (dc (Cs n.Kids 16))) :
  Bq.F K R n = some (dc (IsS n)) := by
 rw [Je]
 unfold Bq.F
 have hi := Kc n.Kids
 have hne : (n.Kids ≠ []) = ((n.Kids.length : Int) > 0) := by
  apply propext
  constructor
  ·intro h; have := List.length_pos_iff.2 h; omega
  ·intro h e; rw [e] at h; simp at h
 rw [hne]
 simp only [Fv hK, hEs, hBs, hC, Option.bind_some, Ff, Fb, Du, if_true, Bool.false_eq_true, if_false, decide_eq_true_eq, Int.toNat_zero, Int.toNat_one, show Int.toNat 2 = 2 from rfl]
 rcases n with ⟨op, nm, it, tx, ks⟩
 dsimp only at *
 have h1 : (ks.length : Int) = 1 → R.Ao (ks.getD 0 Ai) = some (dc (Bs ks)) := fun h => by rw [hB 0 (by omega), Hg h]
 have h3 : 2 ≤ (ks.length : Int) → Am K (ks.getD 0 Ai) = some (dc (IsE (ks.getD 0 Ai))) := fun h => hE 0 (by omega)
 have h4 : 2 ≤ (ks.length : Int) → R.Ao (ks.getD 1 Ai) = some (dc (IsB (ks.getD 1 Ai))) := fun h => hB 1 (by omega)
 have h7 : 3 ≤ (ks.length : Int) → R.Ao (ks.getD 2 Ai) = some (dc (IsB (ks.getD 2 Ai))) := fun h => hB 2 (by omega)
 have h8 : 3 ≤ (ks.length : Int) → R.Bq (ks.getD 2 Ai) = some (dc (IsS (ks.getD 2 Ai))) := fun h => hS 2 (by omega)
 have h5 : (ks.length : Int) = 2 → W2 ks = (IsE (ks.getD 0 Ai) ∧ IsB (ks.getD 1 Ai)) := Ii
 have h6 : ¬ (ks.length : Int) = 2 → W2 ks = False := Il
 have h9 : 0 ≤ (ks.length : Int) := by omega
 clear hE hB hS hEs hBs hC hne
 have ht : tx = [] → (tx.length : Int) ≤ 4096 := fun h => by rw [h]; simp
 generalize Cs ks 16 = C at *
 generalize (ks.length : Int) = k at *
 generalize Es ks = E at *
 generalize Bs ks = B at *
 generalize W2 ks = W at *
 generalize I3 ks = I at *
 generalize IsE (ks.getD 0 Ai) = E0 at *
 generalize IsB (ks.getD 1 Ai) = B1 at *
 generalize IsB (ks.getD 2 Ai) = B2 at *
 generalize IsS (ks.getD 2 Ai) = S2 at *
 generalize (ks.getD 2 Ai).Op = o2 at *
 generalize Am K (ks.getD 0 Ai) = r at *
 generalize R.Ao (ks.getD 0 Ai) = r0 at *
 generalize R.Ao (ks.getD 1 Ai) = r1 at *
 generalize R.Ao (ks.getD 2 Ai) = r2 at *
 generalize R.Bq (ks.getD 2 Ai) = r3 at *
 rcases sopc op with h | h | h | h | h | h | h | h | h | h | h | h
 case inr.inr.inr.inr.inr.inr.inr.inr.inr.inr.inr =>
  obtain ⟨n1, n2, n3, n4, n5, n6, n7, n8, n9, n10, n11⟩ := h
  simp [SX, n1, n2, n3, n4, n5, n6, n7, n8, n9, n10, n11]
 all_goals subst h
 case inr.inr.inl =>
  rw [hi]
  by_cases k2 : k < 2
  ·simp [SX, k2, D4]
   rw [Fi (by omega)]
  by_cases k3 : k > 3
  ·simp [SX, k2, k3, D4]
   rw [Fi (by omega)]
  have k4 : k = 2 ∨ k = 3 := by omega
  rw [h3 (by omega), h4 (by omega)]
  rcases k4 with rfl | rfl
  ·simp [SX, D4, J2]
   apply Ep; constructor <;> intro h <;> simp_all
  ·rw [h7 (by omega), h8 (by omega)]
   simp [SX, D4, J2, Hb]
   apply Ep; constructor <;> intro h <;> simp_all
 all_goals by_cases hk2 : k = 2
 all_goals first | (simp [SX, D4, Fh, Fa, Du, hk2, h3, h4, h5, h6]; done) | (simp [SX, D4, Fh, Fa, Du, hk2, h3, h4, h5, h6]; apply Ep; constructor <;> intro h <;> simp_all; done) | skip
 all_goals by_cases hk : k = 1
 all_goals first | (simp [SX, D4, Fh, Fa, Du, hk, h1]; done) | (simp [SX, D4, Fh, Fa, Du, hk, h1]; apply Ep; constructor <;> intro h <;> simp_all; done) | skip
 all_goals trace_state
end Go.Proofs.YtifjagfmfkemmaaGreatDoor
