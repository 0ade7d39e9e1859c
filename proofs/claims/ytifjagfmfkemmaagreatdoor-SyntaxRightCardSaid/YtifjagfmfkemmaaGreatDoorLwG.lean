/- The law. -/
import Derived.Test.YtifjagfmfkemmaaGreatDoorLwF
set_option linter.unusedVariables false
set_option linter.unusedSimpArgs false
set_option maxHeartbeats 4000000
namespace Go.Proofs.YtifjagfmfkemmaaGreatDoor
open Eng Go
theorem sopc (op : Int) : op = 40 ∨ op = 41 ∨ op = 42 ∨ op = 43 ∨ op = 44 ∨ op = 45 ∨ op = 46 ∨ op = 47 ∨ op = 48 ∨ op = 49 ∨ op = 52 ∨ (op ≠ 40 ∧ op ≠ 41 ∧ op ≠ 42 ∧ op ≠ 43 ∧ op ≠ 44 ∧ op ≠ 45 ∧ op ≠ 46 ∧ op ≠ 47 ∧ op ≠ 48 ∧ op ≠ 49 ∧ op ≠ 52) := by omega
theorem Kz {K f : Nat} {l : List Aa} (h : ∀ x ∈ l, (Ag.upto K f).Ce x = some (dc (IsS x))) (hl : l.length ≤ 9000000000) (hK : l.length < K) : (Ag.upto K (f + 4)).C8 l = some (dc (Ss l)) := by
 rw [Ep (Hw l)]
 exact Fm (d := Ai) (L := Bv.l7 K (Ag.upto K (f + 1)) l) (f := (Ag.upto K (f + 1)).Cx) (fun k i => rfl) (fun x hx => by show Option.bind ((Ag.upto K f).Ce x) _ = _; rw [h x hx]; rfl) hl hK
theorem Jg {K f : Nat} {l : List Aa} (h : ∀ x ∈ l, (Ag.upto K f).A3 x = some (dc (IsB x))) (hl : l.length ≤ 9000000000) (hK : l.length < K) : (Ag.upto K (f + 4)).C0 l = some (dc (Bs l)) := by
 rw [Ep (Hx l)]
 exact Fm (d := Ai) (L := Br.l7 K (Ag.upto K (f + 1)) l) (f := (Ag.upto K (f + 1)).Ct) (fun k i => rfl) (fun x hx => by show Option.bind ((Ag.upto K f).A3 x) _ = _; rw [h x hx]; rfl) hl hK
theorem Kn {K f : Nat} {l : List Aa} (h : ∀ x ∈ l, (Ag.upto K f).C9 x = some (dc (IsC x))) (hl : l.length ≤ 9000000000) (hK : l.length < K) : (Ag.upto K (f + 4)).C2 l = some (dc (∀ x ∈ l, IsC x)) :=
 Fm (d := Ai) (L := Bt.l7 K (Ag.upto K (f + 1)) l) (f := (Ag.upto K (f + 1)).Cu) (fun k i => rfl) (fun x hx => by show Option.bind ((Ag.upto K f).C9 x) _ = _; rw [h x hx]; rfl) hl hK
theorem Hb {c p : Prop} [Decidable c] : (if c then some true else some (dc p)) = some (dc (c ∨ p)) := by
 split
 ·rename_i h; rw [F3 (.inl h)]
 ·rename_i h; rw [Ep (show p ↔ c ∨ p from ⟨.inr, fun x => x.resolve_left h⟩)]
theorem J2 {c : Prop} [Decidable c] : (if c then some true else some false) = some (dc c) := by
 split
 ·rename_i h; rw [F3 h]
 ·rename_i h; rw [Fi h]
theorem Hz {K : Nat} {R : Ag} (hK : 1000 ≤ K) (n : Aa)
  (hE : ∀ i, i < n.Kids.length → A0 K (n.Kids.getD i Ai) = some (dc (IsE (n.Kids.getD i Ai))))
  (hEs : Ch K n.Kids = some (dc (Es n.Kids)))
  (hB : ∀ i, i < n.Kids.length → R.A3 (n.Kids.getD i Ai) = some (dc (IsB (n.Kids.getD i Ai))))
  (hI : R.Ds n.Kids = some (dc (I3 n.Kids))) (hBs : R.C0 n.Kids = some (dc (Bs n.Kids))) (hC : R.C3 n.Kids = some (dc (n.Kids ≠ [] ∧ Cs n.Kids 16))) :
  Ce.F K R n = some (dc (IsS n)) := by
 rw [Je]
 unfold Ce.F
 simp only [Fp, F7 hK, hEs, hI, hBs, hC, Option.bind_some, Ff, Fb, Du, if_true, Bool.false_eq_true, if_false, decide_eq_true_eq, Int.toNat_zero, Int.toNat_one]
 rcases n with ⟨op, nm, it, tx, ks⟩
 dsimp only at *
 have h1 : (ks.length : Int) = 1 → A0 K (ks.getD 0 Ai) = some (dc (Es ks)) := fun h => by rw [hE 0 (by omega), Jl h]
 have h2 : (ks.length : Int) = 1 → R.A3 (ks.getD 0 Ai) = some (dc (Bs ks)) := fun h => by rw [hB 0 (by omega), Hg h]
 have h3 : (ks.length : Int) = 2 → A0 K (ks.getD 0 Ai) = some (dc (IsE (ks.getD 0 Ai))) := fun h => hE 0 (by omega)
 have h4 : (ks.length : Int) = 2 → R.A3 (ks.getD 1 Ai) = some (dc (IsB (ks.getD 1 Ai))) := fun h => hB 1 (by omega)
 have h5 : (ks.length : Int) = 2 → W2 ks = (IsE (ks.getD 0 Ai) ∧ IsB (ks.getD 1 Ai)) := Ii
 have h6 : ¬ (ks.length : Int) = 2 → W2 ks = False := Il
 clear hE hB hEs hI hBs hC
 generalize (ks ≠ [] ∧ Cs ks 16) = C at *
 generalize (ks.length : Int) = k at *
 generalize Es ks = E at *
 generalize Bs ks = B at *
 generalize W2 ks = W at *
 generalize I3 ks = I at *
 generalize IsE (ks.getD 0 Ai) = E0 at *
 generalize IsB (ks.getD 1 Ai) = B1 at *
 generalize A0 K (ks.getD 0 Ai) = r at *
 generalize R.A3 (ks.getD 0 Ai) = r0 at *
 generalize R.A3 (ks.getD 1 Ai) = r1 at *
 rcases sopc op with h | h | h | h | h | h | h | h | h | h | h | h
 case inr.inr.inr.inr.inr.inr.inr.inr.inr.inr.inr =>
  obtain ⟨n1, n2, n3, n4, n5, n6, n7, n8, n9, n10, n11⟩ := h
  simp [SX, n1, n2, n3, n4, n5, n6, n7, n8, n9, n10, n11]
 all_goals subst h
 all_goals by_cases hk : k = 1
 all_goals first | (simp [SX, D4, Fh, Fa, Du, hk, h1, h2]; done) | (simp [SX, D4, Fh, Fa, Du, hk, h1, h2]; apply Ep; constructor <;> intro h <;> simp_all; done) | skip
 all_goals by_cases hk2 : k = 2
 all_goals first | (simp [SX, D4, Fh, Fa, Du, hk, hk2, h3, h4, h5, h6]; done) | (simp [SX, D4, Fh, Fa, Du, hk, hk2, h3, h4, h5, h6]; apply Ep; constructor <;> intro h <;> simp_all; done) | skip
theorem Jj {K : Nat} {R : Ag} (l : List Aa)
  (hE : ∀ i, i < l.length → A0 K (l.getD i Ai) = some (dc (IsE (l.getD i Ai))))
  (hB : ∀ i, i < l.length → R.A3 (l.getD i Ai) = some (dc (IsB (l.getD i Ai))))
  (hS : ∀ i, i < l.length → R.Ce (l.getD i Ai) = some (dc (IsS (l.getD i Ai)))) : Ds.F K R l = some (dc (I3 l)) := by
 rw [Kc]
 unfold Ds.F
 simp only [Int.toNat_zero, Int.toNat_one, show Int.toNat 2 = 2 from rfl]
 by_cases h2 : (l.length : Int) < 2
 ·rw [if_pos h2, Fi (by omega)]
 rw [if_neg h2]
 by_cases h3 : (l.length : Int) > 3
 ·rw [if_pos h3, Fi (by omega)]
 rw [if_neg h3, if_pos (by omega), hE 0 (by omega), hB 1 (by omega)]
 simp only [Option.bind_some, Fb, Du]
 rw [if_pos (show (1 : Int) < l.length by omega)]
 by_cases h4 : (l.length : Int) = 2
 ·simp [h4, D4, J2]
 ·have h5 : (l.length : Int) = 3 := by omega
  simp only [hB 2 (by omega), hS 2 (by omega), Option.bind_some, Fb, Du]
  simp [h5, D4, Hb]
theorem Ht {K : Nat} {R : Ag} (hK : 1000 ≤ K) (n : Aa)
  (hE : ∀ i, i < n.Kids.length → A0 K (n.Kids.getD i Ai) = some (dc (IsE (n.Kids.getD i Ai))))
  (hB : ∀ i, i < n.Kids.length → R.A3 (n.Kids.getD i Ai) = some (dc (IsB (n.Kids.getD i Ai)))) : C9.F K R n = some (dc (IsC n)) := by
 rw [H5]
 unfold C9.F
 simp only [Fp, F7 hK, Option.bind_some, Ff, Fb, Du, Int.toNat_zero, Int.toNat_one]
 rcases n with ⟨op, nm, it, tx, ks⟩
 dsimp only at *
 by_cases hk : (ks.length : Int) = 2
 ·rw [hE 0 (by omega), hB 1 (by omega), Ii hk]
  simp [hk, D4]
  by_cases hn : nm = []
  ·simp [hn, D4]; apply Ep; constructor <;> intro h <;> simp_all
  ·simp [hn, D4]; apply Ep; constructor <;> intro h <;> simp_all
 ·rw [Il hk]
  simp [hk, D4]
theorem Gy {K : Nat} {R : Ag} (hK : 1000 ≤ K) (l : List Aa) (hl : l.length ≤ 9000000000)
  (hB : ∀ x ∈ l, ∀ i, i < x.Kids.length → R.A3 (x.Kids.getD i Ai) = some (dc (IsB (x.Kids.getD i Ai))))
  (hC : ∀ l' : List Aa, (∀ x ∈ l', x ∈ l) → l'.length ≤ l.length → R.C2 l' = some (dc (∀ x ∈ l', IsC x))) : C3.F K R l = some (dc (l ≠ [] ∧ Cs l 16)) := by
 unfold C3.F
 rcases List.eq_nil_or_concat l with rfl | ⟨l, x, rfl⟩
 ·rw [Fi (by simp)]; rfl
 rw [List.concat_eq_append] at *
 have hlen : ((l ++ [x]).length : Int) = (l.length : Int) + 1 := by simp
 have hw : IntKind.i64.wrap (((l ++ [x]).length : Int) - 1) = (l.length : Int) := by rw [hlen]; simp at hl; rw [w64 (by omega) (by omega)]; omega
 have hx : (l ++ [x]).getD (Int.toNat (l.length : Int)) Ai = x := by simp [List.getD]
 have hs : slc (l ++ [x]) 0 (l.length : Int) = l := by simp [slc]
 rw [hw, hx, hs, hlen]
 have e1 := hC l (fun y hy => by simp [hy]) (by simp)
 have e2 := hC (l ++ [x]) (fun y hy => hy) (Nat.le_refl _)
 have e3 : (x.Kids.length : Int) = 1 → R.A3 (x.Kids.getD 0 Ai) = some (dc (Bs x.Kids)) := fun h => by rw [hB x (by simp) 0 (by omega), Hg h]
 rw [Ep (show (l ++ [x] ≠ [] ∧ Cs (l ++ [x]) 16) ↔ Cs (l ++ [x]) 16 by simp), Ep (Ir l x 16)]
 have i1 : (0 : Int) ≤ (l.length : Int) ∧ (l.length : Int) < (l.length : Int) + 1 := ⟨by omega, by omega⟩
 rw [if_pos (show (l.length : Int) ≥ 0 by omega), if_pos i1, Option.bind_some, if_pos i1]
 simp only [Fp, Option.bind_some, Ff, Fb, Du, Int.toNat_zero, e1, e2, decide_eq_true_eq]
 by_cases h51 : x.Op = 51
 ·have hc : IsC x = False := by rw [H5]; simp [h51]
  rw [if_pos h51, H2, hc]
  by_cases hk : (x.Kids.length : Int) = 1
  ·rw [e3 hk]
   have i2 : (l.length : Int) ≤ (l.length : Int) + 1 := by omega
   simp only [hk, h51, i2, D4, Option.bind_some, Fb, ne_eq, not_true, if_false, if_true, show (0 : Int) < 1 by omega]
   refine congrArg some (Ep ?_)
   have i3 : ((l.length : Int) ≤ 16) = (l.length ≤ 16) := by apply propext; omega
   simp only [i3]
   constructor <;> intro h <;> simp_all
  ·simp [hk, h51, D4, Fh]
 ·have hz : IsZ x = False := by rw [H2]; simp [h51]
  rw [if_neg h51, hz, if_pos (by omega)]
  simp only [D4]
  refine congrArg some (Ep ?_)
  simp only [List.mem_append, List.mem_singleton, false_and, false_or]
  constructor
  ·rintro ⟨h1, h2⟩
   exact ⟨⟨h2 x (.inr rfl), by omega⟩, fun y hy => h2 y (.inl hy)⟩
  ·rintro ⟨⟨h1, h2⟩, h3⟩
   exact ⟨by omega, fun y hy => hy.elim (h3 y) (fun e => e ▸ h1)⟩
theorem Ge {K : Nat} (hK : 1000 ≤ K) (hb : K ≤ 9000000000) : ∀ (m : Nat), 8 * m + 8 ≤ K → ∀ (f : Nat) (n : Aa), nsz n ≤ m → 8 * m ≤ f →
  (Ag.upto K f).A3 n = some (dc (IsB n)) ∧ (Ag.upto K f).Ce n = some (dc (IsS n)) ∧ (Ag.upto K f).C9 n = some (dc (IsC n)) := by
 intro m
 induction m with
 | zero => intro hm f n h; have := Fj n; omega
 | succ m ih =>
  intro hm f n h hf
  obtain ⟨g, rfl⟩ : ∃ g, f = g + 8 := ⟨f - 8, by omega⟩
  have hs := E9 n
  have hl := E3 n.Kids
  have he : ∀ i, i < n.Kids.length → A0 K (n.Kids.getD i Ai) = some (dc (IsE (n.Kids.getD i Ai))) := fun i hi => Ij hK hb _ (by have := Eg (Ex hi); omega)
  have hk : ∀ (g : Nat), 8 * m ≤ g → ∀ x ∈ n.Kids, _ := fun g hg x hx => ih (by omega) g x (by have := Eg hx; omega) hg
  have hk2 : ∀ (g : Nat), 8 * m ≤ g → ∀ x ∈ n.Kids, ∀ y ∈ x.Kids, _ := fun g hg x hx y hy => ih (by omega) g y (by have := Eg hx; have := Eg hy; have := E9 x; omega) hg
  have hB : ∀ g, 8 * m ≤ g → ∀ i, i < n.Kids.length → (Ag.upto K g).A3 (n.Kids.getD i Ai) = some (dc (IsB (n.Kids.getD i Ai))) := fun g hg i hi => (hk g hg _ (Ex hi)).1
  refine ⟨?_, ?_, ?_⟩
  ·show A3.F K (Ag.upto K (g + 7)) n = _
   unfold A3.F
   rw [Kz (f := g + 3) (fun x hx => (hk _ (by omega) x hx).2.1) (by omega) (by omega), Fp, Jc]
   simp [D4]
   apply Ep; constructor <;> intro h <;> simp_all
  ·refine Hz hK n he (J8 hK hb _ (by omega)) (hB _ (by omega)) ?_ (Jg (f := g + 3) (fun x hx => (hk _ (by omega) x hx).1) (by omega) (by omega)) ?_
   ·exact Jj (R := Ag.upto K (g + 6)) _ he (hB _ (by omega)) fun i hi => (hk _ (by omega) _ (Ex hi)).2.1
   ·exact Gy (R := Ag.upto K (g + 6)) hK _ (by omega) (fun x hx i hi => (hk2 _ (by omega) x hx _ (Ex hi)).1) fun l' h1 h2 => Kn (f := g + 2) (fun x hx => (hk _ (by omega) x (h1 x hx)).2.2) (by omega) (by omega)
  ·exact Ht (R := Ag.upto K (g + 7)) hK n he (hB _ (by omega))
end Go.Proofs.YtifjagfmfkemmaaGreatDoor
