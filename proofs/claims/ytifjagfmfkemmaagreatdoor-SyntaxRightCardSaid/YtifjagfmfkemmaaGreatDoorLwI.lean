/- The law. -/
import Derived.Test.YtifjagfmfkemmaaGreatDoorLwH
set_option linter.unusedVariables false
set_option linter.unusedSimpArgs false
set_option maxHeartbeats 4000000
namespace Go.Proofs.YtifjagfmfkemmaaGreatDoor
open Eng Go
theorem Gb {K : Nat} (hK : 1000 ≤ K) (hb : K ≤ 9000000000) : ∀ (m : Nat), 8 * m + 8 ≤ K → ∀ (f : Nat) (n : Aa), nsz n ≤ m → 8 * m ≤ f →
  (Ar.upto K f).Ao n = some (dc (IsB n)) ∧ (Ar.upto K f).Bq n = some (dc (IsS n)) := by
 intro m
 induction m with
 | zero => intro hm f n h; have := Fj n; omega
 | succ m ih =>
  intro hm f n h hf
  obtain ⟨g, rfl⟩ : ∃ g, f = g + 8 := ⟨f - 8, by omega⟩
  have hs := E9 n
  have hl := E3 n.Kids
  have he : ∀ i, i < n.Kids.length → Am K (n.Kids.getD i Ai) = some (dc (IsE (n.Kids.getD i Ai))) := fun i hi => G9 hK hb _ (by have := Eg (Ex hi); omega)
  have hk : ∀ (g : Nat), 8 * m ≤ g → ∀ x ∈ n.Kids, _ := fun g hg x hx => ih (by omega) g x (by have := Eg hx; omega) hg
  have hk2 : ∀ (g : Nat), 8 * m ≤ g → ∀ x ∈ n.Kids, ∀ y ∈ x.Kids, _ := fun g hg x hx y hy => ih (by omega) g y (by have := Eg hx; have := Eg hy; have := E9 x; omega) hg
  have he2 : ∀ x ∈ n.Kids, ∀ i, i < x.Kids.length → Am K (x.Kids.getD i Ai) = some (dc (IsE (x.Kids.getD i Ai))) := fun x hx i hi => G9 hK hb _ (by have := Eg hx; have := E9 x; have := Eg (Ex hi); omega)
  have hB : ∀ g, 8 * m ≤ g → ∀ i, i < n.Kids.length → (Ar.upto K g).Ao (n.Kids.getD i Ai) = some (dc (IsB (n.Kids.getD i Ai))) := fun g hg i hi => (hk g hg _ (Ex hi)).1
  refine ⟨?_, ?_⟩
  ·exact Ko hK (fun x hx => (hk _ (by omega) x hx).2) (by omega) (by omega)
  ·refine H1 hK n he (Kq hK hb _ (by omega)) (hB _ (by omega)) (fun i hi => (hk _ (by omega) _ (Ex hi)).2) (Ik (f := g + 6) (fun x hx => (hk _ (by omega) x hx).1) (by omega) (by omega)) ?_
   show obind (Bd.l7 K (Ar.upto K (g + 6)) n.Kids K 0) _ _ = _
   have := Iz (R := Ar.upto K (g + 6)) hK n.Kids (by omega) he2 (fun x hx i hi => (hk2 _ (by omega) x hx _ (Ex hi)).1) K 0 (by omega) (by omega)
   replace this : Bd.l7 K (Ar.upto K (g + 6)) n.Kids K 0 = _ := this
   rw [this]
   exact Ft
theorem Jm {K : Nat} (hK : 1000 ≤ K) (hb : K ≤ 9000000000) (n : Aa) (h : 8 * nsz n + 8 ≤ K) : A3 K n = some (dc (IsB n)) := (Ge hK hb (nsz n) h K n (Nat.le_refl _) (by omega)).1
theorem Kv {K : Nat} (hK : 1000 ≤ K) (hb : K ≤ 9000000000) (n : Aa) (h : 8 * nsz n + 8 ≤ K) : Ao K n = some (dc (IsB n)) := (Gb hK hb (nsz n) h K n (Nat.le_refl _) (by omega)).1
theorem Ka {K : Nat} (hK : 1000 ≤ K) (hb : K ≤ 9000000000) (l : List Aa) (h : 8 * lsz l + 16 ≤ K) : A7 K l = some (dc (Bs l)) := by
 obtain ⟨g, rfl⟩ : ∃ g, K = g + 1 := ⟨K - 1, by omega⟩
 have := E3 l
 exact Ik (f := g) (fun y hy => (Gb hK hb (lsz l) (by omega) g y (Eg hy) (by omega)).1) (by omega) (by omega)
theorem J4 {K : Nat} (hK : 1000 ≤ K) (hb : K ≤ 9000000000) (l : List Aa) (h : 8 * lsz l + 16 ≤ K) : C0 K l = some (dc (Bs l)) := by
 obtain ⟨g, rfl⟩ : ∃ g, K = g + 4 := ⟨K - 4, by omega⟩
 have := E3 l
 exact Jg (f := g) (fun y hy => (Ge hK hb (lsz l) (by omega) g y (Eg hy) (by omega)).1) (by omega) (by omega)
def IsK (n : Aa) : Prop := IsE n ∧ ((1 ≤ n.Op ∧ n.Op ≤ 5) ∨ (n.Op = 14 ∧ (n.Kids.getD 0 Ai).Op = 4))
theorem Ji {n : Aa} (h : IsE n) (h14 : n.Op = 14) : (0 : Int) < n.Kids.length := by
 rw [H6] at h; unfold EX at h; omega
theorem Ky {K : Nat} (hK : 1000 ≤ K) (hb : K ≤ 9000000000) (n : Aa) (h : 8 * nsz n + 8 ≤ K) : D3 K n = some (dc (IsK n)) := by
 unfold D3 IsK
 rw [Ij hK hb n (by omega)]
 have h14 := @Ji n
 simp only [Option.bind_some, Ff, Du, Fb, if_true, Bool.false_eq_true, if_false, decide_eq_true_eq, Int.toNat_zero]
 by_cases ho : n.Op = 14
 ·by_cases hE : IsE n
  ·have h0 := h14 hE ho
   simp only [ho, hE, h0, Fa, if_true, show ¬ ((14 : Int) = 1) by omega, show ¬ ((14 : Int) = 2) by omega, show ¬ ((14 : Int) = 3) by omega, show ¬ ((14 : Int) = 4) by omega, show ¬ ((14 : Int) = 5) by omega, decide_false, if_false, Bool.false_eq_true, It]
   refine congrArg some (Ep ?_); simp
  ·simp [ho, hE]
 ·simp [ho]
  by_cases h1 : n.Op = 1; · simp [h1]
  by_cases h2 : n.Op = 2; · simp [h2]
  by_cases h3 : n.Op = 3; · simp [h3]
  by_cases h4 : n.Op = 4; · simp [h4]
  by_cases h5 : n.Op = 5; · simp [h5]
  simp [h1, h2, h3, h4, h5]
  rw [Fi (by omega)]
theorem Ks {K : Nat} (hK : 1000 ≤ K) (hb : K ≤ 9000000000) (n : Aa) (h : 8 * nsz n + 8 ≤ K) : Dm K n = some (dc (IsK n)) := by
 unfold Dm IsK
 rw [G9 hK hb n (by omega)]
 have h14 := @Ji n
 simp only [Option.bind_some, Ff, Du, Fb, if_true, Bool.false_eq_true, if_false, decide_eq_true_eq, Int.toNat_zero]
 by_cases ho : n.Op = 14
 ·by_cases hE : IsE n
  ·have h0 := h14 hE ho
   simp only [ho, hE, h0, Fa, if_true, show ¬ ((14 : Int) = 1) by omega, show ¬ ((14 : Int) = 2) by omega, show ¬ ((14 : Int) = 3) by omega, show ¬ ((14 : Int) = 4) by omega, show ¬ ((14 : Int) = 5) by omega, decide_false, if_false, Bool.false_eq_true, It]
   refine congrArg some (Ep ?_); simp
  ·simp [ho, hE]
 ·simp [ho, D4, Fa]
def J7 (l : List Aa) : Prop := ∃ i x, l = i ++ [x] ∧ IsB x ∧ ∀ y ∈ i, y.Op = 6 ∧ IsE y
def IsD (n : Aa) : Prop :=
 Nm n.Name ∧ n.Int = 0 ∧ ((n.Op = 61 ∧ n.Text = [] ∧ (n.Kids.length : Int) = 1 ∧ IsK (n.Kids.getD 0 Ai)) ∨ (n.Op = 62 ∧ n.Text = [] ∧ J7 n.Kids) ∨
  ((n.Op = 63 ∨ n.Op = 64) ∧ Nm n.Text ∧ (n.Kids.length : Int) = 1 ∧ Bs n.Kids) ∨ (n.Op = 65 ∧ Nm n.Text ∧ 1 ≤ (n.Kids.length : Int) ∧ (n.Kids.length : Int) ≤ 2 ∧ Bs n.Kids))
theorem Kw {K : Nat} {l : List Aa} (hK : 1000 ≤ K) (hb : K ≤ 9000000000) (h : 8 * lsz l + 16 ≤ K) : Et K l = some (dc (∀ y ∈ l, y.Op = 6 ∧ IsE y)) := by
 have := E3 l
 refine Fm (d := Ai) (L := C7.l7 K l) (f := Ek K) (fun k i => rfl) (fun x hx => ?_) (by omega) (by omega)
 show Option.bind (Dq K x) _ = _
 unfold Dq
 rw [Ij hK hb x (by have := Eg hx; omega)]
 simp [Du, D4]
theorem Jn {i : List Aa} {x : Aa} : J7 (i ++ [x]) ↔ IsB x ∧ ∀ y ∈ i, y.Op = 6 ∧ IsE y := by
 constructor
 ·rintro ⟨j, y, e, h⟩
  obtain ⟨rfl, e2⟩ := List.append_inj' e rfl
  cases e2; exact h
 ·intro h; exact ⟨i, x, rfl, h⟩
theorem Gh : ∀ (a b : List Aa), lsz (a ++ b) = lsz a + lsz b
 | [], b => by simp [lsz]
 | x :: a, b => by simp [lsz, Gh a b]; omega
theorem dopc (op : Int) : op = 61 ∨ op = 62 ∨ op = 63 ∨ op = 64 ∨ op = 65 ∨ (op ≠ 61 ∧ op ≠ 62 ∧ op ≠ 63 ∧ op ≠ 64 ∧ op ≠ 65) := by omega
theorem pDecl {K : Nat} (hK : 1000 ≤ K) (hb : K ≤ 9000000000) (n : Aa) (h : 8 * nsz n + 16 ≤ K) : Dv K n = some (dc (IsD n)) := by
 unfold Dv
 have hs := E9 n
 have hl := E3 n.Kids
 rw [w64 (by omega) (by omega)]
 unfold IsD
 have hc : (n.Kids.length : Int) = 1 → D3 K (n.Kids.getD 0 Ai) = some (dc (IsK (n.Kids.getD 0 Ai))) := fun h => Ky hK hb _ (by have := Eg (Ex (l := n.Kids) (i := 0) (by omega)); omega)
 have hB : (n.Kids.length : Int) = 1 → A3 K (n.Kids.getD 0 Ai) = some (dc (Bs n.Kids)) := fun h => by rw [Jm hK hb _ (by have := Eg (Ex (l := n.Kids) (i := 0) (by omega)); omega), Hg h]
 simp only [Fp, F7 hK, J4 hK hb n.Kids (by omega), Option.bind_some, Ff, Fb, Du, if_true, Bool.false_eq_true, if_false, decide_eq_true_eq, Int.toNat_zero]
 rcases List.eq_nil_or_concat n.Kids with e | ⟨i, x, e⟩
 ·simp [e]
  rw [Fi]; rintro ⟨_, _, h⟩
  obtain ⟨_, _, j, x, h, _⟩ := h; simp at h
 ·rw [List.concat_eq_append] at e
  have hlen : (n.Kids.length : Int) = (i.length : Int) + 1 := by rw [e]; simp
  have hx : n.Kids.getD (Int.toNat ((n.Kids.length : Int) - 1)) Ai = x := by rw [hlen, e]; simp [List.getD]
  have hsl : slc n.Kids 0 ((n.Kids.length : Int) - 1) = i := by rw [hlen, e]; simp [slc]
  have hz : lsz n.Kids = lsz i + nsz x := by rw [e, Gh]; simp [lsz]
  rw [hx, hsl, Jm hK hb x (by omega), Kw hK hb (by omega)]
  have hdf : J7 n.Kids = (IsB x ∧ ∀ y ∈ i, y.Op = 6 ∧ IsE y) := by rw [e]; exact propext Jn
  rw [hdf]
  clear hx hsl hdf hz e hl hs
  rcases n with ⟨op, nm, it, tx, ks⟩
  dsimp only at *
  generalize IsB x = B at *
  generalize Bs ks = B' at *
  generalize (∀ y ∈ i, y.Op = 6 ∧ IsE y) = E at *
  generalize IsK (ks.getD 0 Ai) = C at *
  generalize D3 K (ks.getD 0 Ai) = r0 at *
  generalize A3 K (ks.getD 0 Ai) = r1 at *
  generalize (ks.length : Int) = k at *
  have i1 : 0 < k := by omega
  have i2 : k - 1 < k := by omega
  have i3 : ¬ (k - 1 < 0) := by omega
  have i4 : (0 ≤ k - 1 ∧ k - 1 < k) := by omega
  have i5 : (k - 1 ≤ k) := by omega
  have i6 : (k - 1 = 0) = (k = 1) := by apply propext; omega
  have i7 : (k - 1 ≤ 1) = (k ≤ 2) := by apply propext; omega
  have i8 : 1 ≤ k := by omega
  rcases dopc op with h | h | h | h | h | h
  case inr.inr.inr.inr.inr =>
   obtain ⟨n1, n2, n3, n4, n5⟩ := h
   simp [n1, n2, n3, n4, n5, i3, D4]
  all_goals subst h
  all_goals by_cases hk : k = 1
  all_goals simp only [i1, i3, i4, i5, i6, i7, i8, if_true, if_false]
  all_goals clear i1 i2 i3 i4 i5 i6 i7 i8 hlen h hb hK
  all_goals try clear hc' 
  all_goals first | (simp [hk, hc, hB, D4]; done) | (simp [hk, hc, hB, D4]; apply Ep; constructor <;> intro h <;> simp_all; done) | trace_state
theorem Jy {K : Nat} (hK : 1000 ≤ K) (hb : K ≤ 9000000000) (n : Aa) (i : List Aa) (x : Aa) (e : n.Kids = i ++ [x]) (h : 8 * nsz n + 16 ≤ K) :
  Cr.l22 K n K 0 = some (if dc (∀ y ∈ i, y.Op = 6 ∧ IsE y) then Out.go () else Out.done false) := by
 have hs := E9 n
 have hl := E3 n.Kids
 have hz : lsz n.Kids = lsz i + nsz x := by rw [e, Gh]; simp [lsz]
 have hlen : n.Kids.length = i.length + 1 := by rw [e]; simp
 refine F0 (d := Ai) (l := i) (f := fun y => if y.Op ≠ 6 then some false else Am K y) (fun k j => ?_) (fun y hy => ?_) (by omega) (by omega)
 ·rw [Cr.l22, w64 (by omega) (by omega), hlen]
  by_cases hj : j < (i.length : Int)
  ·rw [if_pos (show j < ((i.length + 1 : Nat) : Int) - 1 by omega), if_pos hj]
   by_cases h0 : 0 ≤ j
   ·have : n.Kids.getD j.toNat Ai = i.getD j.toNat Ai := by
     rw [e]; simp [List.getD]; rw [List.getElem?_append_left (by omega)]
    rw [this, if_pos (show 0 ≤ j ∧ j < (i.length : Int) from ⟨h0, hj⟩), if_pos (show 0 ≤ j ∧ j < ((i.length + 1 : Nat) : Int) from ⟨h0, by omega⟩)]
    generalize i.getD j.toNat Ai = y
    by_cases h6 : y.Op = 6
    ·simp [h6]
    ·simp [h6]
   ·rw [if_neg (show ¬ (0 ≤ j ∧ j < ((i.length + 1 : Nat) : Int)) by omega), if_neg (show ¬ (0 ≤ j ∧ j < (i.length : Int)) by omega)]
  ·rw [if_neg (by omega), if_neg hj]
 ·have := Eg hy
  show (if y.Op ≠ 6 then some false else Am K y) = _
  rw [G9 hK hb y (by omega)]
  simp [D4, Fh]
theorem rDecl {K : Nat} (hK : 1000 ≤ K) (hb : K ≤ 9000000000) (n : Aa) (h : 8 * nsz n + 16 ≤ K) : Cr K n = some (dc (IsD n)) := by
 unfold Cr
 have hs := E9 n
 have hl := E3 n.Kids
 rw [w64 (by omega) (by omega)]
 unfold IsD
 have hc : (n.Kids.length : Int) = 1 → Dm K (n.Kids.getD 0 Ai) = some (dc (IsK (n.Kids.getD 0 Ai))) := fun h => Ks hK hb _ (by have := Eg (Ex (l := n.Kids) (i := 0) (by omega)); omega)
 have ht : Nm n.Text → (n.Text.length : Int) ≤ 4096 := fun h => by have := h.2.1; omega
 have ht2 : n.Text = [] → (n.Text.length : Int) ≤ 4096 := fun h => by rw [h]; simp
 simp only [Fv hK, Gq hK, Ka hK hb n.Kids (by omega), Option.bind_some, Ff, Fb, Du, if_true, Bool.false_eq_true, if_false, decide_eq_true_eq, Int.toNat_zero, true_or, true_and, false_or]
 rcases List.eq_nil_or_concat n.Kids with e | ⟨i, x, e⟩
 ·have e22 : Cr.l22 K n K 0 = some (Out.go ()) := by
   obtain ⟨k, rfl⟩ : ∃ k, K = k + 1 := ⟨K - 1, by omega⟩
   rw [Cr.l22, e]
   exact if_neg (by decide)
  rw [e22]
  simp [e, obind]
  by_cases h61 : n.Op = 61; · simp [h61]
  by_cases h62 : n.Op = 62
  ·simp [h62]
   rw [Fi]; rintro ⟨_, _, _, j, x, h, _⟩; simp at h
  simp [h61, h62]
 ·rw [List.concat_eq_append] at e
  have hlen : (n.Kids.length : Int) = (i.length : Int) + 1 := by rw [e]; simp
  have hx : n.Kids.getD (Int.toNat ((n.Kids.length : Int) - 1)) Ai = x := by rw [hlen, e]; simp [List.getD]
  have hz : lsz n.Kids = lsz i + nsz x := by rw [e, Gh]; simp [lsz]
  rw [hx, Kv hK hb x (by omega), Jy hK hb n i x e h]
  have hdf : J7 n.Kids = (IsB x ∧ ∀ y ∈ i, y.Op = 6 ∧ IsE y) := by rw [e]; exact propext Jn
  rw [hdf]
  clear hx hdf hz e hl hs h
  rcases n with ⟨op, nm, it, tx, ks⟩
  dsimp only at *
  generalize IsB x = B at *
  generalize Bs ks = B' at *
  generalize (∀ y ∈ i, y.Op = 6 ∧ IsE y) = E at *
  generalize IsK (ks.getD 0 Ai) = C at *
  generalize Dm K (ks.getD 0 Ai) = r0 at *
  generalize (ks.length : Int) = k at *
  have i1 : 0 < k := by omega
  have i4 : (0 ≤ k - 1 ∧ k - 1 < k) := by omega
  have i8 : 1 ≤ k := by omega
  have i9 : k > 0 := i1
  have i10 : k ≥ 1 := i8
  simp only [i1, i4, i8, i9, i10, if_true]
  clear i1 i4 i8 i9 i10 hlen hb
  rcases dopc op with h | h | h | h | h | h
  case inr.inr.inr.inr.inr =>
   obtain ⟨n1, n2, n3, n4, n5⟩ := h
   simp [n1, n2, n3, n4, n5]
  all_goals subst h
  all_goals by_cases hE : E
  all_goals by_cases hk : k = 1
  all_goals first | (simp [hE, obind, hk, hc, D4]; done) | (simp [hE, obind, hk, hc, D4]; apply Ep; constructor <;> intro h <;> simp_all; done) | trace_state
mutual
def ndp : Aa → Nat
 | ⟨_, _, _, _, k⟩ => ldp k + 1
def ldp : List Aa → Nat
 | [] => 0
 | x :: l => max (ndp x) (ldp l)
end
theorem Jq (n : Aa) : ndp n = ldp n.Kids + 1 := by cases n; simp [ndp]
theorem G3 {l : List Aa} {i : Nat} (h : i < l.length) : ldp (l.drop i) = max (ndp (l.getD i Ai)) (ldp (l.drop (i + 1))) := by
 rw [List.drop_eq_getElem_cons h, ldp, Fr h]
mutual
theorem Hp : ∀ n : Aa, ndp n ≤ nsz n
 | ⟨_, _, _, _, k⟩ => by have := Js k; simp [ndp, nsz]; omega
theorem Js : ∀ l : List Aa, ldp l ≤ lsz l
 | [] => by simp [ldp]
 | x :: l => by have := Hp x; have := Js l; simp [ldp, lsz]; omega
end
theorem Ia {K : Nat} (hb : K ≤ 9000000000) : ∀ (f : Nat) (n : Aa), nsz n ≤ f → nsz n ≤ K → (Dx.upto K f).Co n = some (nsz n : Int) := by
 intro f
 induction f with
 | zero => intro n h; have := Fj n; omega
 | succ f ih =>
  intro n h hK
  have hs := E9 n
  have hl := E3 n.Kids
  have key : ∀ (k i : Nat) (a : Nat), i ≤ n.Kids.length → n.Kids.length < i + k → a + lsz (n.Kids.drop i) ≤ nsz n → Co.l9 K (Dx.upto K f) n k a i = some (((a + lsz (n.Kids.drop i) : Nat) : Int)) := by
   intro k
   induction k with
   | zero => intro i a h1 h2; omega
   | succ k ih2 =>
    intro i a h1 h2 h3
    rw [Co.l9]
    by_cases hi : (i : Int) < (n.Kids.length : Int)
    ·have hm := Eg (Ex (l := n.Kids) (i := i) (by omega))
     have hd := Gk (l := n.Kids) (i := i) (by omega)
     rw [if_pos hi, if_pos ⟨by omega, hi⟩, Int.toNat_natCast, ih _ (by omega) (by omega), Option.bind_some, w64 (by omega) (by omega), w64 (by omega) (by omega)]
     have := ih2 (i + 1) (a + nsz (n.Kids.getD i Ai)) (by omega) (by omega) (by omega)
     rw [Int.natCast_add] at this
     refine this.trans ?_
     rw [hd]; congr 2; omega
    ·rw [if_neg hi, List.drop_eq_nil_iff.2 (by omega)]; simp [lsz]
  show Option.bind (Co.l9 K (Dx.upto K f) n K 1 0) _ = _
  have := key K 0 1 (by omega) (by omega) (by simp; omega)
  replace this : Co.l9 K (Dx.upto K f) n K 1 0 = _ := this
  rw [this]; simp; omega
theorem H9 {K : Nat} (hb : K ≤ 9000000000) : ∀ (f : Nat) (n : Aa), nsz n ≤ f → nsz n ≤ K → (C1.upto K f).Bh n = some (nsz n : Int) := by
 intro f
 induction f with
 | zero => intro n h; have := Fj n; omega
 | succ f ih =>
  intro n h hK
  have hs := E9 n
  have hl := E3 n.Kids
  have key : ∀ (k i : Nat) (a : Nat), i ≤ n.Kids.length → n.Kids.length < i + k → a + lsz (n.Kids.drop i) ≤ nsz n → Bh.l9 K (C1.upto K f) n k a i = some (((a + lsz (n.Kids.drop i) : Nat) : Int)) := by
   intro k
   induction k with
   | zero => intro i a h1 h2; omega
   | succ k ih2 =>
    intro i a h1 h2 h3
    rw [Bh.l9]
    by_cases hi : (i : Int) < (n.Kids.length : Int)
    ·have hm := Eg (Ex (l := n.Kids) (i := i) (by omega))
     have hd := Gk (l := n.Kids) (i := i) (by omega)
     rw [if_pos hi, if_pos ⟨by omega, hi⟩, Int.toNat_natCast, ih _ (by omega) (by omega), Option.bind_some, w64 (by omega) (by omega), w64 (by omega) (by omega)]
     have := ih2 (i + 1) (a + nsz (n.Kids.getD i Ai)) (by omega) (by omega) (by omega)
     rw [Int.natCast_add] at this
     refine this.trans ?_
     rw [hd]; congr 2; omega
    ·rw [if_neg hi, List.drop_eq_nil_iff.2 (by omega)]; simp [lsz]
  show Option.bind (Bh.l9 K (C1.upto K f) n K 1 0) _ = _
  have := key K 0 1 (by omega) (by omega) (by simp; omega)
  replace this : Bh.l9 K (C1.upto K f) n K 1 0 = _ := this
  rw [this]; simp; omega
theorem Hc {K : Nat} (hb : K ≤ 9000000000) : ∀ (f : Nat) (n : Aa), nsz n ≤ f → nsz n ≤ K → (Dr.upto K f).Cm n = some (ndp n : Int) := by
 intro f
 induction f with
 | zero => intro n h; have := Fj n; omega
 | succ f ih =>
  intro n h hK
  have hs := E9 n
  have hl := E3 n.Kids
  have hd := Jq n; have hd' := Hp n
  have key : ∀ (k i : Nat) (a : Nat), i ≤ n.Kids.length → n.Kids.length < i + k → Cm.l9 K (Dr.upto K f) n k a i = some ((max a (ldp (n.Kids.drop i)) : Nat) : Int) := by
   intro k
   induction k with
   | zero => intro i a h1 h2; omega
   | succ k ih2 =>
    intro i a h1 h2
    rw [Cm.l9]
    by_cases hi : (i : Int) < (n.Kids.length : Int)
    ·have hm := Eg (Ex (l := n.Kids) (i := i) (by omega))
     have hd := G3 (l := n.Kids) (i := i) (by omega)
     rw [if_pos hi, if_pos ⟨by omega, hi⟩, Int.toNat_natCast, ih _ (by omega) (by omega), Option.bind_some, w64 (by omega) (by omega), hd]
     generalize ndp (n.Kids.getD i Ai) = b
     have := ih2 (i + 1) (max a b) (by omega) (by omega)
     rw [show (if (b : Int) > (a : Int) then (b : Int) else (a : Int)) = ((max a b : Nat) : Int) by split <;> omega]
     rw [Int.natCast_add] at this
     refine this.trans ?_
     congr 2; omega
    ·rw [if_neg hi, List.drop_eq_nil_iff.2 (by omega)]; simp [ldp]
  show Option.bind (Cm.l9 K (Dr.upto K f) n K 0 0) _ = _
  have := key K 0 0 (by omega) (by omega)
  replace this : Cm.l9 K (Dr.upto K f) n K 0 0 = _ := this
  rw [this]; simp; rw [w64 (by omega) (by omega)]; omega
theorem Hf {K : Nat} (hb : K ≤ 9000000000) : ∀ (f : Nat) (n : Aa), nsz n ≤ f → nsz n ≤ K → (Cy.upto K f).Ba n = some (ndp n : Int) := by
 intro f
 induction f with
 | zero => intro n h; have := Fj n; omega
 | succ f ih =>
  intro n h hK
  have hs := E9 n
  have hl := E3 n.Kids
  have hd := Jq n; have hd' := Hp n
  have key : ∀ (k i : Nat) (a : Nat), i ≤ n.Kids.length → n.Kids.length < i + k → Ba.l9 K (Cy.upto K f) n k a i = some ((max a (ldp (n.Kids.drop i)) : Nat) : Int) := by
   intro k
   induction k with
   | zero => intro i a h1 h2; omega
   | succ k ih2 =>
    intro i a h1 h2
    rw [Ba.l9]
    by_cases hi : (i : Int) < (n.Kids.length : Int)
    ·have hm := Eg (Ex (l := n.Kids) (i := i) (by omega))
     have hd := G3 (l := n.Kids) (i := i) (by omega)
     rw [if_pos hi, if_pos ⟨by omega, hi⟩, Int.toNat_natCast, ih _ (by omega) (by omega), Option.bind_some, w64 (by omega) (by omega), hd]
     generalize ndp (n.Kids.getD i Ai) = b
     split
     ·have := ih2 (i + 1) b (by omega) (by omega)
      rw [Int.natCast_add] at this
      refine this.trans ?_
      congr 2; omega
     ·have := ih2 (i + 1) a (by omega) (by omega)
      rw [Int.natCast_add] at this
      refine this.trans ?_
      congr 2; omega
    ·rw [if_neg hi, List.drop_eq_nil_iff.2 (by omega)]; simp [ldp]
  show Option.bind (Ba.l9 K (Cy.upto K f) n K 0 0) _ = _
  have := key K 0 0 (by omega) (by omega)
  replace this : Ba.l9 K (Cy.upto K f) n K 0 0 = _ := this
  rw [this]; simp; rw [w64 (by omega) (by omega)]; omega
theorem Ke {K : Nat} (hb : K ≤ 9000000000) (n : Aa) (h : nsz n ≤ K) : Co K n = some (nsz n : Int) := Ia hb K n h h
theorem Kg {K : Nat} (hb : K ≤ 9000000000) (n : Aa) (h : nsz n ≤ K) : Bh K n = some (nsz n : Int) := H9 hb K n h h
theorem Jo {K : Nat} (hb : K ≤ 9000000000) (n : Aa) (h : nsz n ≤ K) : Cm K n = some (ndp n : Int) := Hc hb K n h h
theorem Jf {K : Nat} (hb : K ≤ 9000000000) (n : Aa) (h : nsz n ≤ K) : Ba K n = some (ndp n : Int) := Hf hb K n h h
def Small (n : Aa) : Prop := nsz n ≤ 4000 ∧ ndp n ≤ 40
def IsR (n : Aa) : Prop := Small n ∧ n.Op = 60 ∧ n.Name = [] ∧ n.Int = 0 ∧ n.Text = [] ∧ ∀ x ∈ n.Kids, IsD x
theorem Jx {K : Nat} (hb : K ≤ 9000000000) (n : Aa) (h : nsz n ≤ K) : Ee K n = some (dc (Small n)) := by
 unfold Ee Small
 rw [Ke hb n h, Jo hb n h]
 simp [Fa, D4]; apply Ep; omega
theorem Jd {K : Nat} (hb : K ≤ 9000000000) (n : Aa) (h : nsz n ≤ K) : Do K n = some (dc (Small n)) := by
 unfold Do Small
 rw [Kg hb n h, Jf hb n h]
 simp [Fa, D4]; apply Ep; omega
theorem Kt {K : Nat} (hK : 1000 ≤ K) (hb : K ≤ 9000000000) (n : Aa) (h : 8 * nsz n + 16 ≤ K) : D9 K n = some (dc (IsR n)) := by
 unfold D9 IsR
 have hs := E9 n
 have hl := E3 n.Kids
 have he : E4 K n.Kids = some (dc (∀ x ∈ n.Kids, IsD x)) := by
  refine Fm (d := Ai) (L := Dk.l7 K n.Kids) (f := Eq K) (fun k i => rfl) (fun x hx => ?_) (by omega) (by omega)
  show Option.bind (Dv K x) _ = _
  rw [pDecl hK hb x (by have := Eg hx; omega)]; rfl
 rw [Jx hb n (by omega), he, Fp]
 simp [Du, D4]
 apply Ep; constructor <;> intro h <;> simp_all
theorem Ku {K : Nat} (hK : 1000 ≤ K) (hb : K ≤ 9000000000) (n : Aa) (h : 8 * nsz n + 16 ≤ K) : Cz K n = some (dc (IsR n)) := by
 unfold Cz IsR
 have hs := E9 n
 have hl := E3 n.Kids
 rw [Jd hb n (by omega), Fv hK, F0 (d := Ai) (L := Cz.l15 K n) (f := Cr K) (fun k i => rfl) (fun x hx => rDecl hK hb x (by have := Eg hx; omega)) (by omega) (by omega), Ft]
 have ht2 : n.Text = [] → (n.Text.length : Int) ≤ 4096 := fun h => by rw [h]; simp
 simp [D4, Fh]
 apply Ep; constructor <;> intro h <;> simp_all
theorem J6 {K : Nat} (hK : 1000 ≤ K) (hb : K ≤ 9000000000) (n : Aa) (h : 8 * nsz n + 16 ≤ K) : D2 K n = some (dc (Small n ∧ IsE n)) := by
 unfold D2
 rw [Jx hb n (by omega), Ij hK hb n (by omega)]
 simp [Du, D4]
theorem J9 {K : Nat} (hK : 1000 ≤ K) (hb : K ≤ 9000000000) (n : Aa) (h : 8 * nsz n + 16 ≤ K) : Da K n = some (dc (Small n ∧ IsE n)) := by
 unfold Da
 rw [Jd hb n (by omega), G9 hK hb n (by omega)]
 simp [Du, D4]
theorem Iv {K : Nat} (hK : 50000 ≤ K) (hb : K ≤ 8999999) (hw : Dt K = some true) (n : Aa) : Di K n = some true := by
 unfold Di
 have fa := Km K 5000 (by omega) (by omega) n
 rw [show ((5000 : Nat) : Int) = 5000 from rfl] at fa
 rw [hw, fa]
 by_cases ha : nsz n ≤ 5000
 case neg => simp [ha]
 rw [Kt (by omega) (by omega) n (by omega), Ku (by omega) (by omega) n (by omega), J6 (by omega) (by omega) n (by omega), J9 (by omega) (by omega) n (by omega),
  Ke (by omega) n (by omega), Kg (by omega) n (by omega), Jo (by omega) n (by omega), Jf (by omega) n (by omega)]
 simp [ha]
theorem I6 : Dt 5000000 = some true := by decide +kernel
theorem Hj (n : Aa) : Di 5000000 n = some true := Iv (by omega) (by omega) I6 n
end Go.Proofs.YtifjagfmfkemmaaGreatDoor
