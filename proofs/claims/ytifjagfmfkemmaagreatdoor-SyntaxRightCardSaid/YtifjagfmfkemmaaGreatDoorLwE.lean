/- The law. -/
import Derived.Test.YtifjagfmfkemmaaGreatDoorLwD
set_option linter.unusedVariables false
set_option linter.unusedSimpArgs false
set_option maxHeartbeats 4000000
namespace Go.Proofs.YtifjagfmfkemmaaGreatDoor
open Eng Go
def EX (op : Int) (nm : List UInt8) (it : Int) (tx : List UInt8) (k : Int) (E P : Prop) : Prop :=
 ((op = 1 ∨ op = 2 ∨ op = 3) ∧ nm = [] ∧ it = 0 ∧ tx = [] ∧ k = 0) ∨ (op = 4 ∧ nm = [] ∧ tx = [] ∧ 0 ≤ it ∧ k = 0) ∨
 (op = 5 ∧ nm = [] ∧ it = 0 ∧ (tx.length : Int) ≤ 4096 ∧ k = 0) ∨ (op = 6 ∧ Nm nm ∧ it = 0 ∧ tx = [] ∧ k = 0) ∨
 (op = 7 ∧ nm = [] ∧ it = 0 ∧ tx = [] ∧ E) ∨ (op = 8 ∧ nm = [] ∧ it = 0 ∧ tx = [] ∧ P) ∨
 ((op = 10 ∨ op = 11) ∧ Nm nm ∧ it = 0 ∧ tx = [] ∧ E) ∨ ((op = 12 ∨ op = 13 ∨ op = 14) ∧ nm = [] ∧ it = 0 ∧ tx = [] ∧ k = 1 ∧ E) ∨
 (op = 29 ∧ Nm nm ∧ it = 0 ∧ tx = [] ∧ k = 1 ∧ E) ∨ ((15 ≤ op ∧ op ≤ 28) ∧ nm = [] ∧ it = 0 ∧ tx = [] ∧ k = 2 ∧ E)
mutual
def IsE : Aa → Prop
 | ⟨op, nm, it, tx, ks⟩ => EX op nm it tx ks.length (Es ks) (Ps ks)
def Es : List Aa → Prop
 | [] => True
 | x :: l => IsE x ∧ Es l
def Ps : List Aa → Prop
 | [] => True
 | x :: l => IsP x ∧ Ps l
def IsP : Aa → Prop
 | ⟨op, nm, it, tx, ks⟩ => op = 9 ∧ nm = [] ∧ it = 0 ∧ (tx.length : Int) ≤ 4096 ∧ (ks.length : Int) = 1 ∧ Es ks
end
theorem H6 (n : Aa) : IsE n = EX n.Op n.Name n.Int n.Text n.Kids.length (Es n.Kids) (Ps n.Kids) := by cases n; rw [IsE]
theorem Jz (n : Aa) : IsP n = (n.Op = 9 ∧ n.Name = [] ∧ n.Int = 0 ∧ (n.Text.length : Int) ≤ 4096 ∧ (n.Kids.length : Int) = 1 ∧ Es n.Kids) := by cases n; rw [IsP]
theorem Ho : ∀ l, Es l ↔ ∀ x ∈ l, IsE x
 | [] => by simp [Es]
 | x :: l => by rw [Es, Ho l]; simp
theorem H8 : ∀ l, Ps l ↔ ∀ x ∈ l, IsP x
 | [] => by simp [Ps]
 | x :: l => by rw [Ps, H8 l]; simp
theorem Jl {l : List Aa} (h : (l.length : Int) = 1) : IsE (l.getD 0 Ai) = Es l := by
 match l, h with
 | [x], _ => simp [Es]
 | [], h => simp at h
 | x :: y :: l, h => exfalso; simp at h; omega
theorem Fp (K : Nat) (n : Aa) (a b c : Bool) : Av K n a b c = some (dc ((a = true ∨ n.Name = []) ∧ (b = true ∨ n.Text = []) ∧ (c = true ∨ n.Int = 0))) := by
 unfold Av
 cases a <;> cases b <;> cases c <;> simp only [if_true, Bool.false_eq_true, if_false, false_or, true_or, true_and, and_true]
 all_goals repeat' split
 all_goals apply Gu
 all_goals simp_all
theorem Fv {K : Nat} (hK : 1000 ≤ K) (n : Aa) (a b : Bool) : Ah K n a b = some (dc ((if a = true then Nm n.Name else n.Name = []) ∧ (b = true ∨ n.Text = []) ∧ n.Int = 0 ∧ (n.Text.length : Int) ≤ 4096)) := by
 unfold Ah
 rw [Gq hK]
 simp only [Option.bind_some, Fb]
 cases a <;> cases b <;> simp only [if_true, Bool.false_eq_true, if_false, false_or, true_or, true_and]
 all_goals repeat' split
 all_goals apply Gu
 all_goals (try simp_all)
 all_goals (try omega)
theorem Ff {α β : Type} {c : Prop} [Decidable c] (a b : Option α) (f : α → Option β) : Option.bind (if c then a else b) f = if c then Option.bind a f else Option.bind b f := by split <;> rfl
theorem D4 {c p : Prop} [Decidable c] : (if c then some (dc p) else some false) = some (dc (c ∧ p)) := by
 split
 ·rename_i h; rw [Ep (show p ↔ c ∧ p from ⟨fun x => ⟨h, x⟩, fun x => x.2⟩)]
 ·rename_i h; rw [Fi (fun x => h x.1)]
theorem Fh {c p : Prop} [Decidable c] : (if c then some false else some (dc p)) = some (dc (¬ c ∧ p)) := by
 split
 ·rename_i h; rw [Fi (fun x => x.1 h)]
 ·rename_i h; rw [Ep (show p ↔ ¬ c ∧ p from ⟨fun x => ⟨h, x⟩, fun x => x.2⟩)]
theorem Du {α : Type} (o : Option α) : (Option.bind o fun a => some a) = o := by cases o <;> rfl
theorem opc (op : Int) : op = 1 ∨ op = 2 ∨ op = 3 ∨ op = 4 ∨ op = 5 ∨ op = 6 ∨ op = 7 ∨ op = 8 ∨ op = 10 ∨ op = 11 ∨ op = 12 ∨ op = 13 ∨ op = 14 ∨ op = 29 ∨ (15 ≤ op ∧ op ≤ 28) ∨ (op ≤ 0 ∨ op = 9 ∨ 30 ≤ op) := by omega
theorem Kr {K f : Nat} {l : List Aa} (h : ∀ x ∈ l, (Ap.upto K f).Dc x = some (dc (IsP x))) (hl : l.length ≤ 9000000000) (hK : l.length < K) : (Ap.upto K (f + 4)).C6 l = some (dc (Ps l)) := by
 rw [Ep (H8 l)]
 exact Fm (d := Ai) (L := Bw.l7 K (Ap.upto K (f + 1)) l) (f := (Ap.upto K (f + 1)).Cw) (fun k i => rfl) (fun x hx => by show Option.bind ((Ap.upto K f).Dc x) _ = _; rw [h x hx]; rfl) hl hK
theorem J0 {K f : Nat} {l : List Aa} (h : ∀ x ∈ l, (Ap.upto K f).A0 x = some (dc (IsE x))) (hl : l.length ≤ 9000000000) (hK : l.length < K) : (Ap.upto K (f + 4)).Ch l = some (dc (Es l)) := by
 rw [Ep (Ho l)]
 exact Fm (d := Ai) (L := Bx.l7 K (Ap.upto K (f + 1)) l) (f := (Ap.upto K (f + 1)).Cv) (fun k i => rfl) (fun x hx => by show Option.bind ((Ap.upto K f).A0 x) _ = _; rw [h x hx]; rfl) hl hK
theorem Ib {K : Nat} {R : Ap} (hK : 1000 ≤ K) (n : Aa)
  (h1 : (n.Kids.length : Int) = 1 → R.A0 (n.Kids.getD 0 Ai) = some (dc (Es n.Kids)))
  (h2 : R.C6 n.Kids = some (dc (Ps n.Kids))) (h3 : R.Ch n.Kids = some (dc (Es n.Kids))) : A0.F K R n = some (dc (IsE n)) := by
 rw [H6]
 unfold A0.F
 simp only [Fp, F7 hK, h2, h3, Option.bind_some, Ff, Fb, Int.toNat_zero, if_true, Bool.false_eq_true, if_false, decide_eq_true_eq]
 rcases n with ⟨op, nm, it, tx, ks⟩
 dsimp only at *
 generalize (ks.length : Int) = k at *
 generalize Es ks = E at *
 generalize Ps ks = P at *
 generalize R.A0 (ks.getD 0 Ai) = r at *
 have hr : k = 1 → r = some (dc E) := h1
 clear h1
 rcases opc op with h | h | h | h | h | h | h | h | h | h | h | h | h | h | h | h
 all_goals by_cases hk : k = 1
 all_goals first | (subst h; simp [EX, D4, Fh, Fa, Du, hr, hk]; done) | (subst h; simp [EX, D4, Fh, Fa, Du, hr, hk]; apply Ep; constructor <;> intro h <;> simp_all; done) | skip
 all_goals
  have n1 : ¬ op = 1 := by omega
  have n2 : ¬ op = 2 := by omega
  have n3 : ¬ op = 3 := by omega
  have n4 : ¬ op = 4 := by omega
  have n5 : ¬ op = 5 := by omega
  have n6 : ¬ op = 6 := by omega
  have n7 : ¬ op = 7 := by omega
  have n8 : ¬ op = 8 := by omega
  have n10 : ¬ op = 10 := by omega
  have n11 : ¬ op = 11 := by omega
  have n12 : ¬ op = 12 := by omega
  have n13 : ¬ op = 13 := by omega
  have n14 : ¬ op = 14 := by omega
  have n29 : ¬ op = 29 := by omega
  simp [EX, D4, Fh, Fa, Du, hr, hk, n1, n2, n3, n4, n5, n6, n7, n8, n10, n11, n12, n13, n14, n29]
 all_goals apply Ep
 all_goals constructor <;> intro h <;> simp_all <;> omega
theorem Gi {K : Nat} (hK : 1000 ≤ K) (hb : K ≤ 9000000000) : ∀ (m : Nat), ∀ (f : Nat) (n : Aa), nsz n ≤ m → 8 * m ≤ f → m < K → (Ap.upto K f).A0 n = some (dc (IsE n)) := by
 intro m
 induction m with
 | zero => intro f n h; have := Fj n; omega
 | succ m ih =>
  intro f n h hf hk
  obtain ⟨g, rfl⟩ : ∃ g, f = g + 8 := ⟨f - 8, by omega⟩
  have hs := E9 n
  have hl := E3 n.Kids
  have he : ∀ (g : Nat), 8 * m ≤ g → ∀ x ∈ n.Kids, (Ap.upto K g).A0 x = some (dc (IsE x)) := fun g hg x hx => ih g x (by have := Eg hx; omega) hg (by omega)
  refine Ib hK n (fun h1 => ?_) ?_ ?_
  ·rw [he (g + 7) (by omega) _ (Ex (by omega)), Jl h1]
  ·refine Kr (f := g + 3) (fun x hx => ?_) (by omega) (by omega)
   show Dc.F K (Ap.upto K (g + 2)) x = _
   unfold Dc.F
   have hx1 : (x.Kids.length : Int) = 1 → (Ap.upto K (g + 2)).A0 (x.Kids.getD 0 Ai) = some (dc (Es x.Kids)) := fun h1 => by
    have hm := Ex (l := x.Kids) (i := 0) (by omega)
    rw [ih (g + 2) _ (by have := Eg hx; have := Eg hm; have := E9 x; omega) (by omega) (by omega), Jl h1]
   rw [Jz]
   simp only [Fp, Option.bind_some, Int.toNat_zero, Fb, Du]
   generalize (Ap.upto K (g + 2)).A0 (x.Kids.getD 0 Ai) = r at *
   generalize (x.Kids.length : Int) = k at *
   by_cases hk : k = 1
   ·simp [hx1 hk, hk, D4, Fa]
    apply Ep; constructor <;> intro h <;> simp_all
   ·simp [hk, D4]
  ·exact J0 (f := g + 3) (he _ (by omega)) (by omega) (by omega)
theorem Ij {K : Nat} (hK : 1000 ≤ K) (hb : K ≤ 9000000000) (n : Aa) (h : 8 * nsz n ≤ K) : A0 K n = some (dc (IsE n)) := Gi hK hb (nsz n) K n (Nat.le_refl _) h (by have := Fj n; omega)
theorem Ft {P : Prop} : obind (some (if dc P then Out.go () else Out.done false) : Option (Out Bool Unit)) (fun r => r) (fun _ => some true) = some (dc P) := by
 by_cases h : P
 ·rw [F3 h]; rfl
 ·rw [Fi h]; rfl
theorem H4 {P Q : Prop} : obind (some (if dc P then Out.go () else Out.done false) : Option (Out Bool Unit)) (fun r => r) (fun _ => some (dc Q)) = some (dc (P ∧ Q)) := by
 by_cases h : P
 ·rw [F3 h]; simp [obind, h]
 ·rw [Fi h, Fi (show ¬ (P ∧ Q) from fun x => h x.1)]; rfl
theorem Hy {K f : Nat} {l : List Aa} (h : ∀ x ∈ l, (Bk.upto K f).Am x = some (dc (IsE x))) (hl : l.length ≤ 9000000000) (hK : l.length < K) : (Bk.upto K (f + 1)).Ay l = some (dc (Es l)) := by
 show obind (Ay.l7 K (Bk.upto K f) l K 0) _ _ = _
 rw [F0 (d := Ai) (L := Ay.l7 K (Bk.upto K f) l) (f := (Bk.upto K f).Am) (fun k i => rfl) h hl hK, Ep (Ho l)]
 exact Ft
theorem K1 {K : Nat} {R : Bk} (hK0 : 1000 ≤ K) {n : Aa} (h : ∀ x ∈ n.Kids, (x.Kids.length : Int) = 1 → R.Ay x.Kids = some (dc (Es x.Kids))) (hl : n.Kids.length ≤ 9000000000) (hK : n.Kids.length < K) :
  Am.l54 K R n K 0 = some (if dc (Ps n.Kids) then Out.go () else Out.done false) := by
 rw [Ep (H8 n.Kids)]
 refine F0 (d := Ai) (f := fun x => if x.Op ≠ 9 then some false else Option.bind (Ah K x false true) (fun a => if a = true then (if (x.Kids.length : Int) ≠ 1 then some false else R.Ay x.Kids) else some false)) (fun k i => ?_) (fun x hx => ?_) hl hK
 ·rw [Am.l54]
  generalize n.Kids.getD (Int.toNat i) Ai = x
  generalize Ah K x false true = o1
  generalize R.Ay x.Kids = o2
  generalize Am.l54 K R n k (IntKind.i64.wrap (i + 1)) = X
  cases o1 <;> cases o2 <;> simp only [Option.bind_none, Option.bind_some, Ff] <;> repeat' split
  all_goals first | rfl | simp_all
 ·rw [Jz]
  simp only [Fv hK0, Option.bind_some, Fb, ne_eq, ite_not]
  by_cases h1 : (x.Kids.length : Int) = 1
  ·simp [h x hx h1, h1, D4, Fa]
   apply Ep; constructor <;> intro h <;> simp_all
  ·simp [h1, D4]
theorem H7 {K : Nat} {R : Bk} (hK : 1000 ≤ K) (n : Aa) (h2 : Am.l54 K R n K 0 = some (if dc (Ps n.Kids) then Out.go () else Out.done false))
  (h3 : R.Ay n.Kids = some (dc (Es n.Kids))) : Am.F K R n = some (dc (IsE n)) := by
 rw [H6]
 unfold Am.F
 rw [h2]
 simp only [Fv hK, h3, Option.bind_some, Ff, Fb, H4, Du, if_true, Bool.false_eq_true, if_false, decide_eq_true_eq]
 rcases n with ⟨op, nm, it, tx, ks⟩
 dsimp only at *
 generalize (ks.length : Int) = k at *
 generalize Es ks = E at *
 generalize Ps ks = P at *
 have ht : tx = [] → (tx.length : Int) ≤ 4096 := fun h => by rw [h]; simp
 rcases opc op with h | h | h | h | h | h | h | h | h | h | h | h | h | h | h | h
 all_goals first | (subst h; simp [EX, D4, Fh, Fa, Du]; done) | (subst h; simp [EX, D4, Fh, Fa, Du]; apply Ep; constructor <;> intro h <;> simp_all; done) | skip
 all_goals
  have n1 : ¬ op = 1 := by omega
  have n2 : ¬ op = 2 := by omega
  have n3 : ¬ op = 3 := by omega
  have n4 : ¬ op = 4 := by omega
  have n5 : ¬ op = 5 := by omega
  have n6 : ¬ op = 6 := by omega
  have n7 : ¬ op = 7 := by omega
  have n8 : ¬ op = 8 := by omega
  have n10 : ¬ op = 10 := by omega
  have n11 : ¬ op = 11 := by omega
  have n12 : ¬ op = 12 := by omega
  have n13 : ¬ op = 13 := by omega
  have n14 : ¬ op = 14 := by omega
  have n29 : ¬ op = 29 := by omega
  simp [EX, D4, Fh, Fa, Du, n1, n2, n3, n4, n5, n6, n7, n8, n10, n11, n12, n13, n14, n29]
 all_goals apply Ep
 all_goals constructor <;> intro h <;> simp_all <;> omega
theorem Gl {K : Nat} (hK : 1000 ≤ K) (hb : K ≤ 9000000000) : ∀ (m : Nat), ∀ (f : Nat) (n : Aa), nsz n ≤ m → 8 * m ≤ f → m < K → (Bk.upto K f).Am n = some (dc (IsE n)) := by
 intro m
 induction m with
 | zero => intro f n h; have := Fj n; omega
 | succ m ih =>
  intro f n h hf hk
  obtain ⟨g, rfl⟩ : ∃ g, f = g + 2 := ⟨f - 2, by omega⟩
  have hs := E9 n
  have hl := E3 n.Kids
  refine H7 hK n (K1 hK (fun x hx h1 => ?_) (by omega) (by omega)) ?_
  ·have := Eg hx; have := E9 x; have := E3 x.Kids
   exact Hy (fun y hy => ih g y (by have := Eg hy; omega) (by omega) (by omega)) (by omega) (by omega)
  ·exact Hy (fun y hy => ih g y (by have := Eg hy; omega) (by omega) (by omega)) (by omega) (by omega)
theorem G9 {K : Nat} (hK : 1000 ≤ K) (hb : K ≤ 9000000000) (n : Aa) (h : 8 * nsz n ≤ K) : Am K n = some (dc (IsE n)) := Gl hK hb (nsz n) K n (Nat.le_refl _) h (by have := Fj n; omega)
theorem Kq {K : Nat} (hK : 1000 ≤ K) (hb : K ≤ 9000000000) (l : List Aa) (h : 8 * lsz l + 8 ≤ K) : Ay K l = some (dc (Es l)) := by
 obtain ⟨g, rfl⟩ : ∃ g, K = g + 1 := ⟨K - 1, by omega⟩
 have := E3 l
 exact Hy (f := g) (fun y hy => Gl hK hb (lsz l) g y (Eg hy) (by omega) (by omega)) (by omega) (by omega)
theorem J8 {K : Nat} (hK : 1000 ≤ K) (hb : K ≤ 9000000000) (l : List Aa) (h : 8 * lsz l + 8 ≤ K) : Ch K l = some (dc (Es l)) := by
 obtain ⟨g, rfl⟩ : ∃ g, K = g + 4 := ⟨K - 4, by omega⟩
 have := E3 l
 exact J0 (f := g) (fun y hy => Gi hK hb (lsz l) g y (Eg hy) (by omega) (by omega)) (by omega) (by omega)
end Go.Proofs.YtifjagfmfkemmaaGreatDoor
