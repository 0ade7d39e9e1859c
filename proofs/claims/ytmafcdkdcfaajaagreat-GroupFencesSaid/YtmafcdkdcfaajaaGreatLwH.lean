/- The law. -/
import Derived.Test.YtmafcdkdcfaajaaGreatLwF
set_option linter.unusedVariables false
set_option linter.unusedSimpArgs false
namespace Go.Proofs.YtmafcdkdcfaajaaGreat
open Eng
theorem countP_inter {α : Type} (p q : α → Bool) : ∀ l : List α, l.countP p + l.countP q ≤ l.length + l.countP (fun x => p x && q x)
 | [] => by simp
 | x :: l => by
  have ih := countP_inter p q l
  simp only [List.countP_cons, List.length_cons]
  cases p x <;> cases q x <;> simp <;> omega
def Maj (n : Nat) (p : Nat → Bool) : Prop := n < 2 * (List.range n).countP p
theorem Maj.inter {n : Nat} {p q : Nat → Bool} (hp : Maj n p) (hq : Maj n q) : ∃ j, j < n ∧ p j = true ∧ q j = true := by
 have h := countP_inter p q (List.range n)
 unfold Maj at hp hq
 rw [List.length_range] at h
 have : 0 < (List.range n).countP (fun x => p x && q x) := by omega
 obtain ⟨j, hj, hpq⟩ := List.countP_pos_iff.1 this
 simp only [Bool.and_eq_true] at hpq
 exact ⟨j, List.mem_range.1 hj, hpq.1, hpq.2⟩
theorem Maj.mono {n : Nat} {p q : Nat → Bool} (hp : Maj n p) (h : ∀ j, j < n → p j = true → q j = true) : Maj n q := by
 unfold Maj at hp ⊢
 have : (List.range n).countP p ≤ (List.range n).countP q := List.countP_mono_left fun j hj hpj => h j (List.mem_range.1 hj) hpj
 omega
abbrev Log := List aEnt
def lastL (l : Log) : Int := match l.getLast? with | some x => x.Epoch | none => 0
theorem lastE_eq (r : aRep) : lastE r = lastL r.Log := rfl
def le2 (p l : Log) : Prop := lastL l > lastL p ∨ (lastL l = lastL p ∧ p.length ≤ l.length)
theorem okL_get {lo top : Int} : ∀ {xs : Log} {lo : Int}, okL xs lo top = true → ∀ {i : Nat} {x : aEnt}, xs[i]? = some x → lo ≤ x.Epoch ∧ x.Epoch ≤ top
 | [], _, _, i, x, hx => by simp at hx
 | y :: ys, lo, h, i, x, hx => by
  simp only [okL, Bool.and_eq_true, decide_eq_true_eq] at h
  cases i with
  | zero => simp at hx; subst hx; exact h.1
  | succ i =>
   have := okL_get (lo := lo) h.2.2 (i := i) (x := x) (by simpa using hx)
   omega
theorem okL_sorted {top : Int} : ∀ {xs : Log} {lo : Int}, okL xs lo top = true → ∀ {i k : Nat} {x y : aEnt}, i ≤ k → xs[i]? = some x → xs[k]? = some y → x.Epoch ≤ y.Epoch
 | [], _, _, i, k, x, y, _, hx, _ => by simp at hx
 | z :: zs, lo, h, i, k, x, y, hik, hx, hy => by
  simp only [okL, Bool.and_eq_true, decide_eq_true_eq] at h
  cases i with
  | zero =>
   simp at hx; subst hx
   cases k with
   | zero => simp at hy; subst hy; exact Int.le_refl _
   | succ k => exact (okL_get (lo := lo) h.2.2 (i := k) (x := y) (by simpa using hy)).1
  | succ i =>
   cases k with
   | zero => omega
   | succ k => exact okL_sorted h.2.2 (i := i) (k := k) (by omega) (by simpa using hx) (by simpa using hy)
theorem lastL_get {l : Log} {x : aEnt} (h : l[l.length - 1]? = some x) : lastL l = x.Epoch := by
 unfold lastL
 rw [List.getLast?_eq_getElem?, h]
theorem lastL_of {l : Log} (h : l ≠ []) : ∃ x, l[l.length - 1]? = some x ∧ lastL l = x.Epoch := by
 have hl : l.length - 1 < l.length := by
  have := List.length_pos_iff.2 h
  omega
 exact ⟨l[l.length - 1], List.getElem?_eq_getElem hl, lastL_get (List.getElem?_eq_getElem hl)⟩
theorem prefix_get {p l : Log} (h : p <+: l) {i : Nat} {x : aEnt} (hx : p[i]? = some x) : l[i]? = some x := by
 obtain ⟨t, rfl⟩ := h
 rw [List.getElem?_append_left (List.getElem?_eq_some_iff.1 hx).1]
 exact hx
theorem le2_of_prefix {p l : Log} {top : Int} (hl : okL l 1 top = true) (h : p <+: l) (hp : p ≠ []) : le2 p l := by
 obtain ⟨x, hx, ex⟩ := lastL_of hp
 have hne : l ≠ [] := fun e => by subst e; simp at h; exact hp h
 obtain ⟨y, hy, ey⟩ := lastL_of hne
 have hlen := h.length_le
 have := okL_sorted hl (by omega) (prefix_get h hx) hy
 unfold le2
 omega
theorem le2_trans {a b c : Log} (h1 : le2 a b) (h2 : le2 b c) : le2 a c := by
 unfold le2 at *
 omega
abbrev rg (R : List aRep) (j : Nat) : aRep := R.getD j ZR
structure Inv (R : List aRep) (ld ep : Int) (n w : Nat) (P : Log) : Prop where
 len : R.length = n
 right : ∀ j, j < n → rightB (rg R j) = true
 lm : ∀ j k, j < n → k < n → ∀ (i : Nat) x y, (rg R j).Log[i]? = some x → (rg R k).Log[i]? = some y → x.Epoch = y.Epoch → (rg R j).Log.take (i + 1) = (rg R k).Log.take (i + 1)
 le : 0 ≤ ld → ∀ k, k < n → ∀ (i : Nat) x, (rg R k).Log[i]? = some x → x.Epoch = ep → ∃ y, (rg R ld.toNat).Log[i]? = some y ∧ y.Epoch = ep
 eb : ∀ j, j < n → ∀ (i : Nat) x, (rg R j).Log[i]? = some x → x.Epoch ≤ ep
 vm : ep = 0 ∨ (Maj n (fun j => decide ((rg R j).Epoch > ep ∨ ((rg R j).Epoch = ep ∧ (rg R j).Vote = (w : Int)))) ∧ w < n ∧ (rg R w).Epoch ≥ ep)
 j1 : P = [] ∨ Maj n (fun j => decide (P <+: (rg R j).Log))
 j2 : P ≠ [] → ∀ j, j < n → le2 P (rg R j).Log → P <+: (rg R j).Log
 j3 : ∀ j, j < n → (rg R j).Log.take (rg R j).Commit.toNat <+: P
 j4 : 0 ≤ ld → P <+: (rg R ld.toNat).Log
 ldn : -1 ≤ ld ∧ ld < (n : Int)
 ep0 : 0 ≤ ep ∧ ep ≤ 1099511627776
variable {R R' : List aRep} {ld ep : Int} {n w : Nat} {P : Log}
theorem Inv.ok (h : Inv R ld ep n w P) {j : Nat} (hj : j < n) : okL (rg R j).Log 1 (rg R j).Epoch = true := (rightB_iff.1 (h.right j hj)).2.2.2.2
theorem Inv.votes (h : Inv R ld ep n w P) (hlen : R'.length = n) (hr : ∀ j, j < n → rightB (rg R' j) = true) (hlog : ∀ j, j < n → (rg R' j).Log = (rg R j).Log) (hcm : ∀ j, j < n → (rg R' j).Commit = (rg R j).Commit)
  (hv : ∀ j, j < n → (rg R' j).Epoch > (rg R j).Epoch ∨ ((rg R' j).Epoch = (rg R j).Epoch ∧ ((rg R' j).Vote = (rg R j).Vote ∨ (rg R j).Vote = -1))) : Inv R' ld ep n w P where
 len := hlen
 right := hr
 lm := fun j k hj hk i x y => by rw [hlog j hj, hlog k hk]; exact h.lm j k hj hk i x y
 le := fun h0 k hk i x hx he => by
  have hl : ld.toNat < n := by have := h.ldn; omega
  rw [hlog k hk] at hx
  rw [hlog _ hl]
  exact h.le h0 k hk i x hx he
 eb := fun j hj i x hx => by rw [hlog j hj] at hx; exact h.eb j hj i x hx
 vm := by
  rcases h.vm with h0 | ⟨h1, h2, h3⟩
  ·exact .inl h0
  ·refine .inr ⟨h1.mono fun j hj hp => ?_, h2, ?_⟩
   ·simp only [decide_eq_true_eq] at hp ⊢
    have := hv j hj
    omega
   ·have := hv w h2
    omega
 j1 := by
  rcases h.j1 with h0 | h1
  ·exact .inl h0
  ·exact .inr (h1.mono fun j hj hp => by rw [hlog j hj]; exact hp)
 j2 := fun hP j hj => by rw [hlog j hj]; exact h.j2 hP j hj
 j3 := fun j hj => by rw [hlog j hj, hcm j hj]; exact h.j3 j hj
 j4 := fun h0 => by
  have hl : ld.toNat < n := by have := h.ldn; omega
  rw [hlog _ hl]; exact h.j4 h0
 ldn := h.ldn
 ep0 := h.ep0
theorem Inv.elected (h : Inv R ld ep n w P) (hlen : R'.length = n) (hr : ∀ j, j < n → rightB (rg R' j) = true) (hlog : ∀ j, j < n → (rg R' j).Log = (rg R j).Log) (hcm : ∀ j, j < n → (rg R' j).Commit = (rg R j).Commit)
  (hv : ∀ j, j < n → (rg R' j).Epoch > (rg R j).Epoch ∨ ((rg R' j).Epoch = (rg R j).Epoch ∧ ((rg R' j).Vote = (rg R j).Vote ∨ (rg R j).Vote = -1)))
  {c : Nat} (hc : c < n) {e : Int} (he : e = (rg R c).Epoch + 1) (hce : (rg R' c).Epoch = e) (he2 : e ≤ 1099511627776) {G : Nat → Bool} (hG : Maj n G)
  (hg : ∀ j, j < n → G j = true → (rg R' j).Epoch = e ∧ (rg R' j).Vote = (c : Int) ∧ (j = c ∨ (le2 (rg R j).Log (rg R c).Log ∧ ((rg R j).Epoch < e ∨ ((rg R j).Epoch = e ∧ ((rg R j).Vote = -1 ∨ (rg R j).Vote = (c : Int)))))) ) : ep < e ∧ Inv R' (c : Int) e n c P := by
 have hlt : ep < e := by
  rcases h.vm with h0 | ⟨h1, h2, h3⟩
  ·have := (rightB_iff.1 (h.right c hc)).1
   omega
  ·obtain ⟨j, hj, g1, g2⟩ := h1.inter hG
   simp only [decide_eq_true_eq] at g1
   obtain ⟨_, _, hjc⟩ := hg j hj g2
   rcases hjc with rfl | ⟨_, hjc⟩
   ·omega
   ·rcases hjc with hjc | ⟨q1, q2⟩
    ·omega
    ·rcases g1 with g1 | ⟨g1, g3⟩
     ·omega
     ·have hwc : w = c := by omega
      subst hwc
      omega
 have hi := h.votes hlen hr hlog hcm hv
 have hcP : P <+: (rg R c).Log := by
  by_cases hP : P = []
  ·rw [hP]; exact List.nil_prefix
  ·rcases h.j1 with h0 | h1
   ·exact absurd h0 hP
   ·obtain ⟨j, hj, g1, g2⟩ := h1.inter hG
    simp only [decide_eq_true_eq] at g1
    obtain ⟨_, _, hjc⟩ := hg j hj g2
    rcases hjc with rfl | ⟨hup, _⟩
    ·exact g1
    ·exact h.j2 hP c hc (le2_trans (le2_of_prefix (h.ok hj) g1 hP) hup)
 refine ⟨hlt, { hi with
  le := fun _ k hk i x hx hxe => by have := hi.eb k hk i x hx; omega
  eb := fun j hj i x hx => by have := hi.eb j hj i x hx; omega
  vm := .inr ⟨hG.mono fun j hj hp => ?_, hc, by omega⟩
  j4 := fun _ => by rw [Int.toNat_natCast, hlog c hc]; exact hcP
  ldn := by omega
  ep0 := by have := h.ep0; omega }⟩
 simp only [decide_eq_true_eq]
 obtain ⟨q1, q2, _⟩ := hg j hj hp
 exact .inr ⟨q1, q2⟩
theorem rg_set (R : List aRep) (i j : Nat) (a : aRep) (hi : i < R.length) : rg (R.set i a) j = if j = i then a else rg R j := by
 by_cases h : j = i
 ·subst h; rw [if_pos rfl]; exact getD_set_eq _ _ _ _ hi
 ·rw [if_neg h]; exact getD_set_ne _ _ _ _ _ (Ne.symm h)
theorem Inv.append (h : Inv R ld ep n w P) (h0 : 0 ≤ ld) {a : aRep} {d : List UInt8} (hep : (rg R ld.toNat).Epoch = ep) (ha : a = ⟨(rg R ld.toNat).Epoch, (rg R ld.toNat).Vote, (rg R ld.toNat).Commit, (rg R ld.toNat).Log ++ [⟨ep, d⟩]⟩) (hr : rightB a = true) : Inv (R.set ld.toNat a) ld ep n w P := by
 have hl : ld.toNat < n := by have := h.ldn; omega
 have hlR : ld.toNat < R.length := by rw [h.len]; exact hl
 have hg : ∀ j, rg (R.set ld.toNat a) j = if j = ld.toNat then a else rg R j := fun j => rg_set _ _ _ _ hlR
 have hal : a.Log = (rg R ld.toNat).Log ++ [⟨ep, d⟩] := by rw [ha]
 have hget : ∀ (i : Nat) x, a.Log[i]? = some x → (rg R ld.toNat).Log[i]? = some x ∨ (i = (rg R ld.toNat).Log.length ∧ x = ⟨ep, d⟩) := fun i x hx => by
  rw [hal] at hx
  by_cases hi : i < (rg R ld.toNat).Log.length
  ·rw [List.getElem?_append_left hi] at hx; exact .inl hx
  ·rw [List.getElem?_append_right (by omega)] at hx
   have : i - (rg R ld.toNat).Log.length = 0 := by
    have h1 := (List.getElem?_eq_some_iff.1 hx).1
    simp only [List.length_cons, List.length_nil] at h1
    omega
   rw [this] at hx
   simp at hx
   exact .inr ⟨by omega, hx.symm⟩
 have hpre : (rg R ld.toNat).Log <+: a.Log := by rw [hal]; exact List.prefix_append _ _
 have htake : ∀ i, i < (rg R ld.toNat).Log.length → a.Log.take (i + 1) = (rg R ld.toNat).Log.take (i + 1) := fun i hi => by
  rw [hal, List.take_append_of_le_length (by omega)]
 -- an entry of the leader's epoch at the place behind its log does not exist
 have hno : ∀ k, k < n → ∀ x, (rg R k).Log[(rg R ld.toNat).Log.length]? = some x → x.Epoch = ep → False := fun k hk x hx he => by
  obtain ⟨y, hy, _⟩ := h.le h0 k hk _ x hx he
  simp at hy
 exact {
  len := by rw [List.length_set]; exact h.len
  right := fun j hj => by
   rw [hg]; split
   ·exact hr
   ·exact h.right j hj
  lm := fun j k hj hk i x y hx hy hxy => by
   rw [hg] at hx hy ⊢
   rw [hg k]
   by_cases ej : j = ld.toNat
   ·subst ej
    rw [if_pos rfl] at hx ⊢
    by_cases ek : k = ld.toNat
    ·subst ek; rw [if_pos rfl]
    ·rw [if_neg ek] at hy ⊢
     rcases hget i x hx with hx' | ⟨rfl, rfl⟩
     ·rw [htake i (List.getElem?_eq_some_iff.1 hx').1]
      exact h.lm _ k hl hk i x y hx' hy hxy
     ·exact (hno k hk y hy hxy.symm).elim
   ·rw [if_neg ej] at hx ⊢
    by_cases ek : k = ld.toNat
    ·subst ek
     rw [if_pos rfl] at hy ⊢
     rcases hget i y hy with hy' | ⟨rfl, rfl⟩
     ·rw [htake i (List.getElem?_eq_some_iff.1 hy').1]
      exact h.lm j _ hj hl i x y hx hy' hxy
     ·exact (hno j hj x hx hxy).elim
    ·rw [if_neg ek] at hy ⊢
     exact h.lm j k hj hk i x y hx hy hxy
  le := fun _ k hk i x hx he => by
   rw [hg] at hx
   rw [hg, if_pos rfl]
   by_cases ek : k = ld.toNat
   ·rw [if_pos ek] at hx; exact ⟨x, hx, he⟩
   ·rw [if_neg ek] at hx
    obtain ⟨y, hy, hye⟩ := h.le h0 k hk i x hx he
    exact ⟨y, prefix_get hpre hy, hye⟩
  eb := fun j hj i x hx => by
   rw [hg] at hx
   by_cases ej : j = ld.toNat
   ·rw [if_pos ej] at hx
    rcases hget i x hx with hx' | ⟨_, rfl⟩
    ·exact h.eb _ hl i x hx'
    ·exact Int.le_refl _
   ·rw [if_neg ej] at hx; exact h.eb j hj i x hx
  vm := by
   have hae : ∀ j, (rg (R.set ld.toNat a) j).Epoch = (rg R j).Epoch ∧ (rg (R.set ld.toNat a) j).Vote = (rg R j).Vote := fun j => by
    rw [hg]
    by_cases ej : j = ld.toNat
    ·rw [if_pos ej, ej, ha]; exact ⟨rfl, rfl⟩
    ·rw [if_neg ej]; exact ⟨rfl, rfl⟩
   rcases h.vm with h1 | ⟨h1, h2, h3⟩
   ·exact .inl h1
   ·refine .inr ⟨h1.mono fun j hj hp => ?_, h2, by rw [(hae w).1]; exact h3⟩
    simp only [decide_eq_true_eq] at hp ⊢
    rw [(hae j).1, (hae j).2]
    exact hp
  j1 := by
   rcases h.j1 with h1 | h1
   ·exact .inl h1
   ·refine .inr (h1.mono fun j hj hp => ?_)
    simp only [decide_eq_true_eq] at hp ⊢
    rw [hg]
    by_cases ej : j = ld.toNat
    ·rw [if_pos ej]; rw [ej] at hp; exact hp.trans hpre
    ·rw [if_neg ej]; exact hp
  j2 := fun hP j hj hle => by
   rw [hg] at hle ⊢
   by_cases ej : j = ld.toNat
   ·rw [if_pos ej]; exact (h.j4 h0).trans hpre
   ·rw [if_neg ej] at hle ⊢; exact h.j2 hP j hj hle
  j3 := fun j hj => by
   rw [hg]
   by_cases ej : j = ld.toNat
   ·rw [if_pos ej]
    have hc : a.Commit = (rg R ld.toNat).Commit := by rw [ha]
    have hb := (rightB_iff.1 (h.right _ hl)).2.2.2.1
    rw [hc, hal, List.take_append_of_le_length (by omega)]
    exact h.j3 _ hl
   ·rw [if_neg ej]; exact h.j3 j hj
  j4 := fun _ => by rw [hg, if_pos rfl]; exact (h.j4 h0).trans hpre
  ldn := h.ldn
  ep0 := h.ep0 }
theorem Inv.take (h : Inv R ld ep n w P) (h0 : 0 ≤ ld) {j : Nat} (hj : j < n) {a : aRep} (hr : rightB a = true) (hlog : a.Log = (rg R ld.toNat).Log ∨ (a.Log = (rg R j).Log ∧ (rg R ld.toNat).Log <+: a.Log))
  (hcm : a.Commit = (rg R j).Commit ∨ (a.Commit ≤ (rg R ld.toNat).Commit)) (hep : a.Epoch = ep) (hge : (rg R j).Epoch ≤ ep) (hvt : (rg R j).Epoch = ep → a.Vote = (rg R j).Vote) (hjl : j ≠ ld.toNat) : Inv (R.set j a) ld ep n w P := by
 have hl : ld.toNat < n := by have := h.ldn; omega
 have hjR : j < R.length := by rw [h.len]; exact hj
 have hg : ∀ k, rg (R.set j a) k = if k = j then a else rg R k := fun k => rg_set _ _ _ _ hjR
 -- each log behind is one of before
 have hsrc : ∀ k, k < n → ∃ k', k' < n ∧ (rg (R.set j a) k).Log = (rg R k').Log := fun k hk => by
  rw [hg]
  by_cases e : k = j
  ·rw [if_pos e]
   rcases hlog with h1 | h1
   ·exact ⟨_, hl, h1⟩
   ·exact ⟨j, hj, h1.1⟩
  ·rw [if_neg e]; exact ⟨k, hk, rfl⟩
 have hldr : rg (R.set j a) ld.toNat = rg R ld.toNat := by rw [hg, if_neg (Ne.symm hjl)]
 have hPa : P <+: a.Log := by
  rcases hlog with h1 | h1
  ·rw [h1]; exact h.j4 h0
  ·exact (h.j4 h0).trans h1.2
 have hsa : (rg R ld.toNat).Log <+: a.Log := by
  rcases hlog with h1 | h1
  ·rw [h1]; exact List.prefix_rfl
  ·exact h1.2
 exact {
  len := by rw [List.length_set]; exact h.len
  right := fun k hk => by
   rw [hg]; split
   ·exact hr
   ·exact h.right k hk
  lm := fun k k' hk hk' i x y => by
   obtain ⟨q, hq, e⟩ := hsrc k hk
   obtain ⟨q', hq', e'⟩ := hsrc k' hk'
   rw [e, e']; exact h.lm q q' hq hq' i x y
  le := fun _ k hk i x hx he => by
   obtain ⟨q, hq, e⟩ := hsrc k hk
   rw [e] at hx
   rw [hldr]
   exact h.le h0 q hq i x hx he
  eb := fun k hk i x hx => by
   obtain ⟨q, hq, e⟩ := hsrc k hk
   rw [e] at hx
   exact h.eb q hq i x hx
  vm := by
   rcases h.vm with h1 | ⟨h1, h2, h3⟩
   ·exact .inl h1
   ·refine .inr ⟨h1.mono fun k hk hp => ?_, h2, ?_⟩
    ·simp only [decide_eq_true_eq] at hp ⊢
     rw [hg]
     by_cases e : k = j
     ·subst e
      rw [if_pos rfl]
      rcases hp with hp | ⟨hp, hq⟩
      ·omega
      ·exact .inr ⟨hep, by rw [hvt hp]; exact hq⟩
     ·rw [if_neg e]; exact hp
    ·rw [hg]
     by_cases e : w = j
     ·rw [if_pos e]; omega
     ·rw [if_neg e]; exact h3
  j1 := by
   rcases h.j1 with h1 | h1
   ·exact .inl h1
   ·refine .inr (h1.mono fun k hk hp => ?_)
    simp only [decide_eq_true_eq] at hp ⊢
    rw [hg]
    by_cases e : k = j
    ·rw [if_pos e]; exact hPa
    ·rw [if_neg e]; exact hp
  j2 := fun hP k hk hle => by
   rw [hg] at hle ⊢
   by_cases e : k = j
   ·rw [if_pos e]; exact hPa
   ·rw [if_neg e] at hle ⊢; exact h.j2 hP k hk hle
  j3 := fun k hk => by
   rw [hg]
   by_cases e : k = j
   ·rw [if_pos e]
    rcases hcm with hc | hc
    ·have hb := (rightB_iff.1 (h.right _ hj)).2.2.2.1
     have hold := h.j3 j hj
     rw [hc]
     have hlen : (rg R j).Commit.toNat ≤ P.length := by
      have := hold.length_le
      rw [List.length_take] at this
      omega
     have : a.Log.take (rg R j).Commit.toNat = P.take (rg R j).Commit.toNat := by
      obtain ⟨t, ht⟩ := hPa
      rw [← ht, List.take_append_of_le_length hlen]
     rw [this]
     exact List.take_prefix _ _
    ·have hb := (rightB_iff.1 (h.right _ hl)).2.2.2.1
     have hb2 := (rightB_iff.1 hr).2.2.2.1
     have hold := h.j3 _ hl
     have e1 : a.Log.take a.Commit.toNat = (rg R ld.toNat).Log.take a.Commit.toNat := by
      obtain ⟨t, ht⟩ := hsa
      rw [← ht, List.take_append_of_le_length (by omega)]
     rw [e1]
     have e2 : (rg R ld.toNat).Log.take a.Commit.toNat <+: (rg R ld.toNat).Log.take (rg R ld.toNat).Commit.toNat := by
      have : (rg R ld.toNat).Log.take a.Commit.toNat = ((rg R ld.toNat).Log.take (rg R ld.toNat).Commit.toNat).take a.Commit.toNat := by
       rw [List.take_take, Nat.min_eq_left (by omega)]
      rw [this]
      exact List.take_prefix _ _
     exact e2.trans hold
   ·rw [if_neg e]; exact h.j3 k hk
  j4 := fun _ => by rw [hldr]; exact h.j4 h0
  ldn := h.ldn
  ep0 := h.ep0 }
theorem Inv.commit (h : Inv R ld ep n w P) (h0 : 0 ≤ ld) {a : aRep} (ha : a = ⟨(rg R ld.toNat).Epoch, (rg R ld.toNat).Vote, ((rg R ld.toNat).Log.length : Int), (rg R ld.toNat).Log⟩) (hr : rightB a = true) (hne : (rg R ld.toNat).Log ≠ []) (hlast : lastL (rg R ld.toNat).Log = ep)
  (hm : Maj n (fun j => decide ((rg R ld.toNat).Log <+: (rg R j).Log))) : Inv (R.set ld.toNat a) ld ep n w (rg R ld.toNat).Log := by
 have hl : ld.toNat < n := by have := h.ldn; omega
 have hlR : ld.toNat < R.length := by rw [h.len]; exact hl
 have hg : ∀ j, rg (R.set ld.toNat a) j = if j = ld.toNat then a else rg R j := fun j => rg_set _ _ _ _ hlR
 have hlog : ∀ j, (rg (R.set ld.toNat a) j).Log = (rg R j).Log := fun j => by
  rw [hg]
  by_cases e : j = ld.toNat
  ·rw [if_pos e, e, ha]
  ·rw [if_neg e]
 have hev : ∀ j, (rg (R.set ld.toNat a) j).Epoch = (rg R j).Epoch ∧ (rg (R.set ld.toNat a) j).Vote = (rg R j).Vote := fun j => by
  rw [hg]
  by_cases e : j = ld.toNat
  ·rw [if_pos e, e, ha]; exact ⟨rfl, rfl⟩
  ·rw [if_neg e]; exact ⟨rfl, rfl⟩
 exact {
  len := by rw [List.length_set]; exact h.len
  right := fun k hk => by
   rw [hg]; split
   ·exact hr
   ·exact h.right k hk
  lm := fun j k hj hk i x y => by rw [hlog, hlog]; exact h.lm j k hj hk i x y
  le := fun _ k hk i x hx he => by rw [hlog] at hx; rw [hlog]; exact h.le h0 k hk i x hx he
  eb := fun j hj i x hx => by rw [hlog] at hx; exact h.eb j hj i x hx
  vm := by
   rcases h.vm with h1 | ⟨h1, h2, h3⟩
   ·exact .inl h1
   ·refine .inr ⟨h1.mono fun j hj hp => ?_, h2, by rw [(hev w).1]; exact h3⟩
    simp only [decide_eq_true_eq] at hp ⊢
    rw [(hev j).1, (hev j).2]
    exact hp
  j1 := .inr (hm.mono fun j hj hp => by rw [hlog]; exact hp)
  j2 := fun _ j hj hle => by
   rw [hlog] at hle ⊢
   have hnej : (rg R j).Log ≠ [] := fun e => by
    rw [e] at hle
    unfold le2 at hle
    obtain ⟨x, hx, ex⟩ := lastL_of hne
    have hpos := (okL_get (lo := 1) (h.ok hl) hx).1
    have h0l : lastL ([] : Log) = 0 := rfl
    rw [h0l] at hle
    omega
   obtain ⟨y, hy, ey⟩ := lastL_of hnej
   have hyb := h.eb j hj _ y hy
   have hye : y.Epoch = ep := by unfold le2 at hle; omega
   obtain ⟨z, hz, hze⟩ := h.le h0 j hj _ y hy hye
   have hzl := (List.getElem?_eq_some_iff.1 hz).1
   have hpos := List.length_pos_iff.2 hnej
   have hlen : (rg R ld.toNat).Log.length = (rg R j).Log.length := by unfold le2 at hle; omega
   have heq := h.lm j _ hj hl _ y z hy hz (by omega)
   rw [show (rg R j).Log.length - 1 + 1 = (rg R j).Log.length from by omega, List.take_length, ← hlen, List.take_length] at heq
   rw [heq]
   exact List.prefix_rfl
  j3 := fun j hj => by
   rw [hg]
   by_cases e : j = ld.toNat
   ·rw [if_pos e, ha]; exact List.take_prefix _ _
   ·rw [if_neg e]; exact (h.j3 j hj).trans (h.j4 h0)
  j4 := fun _ => by rw [hlog]; exact List.prefix_rfl
  ldn := h.ldn
  ep0 := h.ep0 }
end Go.Proofs.YtmafcdkdcfaajaaGreat
