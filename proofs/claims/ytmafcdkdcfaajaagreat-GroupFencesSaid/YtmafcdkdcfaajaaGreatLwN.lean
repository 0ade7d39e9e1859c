/- The law. -/
import Derived.Test.YtmafcdkdcfaajaaGreatLwM
set_option linter.unusedVariables false
set_option linter.unusedSimpArgs false
namespace Go.Proofs.YtmafcdkdcfaajaaGreat
open Eng
variable {R R' : List aRep} {ld ep : Int} {n w : Nat} {P : Log}
theorem leads_zero {U : List Bool} {i e : Int} {l : List Int} (h : leadsB R U ld ep i e l = 0) : suitB R U ld ep i l = true ∧ U.getD i.toNat false = true ∧ i = ld ∧ e = ep ∧ (R.getD i.toNat ZR).Epoch = e ∧ newerB R (Pb U i l) e = false := by
 unfold leadsB at h
 split at h
 ·rename_i h1
  split at h
  ·rename_i h2
   split at h
   ·omega
   ·rename_i h3
    split at h
    ·omega
    ·rename_i h4
     split at h
     ·omega
     ·rename_i h5
      split at h
      ·omega
      ·rename_i h6
       exact ⟨h1, h2, by simpa using h3, by simpa using h4, by simpa using h5, by simpa using h6⟩
  ·omega
 ·omega
theorem leadB_ok {r s : aRep} {e : Int} {d : List UInt8} (h : leadB r e d = (s, 0)) : s = ⟨r.Epoch, r.Vote, r.Commit, r.Log ++ [⟨e, d⟩]⟩ ∧ e = r.Epoch ∧ rightB s = true := by
 unfold leadB at h
 split at h
 ·rename_i h1
  split at h
  ·cases h
  ·rename_i h2
   split at h
   ·cases h
   ·rename_i h3
    split at h
    ·cases h
    ·rename_i h4
     simp only [Prod.mk.injEq, and_true] at h
     have h3' : e = r.Epoch := by simpa using h3
     refine ⟨h.symm, h3', ?_⟩
     rw [← h]
     have hr := rightB_iff.1 h1.1
     refine rightB_iff.2 ⟨hr.1, hr.2.1, by show (r.Log ++ [(⟨e, d⟩ : aEnt)]).length ≤ 5000; rw [List.length_append]; simp; omega, by show 0 ≤ r.Commit ∧ r.Commit ≤ (((r.Log ++ [(⟨e, d⟩ : aEnt)]).length : Nat) : Int); rw [List.length_append]; simp; omega, ?_⟩
     show okL (r.Log ++ [(⟨e, d⟩ : aEnt)]) 1 r.Epoch = true
     rw [okL_append, hr.2.2.2.2, Bool.true_and]
     have hlo : lastOr 1 r.Log ≤ e := by
      unfold lastOr
      split
      ·rename_i x hx
       have := okL_bounds hr.2.2.2.2 x (List.mem_of_getLast? hx)
       omega
      ·exact h1.2
     simp only [okL, Bool.and_true, Bool.and_eq_true, decide_eq_true_eq]
     exact ⟨⟨hlo, by omega⟩, by omega⟩
 ·cases h
theorem Inv.down (h : Inv R ld ep n w P) : Inv R (-1) ep n w P := { h with
 le := fun h0 => by omega
 j4 := fun h0 => by omega
 ldn := ⟨by omega, by omega⟩ }
theorem step_inv (h : Inv R ld ep n w P) (hn : n ≤ 9) {U : List Bool} (hU : U.length = n) {s : wl55_Step} {x : group_Group × Int} (hx : StepOf R U ld ep s x) :
  ∃ w' P', P <+: P' ∧ Inv (resG ⟨R, U, ld, ep⟩ s.Kind x).Replicas (resG ⟨R, U, ld, ep⟩ s.Kind x).Leader (resG ⟨R, U, ld, ep⟩ s.Kind x).Epoch n w' P' ∧ Up2 n R (resG ⟨R, U, ld, ep⟩ s.Kind x).Replicas ∧ (resG ⟨R, U, ld, ep⟩ s.Kind x).Up.length = n := by
 unfold resG
 have same : ∃ w' P', P <+: P' ∧ Inv R ld ep n w' P' ∧ Up2 n R R ∧ U.length = n := ⟨w, P, List.prefix_rfl, h, Up2.refl, hU⟩
 rcases hx with ⟨hk, hx⟩ | ⟨hk, hx⟩
 ·rcases elect_inv h hx hn with ⟨h1, h2⟩ | ⟨h1, h2, w', h3, h4⟩
  ·rw [if_pos ⟨h1, fun hh => h2 hh.2⟩]; exact same
  ·rw [if_neg (fun hh => by
    rcases h1 with h1 | h1
    ·exact hh.1 h1
    ·exact hh.2 ⟨hk, h1⟩)]
   exact ⟨w', P, List.prefix_rfl, h3, h4, by rw [h2]; exact hU⟩
 ·by_cases h0 : x.2 ≠ 0
  ·rw [if_pos ⟨h0, fun hh => hk hh.1⟩]; exact same
  ·rw [if_neg (fun hh => h0 hh.1)]
   rcases hx with ⟨m, ok, hx⟩ | hx | hx
   ·rcases hx with hx | ⟨_, hl, a, R', hA, hr, hx1, _⟩
    ·exact absurd hx h0
    ·obtain ⟨z1, z2, z3, z4, z5, _⟩ := leads_zero hl
     obtain ⟨hb, hf, _⟩ := suitB_spec z1
     subst z3
     obtain ⟨b1, b2, b3⟩ := leadB_ok hA
     have hlR : s.I.toNat < R.length := by omega
     have hi := h.append (by omega) (a := a) (d := s.Data) (by rw [← z4]; exact z5) (by rw [b1]; congr 3; rw [z4]) b3
     have hget : rg (R.set s.I.toNat a) s.I.toNat = a := by rw [rg_set _ _ _ _ hlR, if_pos rfl]
     obtain ⟨P', p1, p2, p3⟩ := hr.inv hi (by omega) (by rw [hget, b1, ← z4]; exact z5) hn
     have hx1' : x.1 = ⟨R', U, s.I, ep⟩ := hx1
     rw [hx1']
     exact ⟨w, P', p1, p2, (Up2.set hlR (by rw [b1]; exact Int.le_refl _)).trans p3, hU⟩
   ·rcases hx with hx | ⟨_, hl, R', hr, hx1⟩
    ·exact absurd hx h0
    ·obtain ⟨z1, z2, z3, z4, z5, _⟩ := leads_zero hl
     obtain ⟨hb, hf, _⟩ := suitB_spec z1
     subst z3
     obtain ⟨P', p1, p2, p3⟩ := hr.inv h (by omega) (by rw [← z4]; exact z5) hn
     rw [hx1]
     exact ⟨w, P', p1, p2, p3, hU⟩
   ·rcases hx with hx | ⟨_, h1, h2, h3, h4⟩
    ·exact absurd hx h0
    ·rw [h1, h3]
     refine ⟨w, P, List.prefix_rfl, ?_, Up2.refl, by rw [h2]; exact hU⟩
     rcases h4 with h4 | h4
     ·rw [h4]; exact h
     ·rw [h4]; exact h.down
theorem take_of_prefix {l P : Log} {c m : Nat} (h : l.take c <+: P) (hm : m ≤ c) (hc : c ≤ l.length) : l.take m = P.take m := by
 obtain ⟨t, ht⟩ := h
 rw [← ht, List.take_append_of_le_length (by rw [List.length_take]; omega), List.take_take, Nat.min_eq_left hm]
theorem Inv.cm (h : Inv R ld ep n w P) {j : Nat} (hj : j < n) : 0 ≤ (rg R j).Commit ∧ (rg R j).Commit.toNat ≤ (rg R j).Log.length ∧ (rg R j).Log.length ≤ 5000 := by
 have := rightB_iff.1 (h.right j hj)
 omega
theorem Inv.takeP (h : Inv R ld ep n w P) {v : Nat} (hv : v < n) : (rg R v).Log.take (rg R v).Commit.toNat = P.take (rg R v).Commit.toNat ∧ (rg R v).Commit.toNat ≤ P.length := by
 have c := h.cm hv
 have h1 := take_of_prefix (h.j3 v hv) (Nat.le_refl _) c.2.1
 refine ⟨h1, ?_⟩
 have h2 := (h.j3 v hv).length_le
 rw [List.length_take] at h2
 omega
theorem small_eq (K : Nat) (s : wl55_Step) : wl55_small K s = some (decide (s.Reach.length ≤ 30) && decide (s.Data.length ≤ 70000)) := by
 unfold wl55_small
 by_cases h : s.Reach.length ≤ 30
 ·rw [if_pos (by omega), decide_eq_true h, Bool.true_and]
  congr 1
  simp only [decide_eq_decide]
  omega
 ·rw [if_neg (by omega), decide_eq_false h, Bool.false_and]
abbrev newR (n : Nat) : List aRep := List.replicate n ⟨0, -1, 0, []⟩
theorem inv_new (n : Nat) : Inv (newR n) (-1) 0 n 0 [] := by
 have hg : ∀ j, j < n → rg (newR n) j = ⟨0, -1, 0, []⟩ := fun j hj => by simp [rg, List.getD_eq_getElem?_getD, hj]
 exact {
  len := by simp
  right := fun j hj => by rw [hg j hj]; decide +kernel
  lm := fun j k hj hk i x y hx => by rw [hg j hj] at hx; simp at hx
  le := fun h0 => by omega
  eb := fun j hj i x hx => by rw [hg j hj] at hx; simp at hx
  vm := .inl rfl
  j1 := .inl rfl
  j2 := fun h0 => absurd rfl h0
  j3 := fun j hj => by rw [hg j hj]; exact List.prefix_rfl
  j4 := fun h0 => by omega
  ldn := by omega
  ep0 := by omega }
theorem new_val (K : Nat) (n : Int) (hE : K = 100000) : (∃ g e, group_New K n = some (g, e) ∧ e ≠ 0) ∨ (1 ≤ n ∧ n ≤ 9 ∧ group_New K n = some (⟨newR n.toNat, List.replicate n.toNat true, -1, 0⟩, 0)) := by
 by_cases h1 : n < 1
 ·left; unfold group_New; rw [if_pos h1]; exact ⟨_, _, rfl, by omega⟩
 ·by_cases h2 : n > 9
  ·left; unfold group_New; rw [if_neg h1, if_pos h2]; exact ⟨_, _, rfl, by omega⟩
  ·right
   refine ⟨by omega, by omega, ?_⟩
   have : n = 1 ∨ n = 2 ∨ n = 3 ∨ n = 4 ∨ n = 5 ∨ n = 6 ∨ n = 7 ∨ n = 8 ∨ n = 9 := by omega
   rcases this with rfl | rfl | rfl | rfl | rfl | rfl | rfl | rfl | rfl
   all_goals (subst hE; exact (Le.refl _).at (by kernel_rfl))
end Go.Proofs.YtmafcdkdcfaajaaGreat
