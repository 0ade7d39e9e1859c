/- The law. -/
import Derived.Test.YtmafcdkdcfaajaaGreatLwF
set_option linter.unusedVariables false
set_option linter.unusedSimpArgs false
namespace Go.Proofs.YtmafcdkdcfaajaaGreat
open Eng
theorem works_E : wl55_works 100000 = some true := by decide +kernel
def ReplOf (R : List aRep) (U : List Bool) (i : Int) (l : List Int) (R' : List aRep) : Prop :=
 ∃ s st c, s = R.getD i.toNat ZR ∧ st = (fl (Pb U i l) R.length 0).foldl (stepR s) (R, (List.replicate (Int.toNat (R.length : Int)) (0 : Int)).set i.toNat (s.Log.length : Int), []) ∧ Good s (idx st.2.1) c ∧
  R' = if c ≤ s.Commit then st.1.set i.toNat ⟨s.Epoch, s.Vote, c, s.Log⟩ else st.2.2.foldl (stepS ⟨s.Epoch, s.Vote, c, s.Log⟩) (st.1.set i.toNat ⟨s.Epoch, s.Vote, c, s.Log⟩)
theorem replicate_both (K : Nat) (R : List aRep) (U : List Bool) (ld ep i : Int) (l : List Int) (hl : l.length ≤ 30) (hK : 100000 ≤ K) (hn : R.length ≤ 9) (hu : U.length = R.length) (hi : 0 ≤ i ∧ i < (R.length : Int)) (hf : ∀ r ∈ R, Fit r) :
  ∃ R', group_Group_replicate_v2 K U ld ep i l R = some R' ∧ wr55_replicate K ⟨R, U, ld, ep⟩ i (inL U i l R.length) = some ⟨R', U, ld, ep⟩ ∧ R'.length = R.length ∧ (∀ r ∈ R', Fit r) ∧ (R'.getD i.toNat ZR).Log = (R.getD i.toNat ZR).Log ∧ ReplOf R U i l R' := by
 have q3 : i.toNat < R.length := by omega
 have hsf := fit_getD hf q3
 generalize hs : R.getD i.toNat ZR = s at hsf
 have hs0 : R.getD i.toNat z_aRep = s := hs
 unfold group_Group_replicate_v2 wr55_replicate
 rw [cloned2_eq K _ hn (by show U.length ≤ 9; omega), inL_len]
 simp only [Option.bind_some, hs0]
 have q4 : i < ((List.replicate (Int.toNat (R.length : Int)) (0 : Int)).length : Int) := by simp; omega
 have q5 : i.toNat < (List.replicate (Int.toNat (R.length : Int)) (0 : Int)).length := by simp; omega
 have q6 : (0 : Int) ≤ (R.length : Int) ∧ (8 : Int) * (R.length : Int) ≤ 281474976710656 := by omega
 have q7 : (1 : Int) * (R.length : Int) ≤ 281474976710656 := by omega
 simp only [if_pos hi, if_pos q3, if_pos q4, if_pos q5, if_pos q6, if_pos q7]
 rw [others2_eq K _ _ _ hl (by omega) hn hu, rLast_eq K s (by have := hsf.1; omega)]
 simp only [Option.bind_some]
 have hos : (fl (Pb U i l) R.length 0).length ≤ 9 := Nat.le_trans (fl_len _ _) hn
 have hom : ∀ j ∈ fl (Pb U i l) R.length 0, j < R.length := fun j hj => by have := (fl_mem _ _ _).1 hj; omega
 have hM : ((List.replicate (Int.toNat (R.length : Int)) (0 : Int)).set i.toNat (s.Log.length : Int)).length = R.length := by simp
 have e1 := grep15 K U ld ep i R s hs0 hsf _ R.length hos hom hK K 0 (R, (List.replicate (Int.toNat (R.length : Int)) (0 : Int)).set i.toNat (s.Log.length : Int), []) (by omega) (by omega) rfl hM (by simp) hf
 have e2 := rrep19 K ⟨R, U, ld, ep⟩ i s hs0 hsf (inL U i l R.length) (Pb U i l) R.length hn rfl (inL_len _ _ _ _) (fun j hj => inL_get _ _ _ _ _ hj) hK R.length K 0 (R, (List.replicate (Int.toNat (R.length : Int)) (0 : Int)).set i.toNat (s.Log.length : Int), []) (by omega) (by omega) rfl hM hf (fun j _ _ => rfl)
 have hmk : marks R.length [] = List.replicate (Int.toNat (R.length : Int)) false := by
  apply List.ext_getElem
  ·simp [marks]
  ·intro j h1 h2; simp [marks]
 rw [show ((0 : Nat) : Int) = 0 from rfl] at e1 e2
 simp only [List.drop_zero, hmk] at e1 e2
 rw [show castL [] = ([] : List Int) from rfl] at e1
 rw [e1]
 simp only [Option.bind_some]
 rw [e2]
 simp only [Option.bind_some]
 obtain ⟨⟨i1, i2, i3⟩, i4⟩ := stepR_inv (s := s) (fl (Pb U i l) R.length 0) (R, (List.replicate (Int.toNat (R.length : Int)) (0 : Int)).set i.toNat (s.Log.length : Int), []) hf
 obtain ⟨Q, hQ, hQP⟩ := stepR_held (s := s) (P := Pb U i l) R.length 0 (R, (List.replicate (Int.toNat (R.length : Int)) (0 : Int)).set i.toNat (s.Log.length : Int), [])
 have hno : i.toNat ∉ fl (Pb U i l) R.length 0 := fun h => by
  have := Pb_ne ((fl_mem _ _ _).1 h).2.2
  omega
 have i5 := i4 i.toNat hno
 rcases hS : (fl (Pb U i l) R.length 0).foldl (stepR s) (R, (List.replicate (Int.toNat (R.length : Int)) (0 : Int)).set i.toNat (s.Log.length : Int), []) with ⟨R1, M1, H1⟩
 rw [hS] at i1 i2 i3 i5 hQ
 simp only [hM] at i1 i2 i3 i5
 simp only [List.nil_append] at hQ
 simp only
 rw [rcommit_eq K s M1 hsf.1 (by omega) hK]
 obtain ⟨c, hc, hgood⟩ := commit_eq K s M1 hsf.1 (by omega) hK
 rw [hc]
 simp only [Option.bind_some]
 have q8 : i < (R1.length : Int) := by omega
 have q9 : i.toNat < R1.length := by omega
 simp only [if_pos q8, if_pos q9]
 have hs'f : Fit (⟨s.Epoch, s.Vote, c, s.Log⟩ : aRep) := hsf
 have hset := fit_set i3 (j := i.toNat) hs'f
 have hH : ∀ j ∈ H1, j < R.length := fun j hj => by rw [hQ] at hj; have := (fl_mem _ _ _).1 hj; omega
 have hHl : H1.length ≤ 9 := by rw [hQ]; exact Nat.le_trans (fl_len _ _) hn
 have hHi : i.toNat ∉ H1 := fun hj => by
  rw [hQ] at hj
  have h := (fl_mem _ _ _).1 hj
  have := Pb_ne (hQP _ h.2.2)
  omega
 have hfl : fl (fun j => decide (j ∈ H1)) R.length 0 = H1 := by
  have : fl (fun j => decide (j ∈ H1)) R.length 0 = fl Q R.length 0 := fl_congr _ _ fun j _ hj => by
   rw [hQ]
   by_cases h : Q j = true
   ·rw [h, decide_eq_true ((fl_mem _ _ _).2 ⟨by omega, by omega, h⟩)]
   ·have h2 : ¬ j ∈ fl Q R.length 0 := fun hm => h ((fl_mem _ _ _).1 hm).2.2
    simp only [Bool.not_eq_true] at h
    rw [h, decide_eq_false h2]
  rw [this, ← hQ]
 by_cases hcm : c ≤ s.Commit
 ·rw [if_pos hcm]
  refine ⟨_, rfl, ?_, by simpa using i1, hset, ?_, s, (R1, M1, H1), c, hs.symm, hS.symm, hgood, by rw [if_pos hcm]⟩
  ·have hl68 : wr55_replicate.l68 K ⟨R, U, ld, ep⟩ i (inL U i l R.length) (s.Log.length : Int) (lastE s) (marks R.length H1) c K 0 (R1.set i.toNat ⟨s.Epoch, s.Vote, c, s.Log⟩) = some (R1.set i.toNat ⟨s.Epoch, s.Vote, c, s.Log⟩) := by
    cases K with
    | zero => omega
    | succ k =>
     unfold wr55_replicate.l68
     rw [inL_len, hs0]
     rw [if_pos (by omega), if_neg (by omega)]
   rw [hl68]
   rfl
  ·rw [getD_set_eq _ _ _ _ q9]
 ·rw [if_neg hcm]
  have e3 := grep51 K U ld ep i c R s _ hs0 rfl hsf H1 R.length hHl hH hK K 0 (R1.set i.toNat ⟨s.Epoch, s.Vote, c, s.Log⟩) (by omega) (by omega) (by simpa using i1)
  have e4 := rrep68 K ⟨R, U, ld, ep⟩ i c s _ hs0 rfl hsf (inL U i l R.length) H1 R.length hn rfl (inL_len _ _ _ _) (by omega) hK R.length K 0 (R1.set i.toNat ⟨s.Epoch, s.Vote, c, s.Log⟩) (by omega) (by omega) (by simpa using i1)
  rw [show ((0 : Nat) : Int) = 0 from rfl] at e3 e4
  simp only [List.drop_zero, hfl] at e3 e4
  obtain ⟨⟨j1, j2⟩, j3⟩ := stepS_inv (s := ⟨s.Epoch, s.Vote, c, s.Log⟩) H1 (R1.set i.toNat ⟨s.Epoch, s.Vote, c, s.Log⟩) hset
  rw [e3, e4]
  refine ⟨_, rfl, rfl, by rw [j1]; simpa using i1, j2, ?_, s, (R1, M1, H1), c, hs.symm, hS.symm, hgood, by rw [if_neg hcm]⟩
  rw [j3 _ hHi, getD_set_eq _ _ _ _ q9]
def SyncOf (R : List aRep) (U : List Bool) (ld ep i e : Int) (l : List Int) (x : group_Group × Int) : Prop :=
 x.2 ≠ 0 ∨ (x.2 = 0 ∧ leadsB R U ld ep i e l = 0 ∧ ∃ R', ReplOf R U i l R' ∧ x.1 = ⟨R', U, ld, ep⟩)
theorem sync_both (K : Nat) (R : List aRep) (U : List Bool) (ld ep i e : Int) (l : List Int) (hl : l.length ≤ 30) (hK : 100000 ≤ K) : ∃ x y, group_Sync K ⟨R, U, ld, ep⟩ i e l = some x ∧ wr55_Sync K ⟨R, U, ld, ep⟩ i e l = some y ∧ Both x y ∧ SyncOf R U ld ep i e l x := by
 unfold group_Sync wr55_Sync
 rw [leads_eq K _ _ _ _ _ _ _ hl (by omega)]
 simp only [Option.bind_some]
 rcases rleads K R U ld ep i e l hl (by omega) with ⟨a, h1, h2, h3⟩ | ⟨hs, h2, h3, b, h4, h5⟩
 ·rw [h2, h3]
  simp only [Option.bind_some, if_pos h1]
  exact ⟨_, _, rfl, rfl, .zero _, .inl h1⟩
 ·obtain ⟨hb, hf, hall⟩ := suitB_spec hs
  rw [h2, h3, h5]
  simp only [Option.bind_some, ne_eq, not_true_eq_false, if_false]
  rw [h4]
  simp only [Option.bind_some]
  cases b with
  | true => exact ⟨_, _, rfl, rfl, .zero _, .inl (by show (25 : Int) ≠ 0; omega)⟩
  | false =>
   simp only [Bool.false_eq_true, if_false, ne_eq, not_true_eq_false]
   rw [clone2_eq K _ (by show R.length ≤ 9; omega) (by show U.length ≤ 9; omega) hf (by omega)]
   simp only [Option.bind_some]
   obtain ⟨R', r1, r2, r3, r4, r5, r6⟩ := replicate_both K R U ld ep i l hl hK (by omega) (by omega) (by omega) hf
   rw [r1, r2]
   exact ⟨_, _, rfl, rfl, .mk' (by omega) (by omega) r4, .inr ⟨rfl, h5, R', r6, rfl⟩⟩
structure BothP (x : group_Group × Int × Bool × Int) (y : wr55_Group × Int × Bool × Int) : Prop where
 b : Both (x.1, x.2.2.2) (y.1, y.2.2.2)
 n : x.2.1 = y.2.1
 ok : x.2.2.1 = y.2.2.1
def ProposeOf (R : List aRep) (U : List Bool) (ld ep i e : Int) (d : List UInt8) (l : List Int) (x : group_Group × Int × Bool × Int) : Prop :=
 x.2.2.2 ≠ 0 ∨ (x.2.2.2 = 0 ∧ leadsB R U ld ep i e l = 0 ∧ ∃ s R', leadB (R.getD i.toNat z_aRep) e d = (s, 0) ∧ ReplOf (R.set i.toNat s) U i l R' ∧ x.1 = ⟨R', U, ld, ep⟩ ∧ x.2.2.1 = decide ((R'.getD i.toNat ZR).Commit = ((R'.getD i.toNat ZR).Log.length : Int)))
theorem propose_both (K : Nat) (R : List aRep) (U : List Bool) (ld ep i e : Int) (d : List UInt8) (l : List Int) (hl : l.length ≤ 30) (hK : 100000 ≤ K) : ∃ x y, group_Propose K ⟨R, U, ld, ep⟩ i e d l = some x ∧ wr55_Propose K ⟨R, U, ld, ep⟩ i e d l = some y ∧ BothP x y ∧ ProposeOf R U ld ep i e d l x := by
 unfold group_Propose wr55_Propose
 rw [leads_eq K _ _ _ _ _ _ _ hl (by omega)]
 simp only [Option.bind_some]
 rcases rleads K R U ld ep i e l hl (by omega) with ⟨a, h1, h2, h3⟩ | ⟨hs, h2, h3, b, h4, h5⟩
 ·rw [h2, h3]
  simp only [Option.bind_some, if_pos h1]
  exact ⟨_, _, rfl, rfl, ⟨.zero _, rfl, rfl⟩, .inl h1⟩
 ·obtain ⟨hb, hf, hall⟩ := suitB_spec hs
  rw [h2, h3, h5]
  simp only [Option.bind_some, ne_eq, not_true_eq_false, if_false]
  rw [h4]
  simp only [Option.bind_some]
  cases b with
  | true => exact ⟨_, _, rfl, rfl, ⟨.zero _, rfl, rfl⟩, .inl (by show (25 : Int) ≠ 0; omega)⟩
  | false =>
   have q2 : (0 : Int) ≤ i ∧ i < (R.length : Int) := by omega
   have q3 : i.toNat < R.length := by omega
   simp only [Bool.false_eq_true, if_false, not_true_eq_false, if_pos q2]
   rw [Lead_eq K _ _ _ (by omega), rLead_eq K _ _ _ (by omega)]
   simp only [Option.bind_some]
   have hlf := leadB_fit (R.getD i.toNat z_aRep) e d
   rcases hA : leadB (R.getD i.toNat z_aRep) e d with ⟨s, f⟩
   rw [hA] at hlf
   replace hlf : Fit s := hlf
   simp only
   by_cases hf0 : f = 0
   ·simp only [hf0, not_true_eq_false, if_false]
    rw [clone2_eq K _ (by show R.length ≤ 9; omega) (by show U.length ≤ 9; omega) hf (by omega), cloned2_eq K _ (by show R.length ≤ 9; omega) (by show U.length ≤ 9; omega)]
    simp only [Option.bind_some, if_pos q2.2, if_pos q3]
    obtain ⟨R', r1, r2, r3, r4, r5, r6⟩ := replicate_both K (R.set i.toNat s) U ld ep i l hl hK (by rw [List.length_set]; omega) (by rw [List.length_set]; omega) (by rw [List.length_set]; omega) (fit_set hf hlf)
    rw [List.length_set] at r2 r3
    rw [getD_set_eq _ _ _ _ q3] at r5
    rw [r1, r2]
    have q4 : i < (R'.length : Int) := by omega
    have q5 : i.toNat < R'.length := by omega
    simp only [Option.bind_some, if_pos q4, if_pos q5]
    replace r5 : (R'.getD i.toNat z_aRep).Log = s.Log := r5
    refine ⟨_, _, rfl, rfl, ⟨.mk' (by omega) (by omega) r4, ?_, ?_⟩, .inr ⟨rfl, h5, s, R', by rw [hA, hf0], r6, rfl, rfl⟩⟩
    ·show ((R'.getD i.toNat z_aRep).Log.length : Int) = _
     rw [r5]
    ·show decide ((R'.getD i.toNat z_aRep).Commit = ((R'.getD i.toNat z_aRep).Log.length : Int)) = _
     rw [r5]
   ·simp only [hf0, not_false_eq_true, if_true]
    exact ⟨_, _, rfl, rfl, ⟨.zero _, rfl, rfl⟩, .inl hf0⟩
theorem sameG15 (K : Nat) (f : wr55_Group) (hn : f.Replicas.length ≤ 9) (hf : ∀ r ∈ f.Replicas, Fit r) (hK : 100000 ≤ K) : ∀ (k n : Nat), f.Replicas.length - n < k → n ≤ f.Replicas.length → wr55_Same.l15 K f f k (n : Int) = some (.go ()) := by
 intro k
 induction k with
 | zero => intro n h; omega
 | succ k ih =>
  intro n h hnn
  unfold wr55_Same.l15
  by_cases hlt : n < f.Replicas.length
  ·have q1 : (n : Int) < f.Replicas.length := by omega
   have q2 : (0 : Int) ≤ n ∧ (n : Int) < f.Replicas.length := by omega
   simp only [if_pos q1, if_pos q2, Int.toNat_natCast]
   rw [Same_self K _ (fit_getD hf hlt) (by omega), wrap_succ (by omega)]
   simp only [Option.bind_some, if_true]
   exact ih (n + 1) (by omega) (by omega)
  ·rw [if_neg (by omega)]
theorem sameG36 (K : Nat) (f : wr55_Group) (hn : f.Up.length ≤ 9) : ∀ (k n : Nat), f.Up.length - n < k → n ≤ f.Up.length → wr55_Same.l36 K f f k (n : Int) = some (.go ()) := by
 intro k
 induction k with
 | zero => intro n h; omega
 | succ k ih =>
  intro n h hnn
  unfold wr55_Same.l36
  by_cases hlt : n < f.Up.length
  ·have q1 : (n : Int) < f.Up.length := by omega
   have q2 : (0 : Int) ≤ n ∧ (n : Int) < f.Up.length := by omega
   simp only [if_pos q1, if_pos q2, Int.toNat_natCast, beq_self_eq_true, if_true]
   rw [wrap_succ (by omega)]
   exact ih (n + 1) (by omega) (by omega)
  ·rw [if_neg (by omega)]
theorem sameG_self (K : Nat) (f : wr55_Group) (hn : f.Replicas.length ≤ 9) (hu : f.Up.length ≤ 9) (hf : ∀ r ∈ f.Replicas, Fit r) (hK : 100000 ≤ K) : wr55_Same K f f = some true := by
 unfold wr55_Same
 have h1 := sameG15 K f hn hf hK K 0 (by omega) (by omega)
 have h2 := sameG36 K f hu K 0 (by omega) (by omega)
 rw [show ((0 : Nat) : Int) = 0 from rfl] at h1 h2
 simp only [ne_eq, not_true_eq_false, if_false, h1, h2, obind]
theorem Both.same {x : group_Group × Int} {y : wr55_Group × Int} (h : Both x y) (K : Nat) (hK : 100000 ≤ K) : wr55_Same K ⟨x.1.Replicas, x.1.Up, x.1.Leader, x.1.Epoch⟩ ⟨y.1.Replicas, y.1.Up, y.1.Leader, y.1.Epoch⟩ = some true := by
 rw [← h.r, ← h.u, ← h.l, ← h.e]
 exact sameG_self K _ h.n h.nu h.fit hK
def resG (g : group_Group) (kind : Int) (x : group_Group × Int) : group_Group := if x.2 ≠ 0 ∧ ¬ (kind = 0 ∧ x.2 = 27) then g else x.1
theorem tail_true (K : Nat) (g : wr55_Group) (s : wl55_Step) (hK : 100000 ≤ K) (e e' n n' : Int) (ok ok' : Bool) (R R' : List aRep) (U U' : List Bool) (l l' p p' : Int) (he : e = e') (hn : n = n') (ho : ok = ok') (hs : wr55_Same K ⟨R, U, l, p⟩ ⟨R', U', l', p'⟩ = some true) :
  ∃ y, (Option.bind (((if e = e' then (if n = n' then (if (ok == ok') = true then (Option.bind (wl55_back K (⟨R, U, l, p⟩ : group_Group)) (fun a16 => (Option.bind (wr55_Same K a16 (⟨R', U', l', p'⟩ : wr55_Group)) (fun a17 => some a17)))) else some false) else some false) else some false)) : Option Bool) (fun xt15_42 => (Option.bind (((if e ≠ 0 then (if s.Kind = 0 then some ((!((decide (e = 27))))) else some true) else some false)) : Option Bool) (fun xt159_45 => (if xt159_45 = true then (Option.bind (wl55_of K g) (fun a18 => some (a18, g, xt15_42))) else some (((⟨R, U, l, p⟩ : group_Group), (⟨R', U', l', p'⟩ : wr55_Group), xt15_42))))))) = some (resG ⟨g.Replicas, g.Up, g.Leader, g.Epoch⟩ s.Kind (⟨R, U, l, p⟩, e), y, true) := by
 subst he; subst hn; subst ho
 unfold wl55_back wl55_of
 simp only [if_true, beq_self_eq_true, Option.bind_some]
 rw [hs]
 simp only [Option.bind_some]
 by_cases h0 : e ≠ 0
 ·rw [if_pos h0]
  by_cases h1 : s.Kind = 0
  ·rw [if_pos h1]
   simp only [Option.bind_some]
   by_cases h2 : e = 27
   ·rw [decide_eq_true h2]
    refine ⟨⟨R', U', l', p'⟩, ?_⟩
    simp only [Bool.not_true, Bool.false_eq_true, if_false]
    unfold resG
    rw [if_neg (fun hh => hh.2 ⟨h1, h2⟩)]
   ·rw [decide_eq_false h2]
    refine ⟨g, ?_⟩
    simp only [Bool.not_false, if_true]
    unfold resG
    rw [if_pos ⟨h0, fun hh => h2 hh.2⟩]
  ·rw [if_neg h1]
   simp only [Option.bind_some, if_true]
   refine ⟨g, ?_⟩
   unfold resG
   rw [if_pos ⟨h0, fun hh => h1 hh.1⟩]
 ·rw [if_neg h0]
  simp only [Option.bind_some, Bool.false_eq_true, if_false]
  refine ⟨⟨R', U', l', p'⟩, ?_⟩
  unfold resG
  rw [if_neg (fun hh => h0 hh.1)]
def StepOf (R : List aRep) (U : List Bool) (ld ep : Int) (s : wl55_Step) (x : group_Group × Int) : Prop :=
 (s.Kind = 0 ∧ ElectOf R U ld ep s.I s.Reach x) ∨ (s.Kind ≠ 0 ∧ ((∃ n ok, ProposeOf R U ld ep s.I s.Epoch s.Data s.Reach (x.1, n, ok, x.2)) ∨ SyncOf R U ld ep s.I s.Epoch s.Reach x ∨ PowerOf R U ld ep x))
theorem both_val (K : Nat) (R : List aRep) (U : List Bool) (ld ep : Int) (s : wl55_Step) (hl : s.Reach.length ≤ 30) (hK : 100000 ≤ K) : ∃ x y, StepOf R U ld ep s x ∧ wl55_both K ⟨R, U, ld, ep⟩ s = some (resG ⟨R, U, ld, ep⟩ s.Kind x, y, true) := by
 unfold wl55_both
 have hof : wl55_of K ⟨R, U, ld, ep⟩ = some ⟨R, U, ld, ep⟩ := rfl
 by_cases h0 : s.Kind = 0
 ·rw [if_pos h0, hof]
  simp only [Option.bind_some]
  obtain ⟨x, y, e1, e2, hb, ho⟩ := elect_both K R U ld ep s.I s.Reach hl hK
  rw [e1]
  simp only [Option.bind_some]
  rw [e2]
  simp only [Option.bind_some]
  obtain ⟨z, hz⟩ := tail_true K ⟨R, U, ld, ep⟩ s hK _ _ 0 0 false false _ _ _ _ _ _ _ _ hb.err rfl rfl (hb.same K hK)
  exact ⟨x, z, .inl ⟨h0, ho⟩, hz⟩
 rw [if_neg h0]
 by_cases h1 : s.Kind = 1
 ·rw [if_pos h1, hof]
  simp only [Option.bind_some]
  obtain ⟨x, y, e1, e2, hb, ho⟩ := propose_both K R U ld ep s.I s.Epoch s.Data s.Reach hl hK
  rw [e1]
  simp only [Option.bind_some]
  rw [e2]
  simp only [Option.bind_some]
  obtain ⟨z, hz⟩ := tail_true K ⟨R, U, ld, ep⟩ s hK _ _ _ _ _ _ _ _ _ _ _ _ _ _ hb.b.err hb.n hb.ok (hb.b.same K hK)
  exact ⟨(x.1, x.2.2.2), z, .inr ⟨h0, .inl ⟨_, _, ho⟩⟩, hz⟩
 rw [if_neg h1]
 by_cases h2 : s.Kind = 2
 ·rw [if_pos h2, hof]
  simp only [Option.bind_some]
  obtain ⟨x, y, e1, e2, hb, ho⟩ := sync_both K R U ld ep s.I s.Epoch s.Reach hl hK
  rw [e1]
  simp only [Option.bind_some]
  rw [e2]
  simp only [Option.bind_some]
  obtain ⟨z, hz⟩ := tail_true K ⟨R, U, ld, ep⟩ s hK _ _ 0 0 false false _ _ _ _ _ _ _ _ hb.err rfl rfl (hb.same K hK)
  exact ⟨x, z, .inr ⟨h0, .inr (.inl ho)⟩, hz⟩
 rw [if_neg h2]
 by_cases h3 : s.Kind = 3
 ·rw [if_pos h3, hof]
  simp only [Option.bind_some]
  obtain ⟨x, y, e1, e2, hb, ho⟩ := power_both K R U ld ep s.I false (by omega)
  unfold group_Stop wr55_Stop
  rw [e1]
  simp only [Option.bind_some]
  rw [e2]
  simp only [Option.bind_some]
  obtain ⟨z, hz⟩ := tail_true K ⟨R, U, ld, ep⟩ s hK _ _ 0 0 false false _ _ _ _ _ _ _ _ hb.err rfl rfl (hb.same K hK)
  exact ⟨x, z, .inr ⟨h0, .inr (.inr ho)⟩, hz⟩
 rw [if_neg h3, hof]
 simp only [Option.bind_some]
 obtain ⟨x, y, e1, e2, hb, ho⟩ := power_both K R U ld ep s.I true (by omega)
 unfold group_Start wr55_Start
 rw [e1]
 simp only [Option.bind_some]
 rw [e2]
 simp only [Option.bind_some]
 obtain ⟨z, hz⟩ := tail_true K ⟨R, U, ld, ep⟩ s hK _ _ 0 0 false false _ _ _ _ _ _ _ _ hb.err rfl rfl (hb.same K hK)
 exact ⟨x, z, .inr ⟨h0, .inr (.inr ho)⟩, hz⟩
end Go.Proofs.YtmafcdkdcfaajaaGreat
