/- The law. -/
import Derived.Test.YtmafcdkdcfaajaaGreatLwE
set_option linter.unusedVariables false
set_option linter.unusedSimpArgs false
namespace Go.Proofs.YtmafcdkdcfaajaaGreat
open Eng
def newerB (R : List aRep) (P : Nat → Bool) (e : Int) : Bool := (fl P R.length 0).any fun j => decide ((R.getD j ZR).Epoch > e)
theorem idx84b (K : Nat) (os : List Nat) (g : group_Group) (e : Int) (hos : os.length ≤ 9) (hm : ∀ j ∈ os, j < g.Replicas.length) : ∀ (k p : Nat), os.length - p < k → p ≤ os.length →
  ∃ o, slices_IndexFunc_84_v2.l7 K (castL os) g e k (p : Int) = some o ∧ (((os.drop p).any (fun j => decide ((g.Replicas.getD j ZR).Epoch > e)) = false ∧ o = .go ()) ∨ ((os.drop p).any (fun j => decide ((g.Replicas.getD j ZR).Epoch > e)) = true ∧ ∃ i : Int, 0 ≤ i ∧ o = .done i)) := by
 intro k
 induction k with
 | zero => intro p h; omega
 | succ k ih =>
  intro p h hp
  unfold slices_IndexFunc_84_v2.l7
  rw [castL_len]
  by_cases hlt : p < os.length
  ·have hj := hm _ (getD_mem hlt 0)
   rw [drop_step hlt 0]
   have q1 : (p : Int) < os.length := by omega
   have q2 : (0 : Int) ≤ p ∧ (p : Int) < os.length := by omega
   simp only [if_pos q1, if_pos q2, Int.toNat_natCast, castL_get os p hlt, List.any_cons]
   generalize os.getD p 0 = j at hj
   unfold group_Group_leads_c1
   rw [if_pos (by omega), wrap_succ (by omega)]
   simp only [Option.bind_some, Int.toNat_natCast]
   by_cases hb : (g.Replicas.getD j ZR).Epoch > e
   ·rw [decide_eq_true hb]
    exact ⟨_, rfl, .inr ⟨rfl, p, by omega, rfl⟩⟩
   ·rw [decide_eq_false hb]
    exact ih (p + 1) (by omega) (by omega)
  ·rw [if_neg (by omega), drop_end hlt]
   exact ⟨_, rfl, .inl ⟨rfl, rfl⟩⟩
def leadsB (R : List aRep) (U : List Bool) (ld ep i e : Int) (l : List Int) : Int :=
 if suitB R U ld ep i l = true then (if U.getD i.toNat false = true then (if i ≠ ld then 25 else if e ≠ ep then 25 else if (R.getD i.toNat ZR).Epoch ≠ e then 25 else if newerB R (Pb U i l) e = true then 25 else 0) else 28) else 2
theorem leads_eq (K : Nat) (R : List aRep) (U : List Bool) (ld ep i e : Int) (l : List Int) (hl : l.length ≤ 30) (hK : 5001 ≤ K) : group_Group_leads K ⟨R, U, ld, ep⟩ i e l = some (leadsB R U ld ep i e l) := by
 unfold group_Group_leads leadsB
 rw [suits_eqG K _ _ _ hl hK]
 simp only [Option.bind_some]
 cases hs : suitB R U ld ep i l with
 | false => rfl
 | true =>
  obtain ⟨hb, hf, hall⟩ := suitB_spec hs
  have q1 : (0 : Int) ≤ i ∧ i < (U.length : Int) := by omega
  have q2 : i < (R.length : Int) := by omega
  simp only [if_true, if_pos q1, if_pos q2]
  by_cases hu : U.getD i.toNat false = true
  ·rw [if_pos hu, if_pos hu]
   by_cases h1 : i ≠ ld
   ·rw [if_pos h1, if_pos h1]
   rw [if_neg h1, if_neg h1]
   by_cases h2 : e ≠ ep
   ·rw [if_pos h2, if_pos h2]
   rw [if_neg h2, if_neg h2]
   by_cases h3 : (R.getD i.toNat ZR).Epoch ≠ e
   ·rw [if_pos h3, if_pos h3]
   rw [if_neg h3, if_neg h3, others_eqG K _ _ _ hl hK (by show R.length ≤ 9; omega) (by show U.length = R.length; omega)]
   simp only [Option.bind_some]
   unfold slices_ContainsFunc_55_v2 slices_IndexFunc_84_v2 newerB
   obtain ⟨o, g1, g2⟩ := idx84b K (fl (Pb U i l) R.length 0) ⟨R, U, ld, ep⟩ e (Nat.le_trans (fl_len _ _) (by omega)) (fun j hj => by have := (fl_mem _ _ _).1 hj; show j < R.length; omega) K 0 (by have := fl_len (P := Pb U i l) R.length 0; omega) (by omega)
   rw [show ((0 : Nat) : Int) = 0 from rfl] at g1
   rw [g1]
   simp only [List.drop_zero] at g2
   rcases g2 with ⟨ga, rfl⟩ | ⟨ga, i, hi, rfl⟩
   ·rw [ga]; rfl
   ·rw [ga]; simp [obind, hi]
  ·rw [if_neg hu, if_neg hu]
theorem rfenced15 (K : Nat) (f : wr55_Group) (e : Int) (inn : List Bool) (P : Nat → Bool) (n : Nat) (hn : n ≤ 9) (hf : f.Replicas.length = n) (hin : inn.length = n) (hP : ∀ j, j < n → inn.getD j false = P j) : ∀ (d k m : Nat), m + d = n → d < k →
  wr55_fenced.l15 K f e inn k (m : Int) = some (if (fl P d m).any (fun j => decide ((f.Replicas.getD j ZR).Epoch > e)) = true then .done true else .go ()) := by
 intro d
 induction d with
 | zero =>
  intro k m hm hk
  cases k with
  | zero => omega
  | succ k =>
   unfold wr55_fenced.l15
   rw [if_neg (by omega)]
   rfl
 | succ d ih =>
  intro k m hm hk
  cases k with
  | zero => omega
  | succ k =>
   unfold wr55_fenced.l15
   have q1 : (m : Int) < inn.length := by omega
   have q2 : (0 : Int) ≤ m ∧ (m : Int) < inn.length := by omega
   have q3 : (m : Int) < f.Replicas.length := by omega
   simp only [if_pos q1, if_pos q2, if_pos q3, Int.toNat_natCast]
   rw [hP m (by omega), wrap_succ (by omega), ih k (m + 1) (by omega) (by omega), show fl P (d + 1) m = if P m = true then m :: fl P d (m + 1) else fl P d (m + 1) from rfl]
   by_cases hp : P m = true
   ·rw [if_pos hp, if_pos hp, List.any_cons]
    by_cases hb : (f.Replicas.getD m ZR).Epoch > e
    ·rw [if_pos hb, decide_eq_true hb]; rfl
    ·rw [if_neg hb, decide_eq_false hb, Bool.false_or]
   ·rw [if_neg hp, if_neg hp]
theorem rleads (K : Nat) (R : List aRep) (U : List Bool) (ld ep i e : Int) (l : List Int) (hl : l.length ≤ 30) (hK : 5001 ≤ K) :
  (∃ a : Int, a ≠ 0 ∧ wr55_args K ⟨R, U, ld, ep⟩ i l = some a ∧ leadsB R U ld ep i e l = a) ∨
  (suitB R U ld ep i l = true ∧ wr55_args K ⟨R, U, ld, ep⟩ i l = some 0 ∧ wr55_partakes K ⟨R, U, ld, ep⟩ i l = some (inL U i l R.length) ∧
   ∃ b : Bool, wr55_fenced K ⟨R, U, ld, ep⟩ i e (inL U i l R.length) = some b ∧ leadsB R U ld ep i e l = if b = true then 25 else 0) := by
 rw [rargs_eq K _ _ _ hl hK]
 unfold leadsB
 dsimp only
 cases hs : suitB R U ld ep i l with
 | false => exact .inl ⟨2, by omega, rfl, rfl⟩
 | true =>
  obtain ⟨hb, hf, hall⟩ := suitB_spec hs
  simp only [if_true]
  by_cases hu : U.getD i.toNat false = true
  ·right
   rw [if_pos hu, if_pos hu]
   refine ⟨trivial, rfl, partakes_eq K _ _ _ hl hK (by show R.length ≤ 9; omega) (by show U.length = R.length; omega) hall, ?_⟩
   unfold wr55_fenced
   dsimp only
   by_cases h1 : i ≠ ld
   ·exact ⟨true, by rw [if_pos h1], by rw [if_pos h1]; rfl⟩
   rw [if_neg h1, if_neg h1]
   by_cases h2 : e ≠ ep
   ·exact ⟨true, by rw [if_pos h2], by rw [if_pos h2]; rfl⟩
   rw [if_neg h2, if_neg h2, if_pos (by omega)]
   by_cases h3 : (R.getD i.toNat ZR).Epoch ≠ e
   ·exact ⟨true, by rw [if_pos h3], by rw [if_pos h3]; rfl⟩
   rw [if_neg h3, if_neg h3]
   have g1 := rfenced15 K ⟨R, U, ld, ep⟩ e (inL U i l R.length) (Pb U i l) R.length (by omega) rfl (inL_len _ _ _ _) (fun j hj => inL_get _ _ _ _ _ hj) R.length K 0 (by omega) (by omega)
   rw [show ((0 : Nat) : Int) = 0 from rfl] at g1
   rw [g1]
   refine ⟨newerB R (Pb U i l) e, ?_, rfl⟩
   unfold newerB
   cases (fl (Pb U i l) R.length 0).any (fun j => decide ((R.getD j ZR).Epoch > e)) <;> rfl
  ·left
   rw [if_neg hu, if_neg hu]
   exact ⟨28, by omega, rfl, rfl⟩
def peB (s : aRep) (p : Nat) : Int := if p = 0 then 0 else (s.Log.getD (p - 1) z_aEnt).Epoch
theorem pe_eq (s : aRep) (p : Nat) (hp : p ≤ s.Log.length) (hl : s.Log.length ≤ 5000) :
  (if (p : Int) > 0 then (if (0 : Int) ≤ IntKind.i64.wrap ((p : Int) - 1) ∧ (IntKind.i64.wrap ((p : Int) - 1) : Int) < (s.Log.length : Int) then some (s.Log.getD (Int.toNat (IntKind.i64.wrap ((p : Int) - 1))) z_aEnt).Epoch else none) else some 0) = some (peB s p) := by
 unfold peB
 by_cases h : p = 0
 ·subst h; rfl
 ·rw [if_pos (by omega), Eng.wrap_small (by omega) (by omega), if_pos (by omega), if_neg h]
  rw [show ((p : Int) - 1).toNat = p - 1 from by omega]
theorem peB_last (s : aRep) : peB s s.Log.length = lastE s := by
 unfold peB lastE
 by_cases h : s.Log = []
 ·simp [h]
 ·have h1 : s.Log.length ≠ 0 := by simpa using h
  rw [if_neg h1, List.getLast?_eq_some_getLast h]
  simp only
  rw [List.getLast_eq_getElem, List.getD_eq_getElem?_getD, List.getElem?_eq_getElem (by omega)]
  rfl
def accB (s r : aRep) (p : Nat) (es : List aEnt) (cm : Int) : aRep × Int := acceptB r s.Epoch (p : Int) (peB s p) es cm
theorem accept2_eq (K : Nat) (U : List Bool) (ld ep : Int) (j : Nat) (s : aRep) (p : Nat) (es : List aEnt) (R : List aRep) (hj : j < R.length) (hp : p ≤ s.Log.length) (hl : s.Log.length ≤ 5000) (he : es.length ≤ 60000) (hK : 100000 ≤ K) :
  group_Group_accept_v2 K U ld ep (j : Int) s (p : Int) es R = some (decide ((accB s (R.getD j ZR) p es s.Commit).2 = 0), if (accB s (R.getD j ZR) p es s.Commit).2 = 0 then R.set j (accB s (R.getD j ZR) p es s.Commit).1 else R) := by
 unfold group_Group_accept_v2
 rw [pe_eq s p hp hl]
 simp only [Option.bind_some]
 rw [if_pos (by omega), Int.toNat_natCast, if_pos hj, Accept_eq K _ _ _ _ _ _ (by omega) he]
 simp only [Option.bind_some]
 unfold accB
 rcases hA : acceptB (R.getD j z_aRep) s.Epoch (p : Int) (peB s p) es s.Commit with ⟨a, e⟩
 simp only
 split <;> rfl
abbrev RS := List aRep × List Int × List Nat
def stepR (s : aRep) (st : RS) (j : Nat) : RS :=
 if (accB s (st.1.getD j ZR) (common s.Log (st.1.getD j ZR).Log) (s.Log.drop (common s.Log (st.1.getD j ZR).Log)) s.Commit).2 = 0 then
  (st.1.set j (accB s (st.1.getD j ZR) (common s.Log (st.1.getD j ZR).Log) (s.Log.drop (common s.Log (st.1.getD j ZR).Log)) s.Commit).1, st.2.1.set j (s.Log.length : Int), st.2.2 ++ [j]) else st
theorem stepR_inv {s : aRep} : ∀ (os : List Nat) (st : RS), (∀ r ∈ st.1, Fit r) → ((os.foldl (stepR s) st).1.length = st.1.length ∧ (os.foldl (stepR s) st).2.1.length = st.2.1.length ∧ ∀ r ∈ (os.foldl (stepR s) st).1, Fit r) ∧ ∀ j, j ∉ os → (os.foldl (stepR s) st).1.getD j ZR = st.1.getD j ZR
 | [], st, h => ⟨⟨rfl, rfl, h⟩, fun _ _ => rfl⟩
 | j :: os, st, h => by
  rw [List.foldl_cons]
  have h1 : ((stepR s st j).1.length = st.1.length ∧ (stepR s st j).2.1.length = st.2.1.length ∧ ∀ r ∈ (stepR s st j).1, Fit r) ∧ ∀ i, i ≠ j → (stepR s st j).1.getD i ZR = st.1.getD i ZR := by
   unfold stepR
   split
   ·exact ⟨⟨by simp, by simp, fit_set h acceptB_fit⟩, fun i hi => getD_set_ne _ _ _ _ _ (Ne.symm hi)⟩
   ·exact ⟨⟨rfl, rfl, h⟩, fun _ _ => rfl⟩
  obtain ⟨⟨h2, h3, h4⟩, h5⟩ := stepR_inv os _ h1.1.2.2
  exact ⟨⟨h2.trans h1.1.1, h3.trans h1.1.2.1, h4⟩, fun i hi => by
   simp only [List.mem_cons, not_or] at hi
   rw [h5 i hi.2, h1.2 i hi.1]⟩
theorem stepR_held {s : aRep} {P : Nat → Bool} : ∀ (d m : Nat) (st : RS), ∃ Q : Nat → Bool, ((fl P d m).foldl (stepR s) st).2.2 = st.2.2 ++ fl Q d m ∧ ∀ j, Q j = true → P j = true
 | 0, m, st => ⟨fun _ => false, by simp [fl], fun j h => by cases h⟩
 | d + 1, m, st => by
  rw [show fl P (d + 1) m = if P m = true then m :: fl P d (m + 1) else fl P d (m + 1) from rfl]
  by_cases hp : P m = true
  ·rw [if_pos hp, List.foldl_cons]
   obtain ⟨Q, h1, h2⟩ := stepR_held (s := s) (P := P) d (m + 1) (stepR s st m)
   have hcongr : ∀ b : Bool, fl (fun j => if j = m then b else Q j) d (m + 1) = fl Q d (m + 1) := fun b => fl_congr d (m + 1) fun j hj _ => by rw [if_neg (by omega)]
   by_cases ha : (stepR s st m).2.2 = st.2.2 ++ [m]
   ·refine ⟨fun j => if j = m then true else Q j, ?_, fun j hj => ?_⟩
    ·rw [h1, ha, show fl (fun j => if j = m then true else Q j) (d + 1) m = m :: fl (fun j => if j = m then true else Q j) d (m + 1) from by simp [fl], hcongr]
     simp
    ·by_cases e : j = m
     ·subst e; exact hp
     ·simp only [if_neg e] at hj; exact h2 j hj
   ·have hb : (stepR s st m).2.2 = st.2.2 := by
     unfold stepR at ha ⊢
     split
     ·rename_i hc; rw [if_pos hc] at ha; exact absurd rfl ha
     ·rfl
    refine ⟨fun j => if j = m then false else Q j, ?_, fun j hj => ?_⟩
    ·rw [h1, hb, show fl (fun j => if j = m then false else Q j) (d + 1) m = fl (fun j => if j = m then false else Q j) d (m + 1) from by simp [fl], hcongr]
    ·by_cases e : j = m
     ·simp [e] at hj
     ·simp only [if_neg e] at hj; exact h2 j hj
  ·rw [if_neg hp]
   obtain ⟨Q, h1, h2⟩ := stepR_held (s := s) (P := P) d (m + 1) st
   refine ⟨fun j => if j = m then false else Q j, ?_, fun j hj => ?_⟩
   ·rw [h1, show fl (fun j => if j = m then false else Q j) (d + 1) m = fl (fun j => if j = m then false else Q j) d (m + 1) from by simp [fl],
     fl_congr d (m + 1) (P := fun j => if j = m then false else Q j) (Q := Q) fun j hj _ => by rw [if_neg (by omega)]]
   ·by_cases e : j = m
    ·simp [e] at hj
    ·simp only [if_neg e] at hj; exact h2 j hj
theorem grep15 (K : Nat) (U : List Bool) (ld ep i : Int) (R0 : List aRep) (s : aRep) (hs : R0.getD i.toNat z_aRep = s) (hsf : Fit s) (os : List Nat) (n : Nat) (hos : os.length ≤ 9) (hm : ∀ j ∈ os, j < n) (hK : 100000 ≤ K) :
  ∀ (k p : Nat) (st : RS), os.length - p < k → p ≤ os.length → st.1.length = n → st.2.1.length = n → st.2.2.length ≤ p → (∀ r ∈ st.1, Fit r) →
  group_Group_replicate_v2.l15 K U ld ep i R0 (castL os) k (p : Int) st.1 st.2.1 (castL st.2.2) = some (((os.drop p).foldl (stepR s) st).1, ((os.drop p).foldl (stepR s) st).2.1, castL ((os.drop p).foldl (stepR s) st).2.2) := by
 intro k
 induction k with
 | zero => intro p st h; omega
 | succ k ih =>
  intro p st h hp h1 h2 h3 hf
  unfold group_Group_replicate_v2.l15
  rw [castL_len, hs]
  by_cases hlt : p < os.length
  ·have hj := hm _ (getD_mem hlt 0)
   rw [drop_step hlt 0]
   simp only [Int.toNat_natCast, castL_get os p hlt]
   generalize os.getD p 0 = j at hj
   have q1 : (p : Int) < os.length := by omega
   have q2 : (0 : Int) ≤ p ∧ (p : Int) < os.length := by omega
   have q4 : (0 : Int) ≤ j ∧ (j : Int) < st.1.length := by omega
   have q5 : j < st.1.length := by omega
   have q6 : (j : Int) < st.2.1.length := by omega
   have q7 : j < st.2.1.length := by omega
   have q8 : ((castL st.2.2).length + ([(j : Int)] : List Int).length) * 8 ≤ 140737488355328 := by rw [castL_len]; simp; omega
   have hrf := fit_getD hf q5
   simp only [if_pos q1, if_pos q2, if_pos hlt, if_pos q4, if_pos q5, if_pos q6, if_pos q7, if_pos q8]
   rw [Common_eq K s _ hsf.1 hrf.1 (by omega), wrap_succ (by omega), List.foldl_cons]
   simp only [Option.bind_some]
   have hc := (common_le s.Log (st.1.getD j ZR).Log).1
   rw [if_pos (by omega), slc_drop s.Log _ (by omega), Int.toNat_natCast, accept2_eq K U ld ep j s (common s.Log (st.1.getD j ZR).Log) _ st.1 q5 hc hsf.1 (by rw [List.length_drop]; have := hsf.1; omega) hK]
   simp only [Option.bind_some]
   by_cases ha : (accB s (st.1.getD j ZR) (common s.Log (st.1.getD j ZR).Log) (s.Log.drop (common s.Log (st.1.getD j ZR).Log)) s.Commit).2 = 0
   ·have hst : stepR s st j = (st.1.set j (accB s (st.1.getD j ZR) (common s.Log (st.1.getD j ZR).Log) (s.Log.drop (common s.Log (st.1.getD j ZR).Log)) s.Commit).1, st.2.1.set j (s.Log.length : Int), st.2.2 ++ [j]) := by unfold stepR; rw [if_pos ha]
    rw [hst, if_pos (decide_eq_true ha), if_pos ha, show castL st.2.2 ++ [(j : Int)] = castL (st.2.2 ++ [j]) from by rw [castL_append]; rfl]
    exact ih (p + 1) (st.1.set j (accB s (st.1.getD j ZR) (common s.Log (st.1.getD j ZR).Log) (s.Log.drop (common s.Log (st.1.getD j ZR).Log)) s.Commit).1, st.2.1.set j (s.Log.length : Int), st.2.2 ++ [j]) (by omega) (by omega) (by simpa using h1) (by simpa using h2) (by simp; omega) (fit_set hf acceptB_fit)
   ·have hst : stepR s st j = st := by unfold stepR; rw [if_neg ha]
    rw [hst, if_neg (by simpa using ha), if_neg ha]
    exact ih (p + 1) st (by omega) (by omega) h1 h2 (by omega) hf
  ·rw [if_neg (by omega), drop_end hlt]
   rfl
def marks (n : Nat) (H : List Nat) : List Bool := (List.range n).map fun j => decide (j ∈ H)
theorem marks_len (n : Nat) (H : List Nat) : (marks n H).length = n := by simp [marks]
theorem marks_get (n : Nat) (H : List Nat) (j : Nat) (h : j < n) : (marks n H).getD j false = decide (j ∈ H) := by
 simp [marks, List.getD_eq_getElem?_getD, h]
theorem marks_set (n : Nat) (H : List Nat) (m : Nat) : (marks n H).set m true = marks n (H ++ [m]) := by
 apply List.ext_getElem
 ·simp [marks]
 ·intro j h1 h2
  rw [List.getElem_set]
  simp only [marks, List.getElem_map, List.getElem_range, List.mem_append, List.mem_singleton]
  by_cases e : m = j
  ·simp [e]
  ·rw [if_neg e]
   have : ¬ j = m := fun e' => e e'.symm
   simp [this]
theorem rrep19 (K : Nat) (f : wr55_Group) (i : Int) (s : aRep) (hs : f.Replicas.getD i.toNat z_aRep = s) (hsf : Fit s) (inn : List Bool) (P : Nat → Bool) (n : Nat) (hn : n ≤ 9) (hf : f.Replicas.length = n) (hin : inn.length = n) (hP : ∀ j, j < n → inn.getD j false = P j) (hK : 100000 ≤ K) :
  ∀ (d k m : Nat) (st : RS), m + d = n → d < k → st.1.length = n → st.2.1.length = n → (∀ r ∈ st.1, Fit r) → (∀ j, m ≤ j → j < n → st.1.getD j ZR = f.Replicas.getD j ZR) →
  wr55_replicate.l19 K f i inn (s.Log.length : Int) k (m : Int) st.2.1 (marks n st.2.2) st.1 = some (((fl P d m).foldl (stepR s) st).2.1, marks n ((fl P d m).foldl (stepR s) st).2.2, ((fl P d m).foldl (stepR s) st).1) := by
 intro d
 induction d with
 | zero =>
  intro k m st hm hk h1 h2 hfit hinv
  cases k with
  | zero => omega
  | succ k =>
   unfold wr55_replicate.l19
   rw [if_neg (by omega)]
   rfl
 | succ d ih =>
  intro k m st hm hk h1 h2 hfit hinv
  cases k with
  | zero => omega
  | succ k =>
   unfold wr55_replicate.l19
   have q1 : (m : Int) < inn.length := by omega
   have q2 : (0 : Int) ≤ m ∧ (m : Int) < inn.length := by omega
   have q3 : (m : Int) < f.Replicas.length := by omega
   have q4 : (m : Int) < st.1.length := by omega
   have q5 : m < st.1.length := by omega
   have q6 : (m : Int) < st.2.1.length := by omega
   have q7 : m < st.2.1.length := by omega
   have q8 : (m : Int) < (marks n st.2.2).length := by rw [marks_len]; omega
   have q9 : m < (marks n st.2.2).length := by rw [marks_len]; omega
   simp only [if_pos q1, if_pos q2, if_pos q3, Int.toNat_natCast, if_pos q4, if_pos q5, if_pos q6, if_pos q7, if_pos q8, if_pos q9, hs]
   rw [hP m (by omega), wrap_succ (by omega), show fl P (d + 1) m = if P m = true then m :: fl P d (m + 1) else fl P d (m + 1) from rfl]
   by_cases hp : P m = true
   ·have hrf := fit_getD hfit q5
    rw [if_pos hp, if_pos hp, ← hinv m (by omega) (by omega), rCommonH_eq K 65536 s _ hsf.held hrf.held (by omega) (by omega) (by omega), List.foldl_cons]
    simp only [Option.bind_some]
    have hc := (common_le s.Log (st.1.getD m ZR).Log).1
    rw [pe_eq s _ hc hsf.1]
    simp only [Option.bind_some]
    rw [if_pos (by omega), slc_drop s.Log _ (by omega), Int.toNat_natCast, rAccept_eq K _ _ _ _ _ _ (by omega) (by rw [List.length_drop]; have := hsf.1; omega)]
    simp only [Option.bind_some]
    have hset : ∀ a, ∀ j, m + 1 ≤ j → j < n → (st.1.set m a).getD j ZR = f.Replicas.getD j ZR := fun a j h2 h3 => by
     rw [getD_set_ne _ _ _ _ _ (by omega)]; exact hinv j (by omega) h3
    have hacc : acceptB (st.1.getD m ZR) s.Epoch ((common s.Log (st.1.getD m ZR).Log : Nat) : Int) (peB s (common s.Log (st.1.getD m ZR).Log)) (s.Log.drop (common s.Log (st.1.getD m ZR).Log)) s.Commit = accB s (st.1.getD m ZR) (common s.Log (st.1.getD m ZR).Log) (s.Log.drop (common s.Log (st.1.getD m ZR).Log)) s.Commit := rfl
    rw [hacc]
    by_cases ha : (accB s (st.1.getD m ZR) (common s.Log (st.1.getD m ZR).Log) (s.Log.drop (common s.Log (st.1.getD m ZR).Log)) s.Commit).2 = 0
    ·have hst : stepR s st m = (st.1.set m (accB s (st.1.getD m ZR) (common s.Log (st.1.getD m ZR).Log) (s.Log.drop (common s.Log (st.1.getD m ZR).Log)) s.Commit).1, st.2.1.set m (s.Log.length : Int), st.2.2 ++ [m]) := by unfold stepR; rw [if_pos ha]
     rw [hst, if_pos ha, marks_set]
     exact ih k (m + 1) (st.1.set m (accB s (st.1.getD m ZR) (common s.Log (st.1.getD m ZR).Log) (s.Log.drop (common s.Log (st.1.getD m ZR).Log)) s.Commit).1, st.2.1.set m (s.Log.length : Int), st.2.2 ++ [m]) (by omega) (by omega) (by simpa using h1) (by simpa using h2) (fit_set hfit acceptB_fit) (hset _)
    ·have hst : stepR s st m = st := by unfold stepR; rw [if_neg ha]
     rw [hst, if_neg ha]
     exact ih k (m + 1) st (by omega) (by omega) h1 h2 hfit (fun j h3 h4 => hinv j (by omega) h4)
   ·rw [if_neg hp, if_neg hp]
    exact ih k (m + 1) st (by omega) (by omega) h1 h2 hfit (fun j h3 h4 => hinv j (by omega) h4)
def stepS (s : aRep) (R : List aRep) (j : Nat) : List aRep :=
 if (accB s (R.getD j ZR) s.Log.length [] s.Commit).2 = 0 then R.set j (accB s (R.getD j ZR) s.Log.length [] s.Commit).1 else R
theorem stepS_inv {s : aRep} : ∀ (os : List Nat) (R : List aRep), (∀ r ∈ R, Fit r) → ((os.foldl (stepS s) R).length = R.length ∧ ∀ r ∈ os.foldl (stepS s) R, Fit r) ∧ ∀ j, j ∉ os → (os.foldl (stepS s) R).getD j ZR = R.getD j ZR
 | [], st, h => ⟨⟨rfl, h⟩, fun _ _ => rfl⟩
 | j :: os, st, h => by
  rw [List.foldl_cons]
  have h1 : ((stepS s st j).length = st.length ∧ ∀ r ∈ stepS s st j, Fit r) ∧ ∀ i, i ≠ j → (stepS s st j).getD i ZR = st.getD i ZR := by
   unfold stepS
   split
   ·exact ⟨⟨by simp, fit_set h acceptB_fit⟩, fun i hi => getD_set_ne _ _ _ _ _ (Ne.symm hi)⟩
   ·exact ⟨⟨rfl, h⟩, fun _ _ => rfl⟩
  obtain ⟨⟨h2, h4⟩, h5⟩ := stepS_inv os _ h1.1.2
  exact ⟨⟨h2.trans h1.1.1, h4⟩, fun i hi => by
   simp only [List.mem_cons, not_or] at hi
   rw [h5 i hi.2, h1.2 i hi.1]⟩
theorem grep51 (K : Nat) (U : List Bool) (ld ep i a4 : Int) (R0 : List aRep) (s s' : aRep) (hs : R0.getD i.toNat z_aRep = s) (hs' : s' = ⟨s.Epoch, s.Vote, a4, s.Log⟩) (hsf : Fit s) (os : List Nat) (n : Nat) (hos : os.length ≤ 9) (hm : ∀ j ∈ os, j < n) (hK : 100000 ≤ K) :
  ∀ (k p : Nat) (R : List aRep), os.length - p < k → p ≤ os.length → R.length = n →
  group_Group_replicate_v2.l51 K U ld ep i R0 (castL os) a4 k (p : Int) R = some ((os.drop p).foldl (stepS s') R) := by
 intro k
 induction k with
 | zero => intro p R h; omega
 | succ k ih =>
  intro p R h hp h1
  unfold group_Group_replicate_v2.l51
  rw [castL_len, hs]
  by_cases hlt : p < os.length
  ·have hj := hm _ (getD_mem hlt 0)
   rw [drop_step hlt 0]
   simp only [Int.toNat_natCast, castL_get os p hlt]
   generalize os.getD p 0 = j at hj
   have q1 : (p : Int) < os.length := by omega
   have q2 : (0 : Int) ≤ p ∧ (p : Int) < os.length := by omega
   have q5 : j < R.length := by omega
   have hll : s'.Log = s.Log := by rw [hs']
   simp only [if_pos q1, if_pos q2, if_pos hlt]
   rw [← hs', show (s.Log.length : Int) = ((s'.Log.length : Nat) : Int) from by rw [hll], wrap_succ (by omega), accept2_eq K U ld ep j s' s'.Log.length [] R q5 (Nat.le_refl _) (by rw [hll]; exact hsf.1) (by simp) hK, List.foldl_cons]
   simp only [Option.bind_some]
   exact ih (p + 1) _ (by omega) (by omega) (by split <;> simp [h1])
  ·rw [if_neg (by omega), drop_end hlt]
   rfl
theorem rrep68 (K : Nat) (f : wr55_Group) (i a5 : Int) (s s' : aRep) (hs : f.Replicas.getD i.toNat z_aRep = s) (hs' : s' = ⟨s.Epoch, s.Vote, a5, s.Log⟩) (hsf : Fit s) (inn : List Bool) (H : List Nat) (n : Nat) (hn : n ≤ 9) (hf : f.Replicas.length = n) (hin : inn.length = n) (hmore : a5 > s.Commit) (hK : 100000 ≤ K) :
  ∀ (d k m : Nat) (R : List aRep), m + d = n → d < k → R.length = n →
  wr55_replicate.l68 K f i inn (s.Log.length : Int) (lastE s) (marks n H) a5 k (m : Int) R = some ((fl (fun j => decide (j ∈ H)) d m).foldl (stepS s') R) := by
 have hll : s'.Log = s.Log := by rw [hs']
 have hle : s'.Epoch = s.Epoch := by rw [hs']
 have hlc : s'.Commit = a5 := by rw [hs']
 intro d
 induction d with
 | zero =>
  intro k m R hm hk h1
  cases k with
  | zero => omega
  | succ k =>
   unfold wr55_replicate.l68
   rw [if_neg (by omega)]
   rfl
 | succ d ih =>
  intro k m R hm hk h1
  cases k with
  | zero => omega
  | succ k =>
   unfold wr55_replicate.l68
   have q1 : (m : Int) < inn.length := by omega
   have q4 : (m : Int) < R.length := by omega
   have q5 : m < R.length := by omega
   have q8 : (0 : Int) ≤ m ∧ (m : Int) < (marks n H).length := by rw [marks_len]; omega
   have q9 : m < (marks n H).length := by rw [marks_len]; omega
   simp only [if_pos q1, hs, if_pos hmore, Int.toNat_natCast, if_pos q8, if_pos q9, if_pos q4, if_pos q5]
   rw [marks_get n H m (by omega), wrap_succ (by omega), show fl (fun j => decide (j ∈ H)) (d + 1) m = if (fun j => decide (j ∈ H)) m = true then m :: fl (fun j => decide (j ∈ H)) d (m + 1) else fl (fun j => decide (j ∈ H)) d (m + 1) from rfl]
   by_cases hp : decide (m ∈ H) = true
   ·rw [if_pos hp, if_pos hp, rAccept_eq K _ _ _ _ _ _ (by omega) (by simp), List.foldl_cons]
    simp only [Option.bind_some]
    have hacc : acceptB (R.getD m z_aRep) s.Epoch (s.Log.length : Int) (lastE s) [] a5 = accB s' (R.getD m ZR) s'.Log.length [] s'.Commit := by
     have hpe : peB s' s'.Log.length = lastE s := by
      rw [peB_last]; unfold lastE; rw [hll]
     unfold accB
     rw [hpe, hle, hll, hlc]
    rw [hacc]
    by_cases ha : (accB s' (R.getD m ZR) s'.Log.length [] s'.Commit).2 = 0
    ·rw [if_pos ha, show stepS s' R m = R.set m (accB s' (R.getD m ZR) s'.Log.length [] s'.Commit).1 from by unfold stepS; rw [if_pos ha]]
     exact ih k (m + 1) _ (by omega) (by omega) (by simpa using h1)
    ·rw [if_neg ha, show stepS s' R m = R from by unfold stepS; rw [if_neg ha]]
     exact ih k (m + 1) R (by omega) (by omega) h1
   ·rw [if_neg hp, if_neg hp]
    exact ih k (m + 1) R (by omega) (by omega) h1
end Go.Proofs.YtmafcdkdcfaajaaGreat
