/- The law. -/
import Derived.Test.YtmafcdkdcfaajaaGreatLwM
set_option linter.unusedVariables false
set_option linter.unusedSimpArgs false
namespace Go.Proofs.YtmafcdkdcfaajaaGreat
open Eng
variable {R R' : List api_Replica} {ld ep : Int} {n w : Nat} {P : Log}
theorem leads_zero {U : List Bool} {i e : Int} {l : List Int} (h : leadsB R U ld ep i e l = 0) : suitB R U ld ep i l = true ∧ U.getD i.toNat false = true ∧ i = ld ∧ e = ep ∧ (R.getD i.toNat ZR).Epoch = e ∧ newerB R (Pb U i l) e = false := by
 unfold leadsB at h
 split at h
 ·rename_i h1
  split at h
  ·rename_i h2
   split at h
   ·omega
   ·rename_i h3
    split at h
    ·omega
    ·rename_i h4
     split at h
     ·omega
     ·rename_i h5
      split at h
      ·omega
      ·rename_i h6
       exact ⟨h1, h2, by simpa using h3, by simpa using h4, by simpa using h5, by simpa using h6⟩
  ·omega
 ·omega
theorem leadB_ok {r s : api_Replica} {e : Int} {d : List UInt8} (h : leadB r e d = (s, 0)) : s = ⟨r.Epoch, r.Vote, r.Commit, r.Log ++ [⟨e, d⟩]⟩ ∧ e = r.Epoch ∧ rightB s = true := by
 unfold leadB at h
 split at h
 ·rename_i h1
  split at h
  ·cases h
  ·rename_i h2
   split at h
   ·cases h
   ·rename_i h3
    split at h
    ·cases h
    ·rename_i h4
     simp only [Prod.mk.injEq, and_true] at h
     have h3' : e = r.Epoch := by simpa using h3
     refine ⟨h.symm, h3', ?_⟩
     rw [← h]
     have hr := rightB_iff.1 h1.1
     refine rightB_iff.2 ⟨hr.1, hr.2.1, by show (r.Log ++ [(⟨e, d⟩ : api_Entry)]).length ≤ 5000; rw [List.length_append]; simp; omega, by show 0 ≤ r.Commit ∧ r.Commit ≤ (((r.Log ++ [(⟨e, d⟩ : api_Entry)]).length : Nat) : Int); rw [List.length_append]; simp; omega, ?_⟩
     show okL (r.Log ++ [(⟨e, d⟩ : api_Entry)]) 1 r.Epoch = true
     rw [okL_append, hr.2.2.2.2, Bool.true_and]
     have hlo : lastOr 1 r.Log ≤ e := by
      unfold lastOr
      split
      ·rename_i x hx
       have := okL_bounds hr.2.2.2.2 x (List.mem_of_getLast? hx)
       omega
      ·exact h1.2
     simp only [okL, Bool.and_true, Bool.and_eq_true, decide_eq_true_eq]
     exact ⟨⟨hlo, by omega⟩, by omega⟩
 ·cases h
theorem Inv.down (h : Inv R ld ep n w P) : Inv R (-1) ep n w P := { h with
 le := fun h0 => by omega
 j4 := fun h0 => by omega
 ldn := ⟨by omega, by omega⟩ }
theorem step_inv (h : Inv R ld ep n w P) (hn : n ≤ 9) {U : List Bool} (hU : U.length = n) {s : workflowlaw55_Step} {x : group_Group × Int} (hx : StepOf R U ld ep s x) :
  ∃ w' P', P <+: P' ∧ Inv (resG ⟨R, U, ld, ep⟩ s.Kind x).Replicas (resG ⟨R, U, ld, ep⟩ s.Kind x).Leader (resG ⟨R, U, ld, ep⟩ s.Kind x).Epoch n w' P' ∧ Up2 n R (resG ⟨R, U, ld, ep⟩ s.Kind x).Replicas ∧ (resG ⟨R, U, ld, ep⟩ s.Kind x).Up.length = n := by
 unfold resG
 have same : ∃ w' P', P <+: P' ∧ Inv R ld ep n w' P' ∧ Up2 n R R ∧ U.length = n := ⟨w, P, List.prefix_rfl, h, Up2.refl, hU⟩
 rcases hx with ⟨hk, hx⟩ | ⟨hk, hx⟩
 ·rcases elect_inv h hx hn with ⟨h1, h2⟩ | ⟨h1, h2, w', h3, h4⟩
  ·rw [if_pos ⟨h1, fun hh => h2 hh.2⟩]; exact same
  ·rw [if_neg (fun hh => by
    rcases h1 with h1 | h1
    ·exact hh.1 h1
    ·exact hh.2 ⟨hk, h1⟩)]
   exact ⟨w', P, List.prefix_rfl, h3, h4, by rw [h2]; exact hU⟩
 ·by_cases h0 : x.2 ≠ 0
  ·rw [if_pos ⟨h0, fun hh => hk hh.1⟩]; exact same
  ·rw [if_neg (fun hh => h0 hh.1)]
   rcases hx with ⟨m, ok, hx⟩ | hx | hx
   ·rcases hx with hx | ⟨_, hl, a, R', hA, hr, hx1⟩
    ·exact absurd hx h0
    ·obtain ⟨z1, z2, z3, z4, z5, _⟩ := leads_zero hl
     obtain ⟨hb, hf, _⟩ := suitB_spec z1
     subst z3
     obtain ⟨b1, b2, b3⟩ := leadB_ok hA
     have hlR : s.I.toNat < R.length := by omega
     have hi := h.append (by omega) (a := a) (d := s.Data) (by rw [← z4]; exact z5) (by rw [b1]; congr 3; rw [z4]) b3
     have hget : rg (R.set s.I.toNat a) s.I.toNat = a := by rw [rg_set _ _ _ _ hlR, if_pos rfl]
     obtain ⟨P', p1, p2, p3⟩ := hr.inv hi (by omega) (by rw [hget, b1, ← z4]; exact z5) hn
     have hx1' : x.1 = ⟨R', U, s.I, ep⟩ := hx1
     rw [hx1']
     exact ⟨w, P', p1, p2, (Up2.set hlR (by rw [b1]; exact Int.le_refl _)).trans p3, hU⟩
   ·rcases hx with hx | ⟨_, hl, R', hr, hx1⟩
    ·exact absurd hx h0
    ·obtain ⟨z1, z2, z3, z4, z5, _⟩ := leads_zero hl
     obtain ⟨hb, hf, _⟩ := suitB_spec z1
     subst z3
     obtain ⟨P', p1, p2, p3⟩ := hr.inv h (by omega) (by rw [← z4]; exact z5) hn
     rw [hx1]
     exact ⟨w, P', p1, p2, p3, hU⟩
   ·rcases hx with hx | ⟨_, h1, h2, h3, h4⟩
    ·exact absurd hx h0
    ·rw [h1, h3]
     refine ⟨w, P, List.prefix_rfl, ?_, Up2.refl, by rw [h2]; exact hU⟩
     rcases h4 with h4 | h4
     ·rw [h4]; exact h
     ·rw [h4]; exact h.down
theorem take_of_prefix {l P : Log} {c m : Nat} (h : l.take c <+: P) (hm : m ≤ c) (hc : c ≤ l.length) : l.take m = P.take m := by
 obtain ⟨t, ht⟩ := h
 rw [← ht, List.take_append_of_le_length (by rw [List.length_take]; omega), List.take_take, Nat.min_eq_left hm]
theorem Inv.cm (h : Inv R ld ep n w P) {j : Nat} (hj : j < n) : 0 ≤ (rg R j).Commit ∧ (rg R j).Commit.toNat ≤ (rg R j).Log.length ∧ (rg R j).Log.length ≤ 5000 := by
 have := rightB_iff.1 (h.right j hj)
 omega
theorem Inv.agree (h : Inv R ld ep n w P) {j k : Nat} (hj : j < n) (hk : k < n) : ¬ ((common (rg R j).Log (rg R k).Log : Nat) : Int) < (if (rg R k).Commit < (rg R j).Commit then (rg R k).Commit else (rg R j).Commit) := by
 have cj := h.cm hj
 have ck := h.cm hk
 have key : ∀ m : Nat, m ≤ (rg R j).Commit.toNat → m ≤ (rg R k).Commit.toNat → m ≤ common (rg R j).Log (rg R k).Log := fun m h1 h2 =>
  common_ge m ((take_of_prefix (h.j3 j hj) h1 (by omega)).trans (take_of_prefix (h.j3 k hk) h2 (by omega)).symm) (by omega) (by omega)
 split
 ·have := key (rg R k).Commit.toNat (by omega) (by omega); omega
 ·have := key (rg R j).Commit.toNat (by omega) (by omega); omega
theorem safe_in (K : Nat) (g : group_Group) (h : Inv g.Replicas g.Leader g.Epoch n w P) (hn : n ≤ 9) (hK : 100000 ≤ K) (i : Nat) (hi : i < n) : ∀ (k m : Nat), i - m < k → m ≤ i → group_Safe.l21 K g (i : Int) k (m : Int) = some (.go ()) := by
 have hs : (slc g.Replicas 0 (i : Int)) = g.Replicas.take i := by rw [slc_take]; rfl
 have hlen := h.len
 intro k
 induction k with
 | zero => intro m h; omega
 | succ k ih =>
  intro m hm hmi
  unfold group_Safe.l21
  rw [hs, List.length_take, Nat.min_eq_left (by omega)]
  by_cases hlt : m < i
  ·have hg : (g.Replicas.take i).getD m z_api_Replica = g.Replicas.getD m z_api_Replica := by
    rw [List.getD_eq_getElem?_getD, List.getD_eq_getElem?_getD, List.getElem?_take, if_pos hlt]
   have q1 : (m : Int) < i := by omega
   have q2 : (0 : Int) ≤ m ∧ (m : Int) < i := by omega
   simp only [if_pos q1, if_pos q2, Int.toNat_natCast, hg]
   rw [Common_eq K _ _ (h.cm hi).2.2 (h.cm (j := m) (by omega)).2.2 (by omega), wrap_succ (by omega)]
   simp only [Option.bind_some]
   rw [if_neg (h.agree hi (k := m) (by omega))]
   exact ih (m + 1) (by omega) (by omega)
  ·rw [if_neg (by omega)]
theorem safe_val (K : Nat) (g : group_Group) (h : Inv g.Replicas g.Leader g.Epoch n w P) (hn : n ≤ 9) (hK : 100000 ≤ K) : group_Safe K g = some true := by
 have hlen := h.len
 have out : ∀ (k m : Nat), g.Replicas.length - m < k → m ≤ g.Replicas.length → group_Safe.l7 K g k (m : Int) = some (.go ()) := by
  intro k
  induction k with
  | zero => intro m h; omega
  | succ k ih =>
   intro m hm hmi
   unfold group_Safe.l7
   by_cases hlt : m < g.Replicas.length
   ·have q1 : (m : Int) < g.Replicas.length := by omega
    have q2 : (0 : Int) ≤ m ∧ (m : Int) < g.Replicas.length := by omega
    have q3 : (m : Int) ≤ g.Replicas.length := by omega
    have h1 := safe_in K g h hn hK m (by omega) K 0 (by omega) (by omega)
    rw [show ((0 : Nat) : Int) = 0 from rfl] at h1
    simp only [if_pos q1, if_pos q2, if_pos q3]
    rw [h1, wrap_succ (by omega)]
    exact ih (m + 1) (by omega) (by omega)
   ·rw [if_neg (by omega)]
 unfold group_Safe
 have := out K 0 (by omega) (by omega)
 rw [show ((0 : Nat) : Int) = 0 from rfl] at this
 rw [this]
 rfl
theorem pick_l9 (K : Nat) (g : group_Group) (hx : g.Replicas.length ≤ 9) : ∀ (k m : Nat) (b : Int), g.Replicas.length - m < k → m ≤ g.Replicas.length → ((b < 0 ∧ m = 0) ∨ (0 ≤ b ∧ b < g.Replicas.length ∧ ∀ j, j < m → (rg g.Replicas j).Commit ≤ (rg g.Replicas b.toNat).Commit)) →
  ∃ v : Int, group_Committed.l9 K g k b (m : Int) = some v ∧ ((v < 0 ∧ g.Replicas.length = 0) ∨ (0 ≤ v ∧ v < g.Replicas.length ∧ ∀ j, j < g.Replicas.length → (rg g.Replicas j).Commit ≤ (rg g.Replicas v.toNat).Commit)) := by
 intro k
 induction k with
 | zero => intro m b h; omega
 | succ k ih =>
  intro m b h hm hb
  unfold group_Committed.l9
  by_cases hlt : m < g.Replicas.length
  ·have q1 : (m : Int) < g.Replicas.length := by omega
   have q2 : (0 : Int) ≤ m ∧ (m : Int) < g.Replicas.length := by omega
   simp only [if_pos q1, if_pos q2]
   rw [wrap_succ (by omega)]
   rcases hb with ⟨hb, hm0⟩ | ⟨hb0, hb1, hb2⟩
   ·rw [if_pos hb]
    exact ih (m + 1) m (by omega) (by omega) (.inr ⟨by omega, by omega, fun j hj => by rw [Int.toNat_natCast, show j = m from by omega]; exact Int.le_refl _⟩)
   ·have q3 : ¬ b < 0 := by omega
    rw [if_neg q3, if_pos ⟨hb0, hb1⟩, Int.toNat_natCast]
    split
    ·rename_i hgt
     exact ih (m + 1) m (by omega) (by omega) (.inr ⟨by omega, by omega, fun j hj => by
      rw [Int.toNat_natCast]
      by_cases e : j = m
      ·rw [e]; exact Int.le_refl _
      ·have := hb2 j (by omega)
       have hgt' : (rg g.Replicas m).Commit > (rg g.Replicas b.toNat).Commit := hgt
       omega⟩)
    ·rename_i hgt
     exact ih (m + 1) b (by omega) (by omega) (.inr ⟨hb0, hb1, fun j hj => by
      by_cases e : j = m
      ·rw [e]
       have hgt' : ¬ (rg g.Replicas m).Commit > (rg g.Replicas b.toNat).Commit := hgt
       omega
      ·exact hb2 j (by omega)⟩)
  ·rw [if_neg (by omega)]
   refine ⟨b, rfl, ?_⟩
   rcases hb with ⟨hb, hm0⟩ | ⟨hb0, hb1, hb2⟩
   ·exact .inl ⟨hb, by omega⟩
   ·exact .inr ⟨hb0, hb1, fun j hj => hb2 j (by omega)⟩
def Was (R : List api_Replica) (n : Nat) (P : Log) (was : List (List UInt8)) : Prop := ∃ v, v < n ∧ (∀ j, j < n → (rg R j).Commit ≤ (rg R v).Commit) ∧ was = (P.take (rg R v).Commit.toNat).map (·.Data)
theorem Inv.takeP (h : Inv R ld ep n w P) {v : Nat} (hv : v < n) : (rg R v).Log.take (rg R v).Commit.toNat = P.take (rg R v).Commit.toNat ∧ (rg R v).Commit.toNat ≤ P.length := by
 have c := h.cm hv
 have h1 := take_of_prefix (h.j3 v hv) (Nat.le_refl _) c.2.1
 refine ⟨h1, ?_⟩
 have h2 := (h.j3 v hv).length_le
 rw [List.length_take] at h2
 omega
theorem committed_val (K : Nat) (g : group_Group) (h : Inv g.Replicas g.Leader g.Epoch n w P) (hn : n ≤ 9) (h1n : 1 ≤ n) (hK : 100000 ≤ K) : ∃ now, group_Committed K g = some now ∧ Was g.Replicas n P now := by
 have hlen := h.len
 obtain ⟨v, h1, h2⟩ := pick_l9 K g (by omega) K 0 (-1) (by omega) (by omega) (.inl ⟨by omega, rfl⟩)
 rw [show ((0 : Nat) : Int) = 0 from rfl] at h1
 rcases h2 with ⟨_, h2⟩ | ⟨v0, v1, v2⟩
 ·omega
 ·have hv : v.toNat < n := by omega
  have c := h.cm hv
  unfold group_Committed
  rw [h1]
  simp only [Option.bind_some]
  have q1 : ¬ v < 0 := by omega
  rw [if_neg q1, if_pos ⟨v0, v1⟩, Committed_eq K _ c.2.2 (fun x hx => by have := (rightB_fit (h.right _ hv)).2 x hx; omega) (by omega)]
  refine ⟨_, rfl, v.toNat, hv, fun j hj => v2 j (by omega), ?_⟩
  have hcn : commitN (rg g.Replicas v.toNat) = (rg g.Replicas v.toNat).Commit.toNat := by unfold commitN; omega
  show ((rg g.Replicas v.toNat).Log.take (commitN (rg g.Replicas v.toNat))).map (·.Data) = _
  rw [hcn, (h.takeP hv).1]
theorem was_grows {P' : Log} {w' : Nat} {ld' ep' : Int} {was now : List (List UInt8)} (h : Inv R ld ep n w P) (h' : Inv R' ld' ep' n w' P') (hP : P <+: P') (hup : Up2 n R R') (hw : Was R n P was) (hw' : Was R' n P' now) : was.length ≤ now.length ∧ now.take was.length = was := by
 obtain ⟨v, v1, v2, rfl⟩ := hw
 obtain ⟨v', v1', v2', rfl⟩ := hw'
 have h1 := (h.takeP v1).2
 have h2 := (h'.takeP v1').2
 have h3 := hup v v1
 have h4 := v2' v v1
 have c := h.cm v1
 have c' := h'.cm v1'
 have hle : (rg R v).Commit.toNat ≤ (rg R' v').Commit.toNat := by omega
 simp only [List.length_map, List.length_take]
 refine ⟨by omega, ?_⟩
 rw [← List.map_take, List.take_take, Nat.min_eq_left h1, Nat.min_eq_left (by omega)]
 obtain ⟨t, rfl⟩ := hP
 rw [List.take_append_of_le_length h1]
theorem small_eq (K : Nat) (s : workflowlaw55_Step) : workflowlaw55_small K s = some (decide (s.Reach.length ≤ 30) && decide (s.Data.length ≤ 70000)) := by
 unfold workflowlaw55_small
 by_cases h : s.Reach.length ≤ 30
 ·rw [if_pos (by omega), decide_eq_true h, Bool.true_and]
  congr 1
  simp only [decide_eq_decide]
  omega
 ·rw [if_neg (by omega), decide_eq_false h, Bool.false_and]
theorem okG_of (h : Inv R ld ep n w P) (hn : n ≤ 9) (h1 : 1 ≤ n) {U : List Bool} (hU : U.length = n) : okG R U ld ep = true := by
 unfold okG
 have a := h.len
 have b := h.ldn
 have c := h.ep0
 rw [decide_eq_true (by omega), Bool.true_and, List.all_eq_true]
 intro r hr
 obtain ⟨j, hj, rfl⟩ := List.mem_iff_getElem.1 hr
 have := h.right j (by omega)
 simp only [rg, List.getD_eq_getElem?_getD, List.getElem?_eq_getElem hj, Option.getD_some] at this
 exact this
theorem was_len {was : List (List UInt8)} (h : Inv R ld ep n w P) (hw : Was R n P was) : was.length ≤ 5000 ∧ ∀ x ∈ was, x.length ≤ 65536 := by
 obtain ⟨v, v1, v2, rfl⟩ := hw
 have c := h.cm v1
 rw [← (h.takeP v1).1]
 refine ⟨by rw [List.length_map, List.length_take]; omega, fun x hx => ?_⟩
 obtain ⟨y, hy, rfl⟩ := List.mem_map.1 hx
 exact (rightB_fit (h.right v v1)).2 y (List.mem_of_mem_take hy)
theorem safe_loop (K : Nat) (l : List workflowlaw55_Step) (hl : l.length ≤ 60) (hn : n ≤ 9) (h1n : 1 ≤ n) (hE : K = 100000) : ∀ (k i : Nat) (was : List (List UInt8)) (R : List api_Replica) (U : List Bool) (ld ep : Int) (w : Nat) (P : Log), l.length - i < k → i ≤ l.length → Inv R ld ep n w P → U.length = n → Was R n P was →
  ∃ o, workflowlaw55_GroupSafe.l27 K l k was (i : Int) R U ld ep = some o ∧ (o = .go () ∨ o = .done true) := by
 have hw : workflowlaw55_works K = some true := by subst hE; exact works_E
 have hK : 100000 ≤ K := by omega
 intro k
 induction k with
 | zero => intro i was R U ld ep w P h; omega
 | succ k ih =>
  intro i was R U ld ep w P hk hi h hU hwas
  unfold workflowlaw55_GroupSafe.l27
  by_cases hlt : i < l.length
  ·have q1 : (i : Int) < l.length := by omega
   have q2 : (0 : Int) ≤ i ∧ (i : Int) < l.length := by omega
   simp only [if_pos q1, if_pos q2, Int.toNat_natCast]
   rw [small_eq]
   simp only [Option.bind_some]
   by_cases hs : (decide ((l.getD i z_workflowlaw55_Step).Reach.length ≤ 30) && decide ((l.getD i z_workflowlaw55_Step).Data.length ≤ 70000)) = true
   ·rw [if_pos hs]
    simp only [Option.bind_some]
    by_cases hd : ((l.getD i z_workflowlaw55_Step).Data.length : Int) > 100
    ·rw [if_pos (decide_eq_true hd), hw]
     exact ⟨_, rfl, .inr rfl⟩
    ·rw [if_neg (by simpa using hd)]
     simp only [Bool.and_eq_true, decide_eq_true_eq] at hs
     obtain ⟨x, y, hst, hb⟩ := both_val K R U ld ep (l.getD i z_workflowlaw55_Step) hs.1 hK
     obtain ⟨w', P', p1, p2, p3, p4⟩ := step_inv h hn hU hst
     unfold workflowlaw55_back
     simp only [Option.bind_some]
     rw [hb]
     simp only [Option.bind_some, if_true]
     generalize resG ⟨R, U, ld, ep⟩ (l.getD i z_workflowlaw55_Step).Kind x = g at p2 p3 p4
     obtain ⟨now, c1, c2⟩ := committed_val K g p2 hn h1n hK
     obtain ⟨g1, g2⟩ := was_grows h p2 p1 p3 hwas c2
     obtain ⟨g3, g4⟩ := was_len h hwas
     rw [safe_val K g p2 hn hK]
     simp only [Option.bind_some, if_true]
     rw [rRightG_eq K _ (by omega), okG_of p2 hn h1n p4]
     simp only [Option.bind_some, if_true]
     rw [c1]
     simp only [Option.bind_some]
     rw [if_neg (by omega), if_pos (by omega), show slc now 0 (was.length : Int) = now.take was.length from by simp [slc], g2, SameData_eq K 65536 was g3 g4 (by omega) (by omega) (by omega), wrap_succ (by omega)]
     simp only [Option.bind_some, if_true]
     exact ih (i + 1) now g.Replicas g.Up g.Leader g.Epoch w' P' (by omega) (by omega) p2 p4 c2
   ·rw [if_neg hs]
    simp only [Option.bind_some, if_true]
    rw [hw]
    exact ⟨_, rfl, .inr rfl⟩
  ·rw [if_neg (by omega)]
   exact ⟨_, rfl, .inl rfl⟩
abbrev newR (n : Nat) : List api_Replica := List.replicate n ⟨0, -1, 0, []⟩
theorem inv_new (n : Nat) : Inv (newR n) (-1) 0 n 0 [] := by
 have hg : ∀ j, j < n → rg (newR n) j = ⟨0, -1, 0, []⟩ := fun j hj => by simp [rg, List.getD_eq_getElem?_getD, hj]
 exact {
  len := by simp
  right := fun j hj => by rw [hg j hj]; decide +kernel
  lm := fun j k hj hk i x y hx => by rw [hg j hj] at hx; simp at hx
  le := fun h0 => by omega
  eb := fun j hj i x hx => by rw [hg j hj] at hx; simp at hx
  vm := .inl rfl
  j1 := .inl rfl
  j2 := fun h0 => absurd rfl h0
  j3 := fun j hj => by rw [hg j hj]; exact List.prefix_rfl
  j4 := fun h0 => by omega
  ldn := by omega
  ep0 := by omega }
theorem new_val (K : Nat) (n : Int) (hE : K = 100000) : (∃ g e, group_New K n = some (g, e) ∧ e ≠ 0) ∨ (1 ≤ n ∧ n ≤ 9 ∧ group_New K n = some (⟨newR n.toNat, List.replicate n.toNat true, -1, 0⟩, 0)) := by
 by_cases h1 : n < 1
 ·left; unfold group_New; rw [if_pos h1]; exact ⟨_, _, rfl, by omega⟩
 ·by_cases h2 : n > 9
  ·left; unfold group_New; rw [if_neg h1, if_pos h2]; exact ⟨_, _, rfl, by omega⟩
  ·right
   refine ⟨by omega, by omega, ?_⟩
   have : n = 1 ∨ n = 2 ∨ n = 3 ∨ n = 4 ∨ n = 5 ∨ n = 6 ∨ n = 7 ∨ n = 8 ∨ n = 9 := by omega
   rcases this with rfl | rfl | rfl | rfl | rfl | rfl | rfl | rfl | rfl
   all_goals (subst hE; exact (Le.refl _).at (by kernel_rfl))
theorem law_safe (K : Nat) (n : Int) (l : List workflowlaw55_Step) (hE : K = 100000) : workflowlaw55_GroupSafe K n l = some true := by
 have hw : workflowlaw55_works K = some true := by subst hE; exact works_E
 have hK : 100000 ≤ K := by omega
 unfold workflowlaw55_GroupSafe
 by_cases h60 : (l.length : Int) > 60
 ·rw [if_pos h60, hw]; rfl
 ·rw [if_neg h60]
  rcases new_val K n hE with ⟨g, e, h1, h2⟩ | ⟨h1, h2, h3⟩
  ·rw [h1]
   simp only [Option.bind_some, if_pos h2]
   rw [hw]; rfl
  ·rw [h3]
   simp only [Option.bind_some, ne_eq, not_true_eq_false, if_false]
   have hwas : Was (newR n.toNat) n.toNat [] [] := ⟨0, by omega, fun j hj => by
    have hg : ∀ j, j < n.toNat → rg (newR n.toNat) j = ⟨0, -1, 0, []⟩ := fun j hj => by simp [rg, List.getD_eq_getElem?_getD, hj]
    rw [hg j hj, hg 0 (by omega)]; exact Int.le_refl _, by simp⟩
   obtain ⟨o, o1, o2⟩ := safe_loop (n := n.toNat) K l (by omega) (by omega) (by omega) hE K 0 [] (newR n.toNat) (List.replicate n.toNat true) (-1) 0 0 [] (by omega) (by omega) (inv_new _) (by simp) hwas
   rw [show ((0 : Nat) : Int) = 0 from rfl] at o1
   rw [o1]
   rcases o2 with rfl | rfl
   ·simp only [obind]
    rw [hw]; rfl
   ·rfl
end Go.Proofs.YtmafcdkdcfaajaaGreat
