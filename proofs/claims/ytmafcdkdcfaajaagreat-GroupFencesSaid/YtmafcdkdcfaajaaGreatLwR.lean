/- The law. -/
import Derived.Test.YtmafcdkdcfaajaaGreatLwQ
set_option linter.unusedVariables false
set_option linter.unusedSimpArgs false
namespace Go.Proofs.YtmafcdkdcfaajaaGreat
open Eng
variable {R R' : List aRep} {ld ep : Int} {n w : Nat} {P : Log}
theorem step_up {U : List Bool} {s : wl55_Step} {x : group_Group × Int} (h : Inv R ld ep n w P) (hn : n ≤ 9) (hx : StepOf R U ld ep s x) (hk : s.Kind = 0) : (resG ⟨R, U, ld, ep⟩ s.Kind x).Up = U := by
 unfold resG
 rcases hx with ⟨_, hx⟩ | ⟨hk', _⟩
 ·rcases elect_inv h hx hn with ⟨h1, h2⟩ | ⟨h1, h2, _⟩
  ·rw [if_pos ⟨h1, fun hh => h2 hh.2⟩]
  ·rw [if_neg (fun hh => by
    rcases h1 with h1 | h1
    ·exact hh.1 h1
    ·exact hh.2 ⟨hk, h1⟩)]
   exact h2
 ·exact absurd hk hk'
theorem fenced_err {R : List aRep} {U : List Bool} {ld ep i e : Int} {l : List Int} (h1 : U.getD i.toNat false = true) (h2 : i ≠ ld) : leadsB R U ld ep i e l = 25 ∨ leadsB R U ld ep i e l = 2 := by
 unfold leadsB
 by_cases hs : suitB R U ld ep i l = true
 ·rw [if_pos hs, if_pos h1, if_pos h2]; exact .inl rfl
 ·rw [if_neg hs]; exact .inr rfl
theorem fences_loop (K : Nat) (l : List wl55_Step) (d : List UInt8) (hl : l.length ≤ 60) (hn : n ≤ 9) (h1n : 1 ≤ n) (hE : K = 100000) : ∀ (k i : Nat) (R : List aRep) (U : List Bool) (ld ep : Int) (w : Nat) (P : Log), l.length - i < k → i ≤ l.length → Inv R ld ep n w P → U.length = n →
  ∃ o, wl55_GroupFences.l25 K l d k (i : Int) R U ld ep = some o ∧ (o = .done true ∨ ∃ R' U' ld' ep' w' P', o = .go (R', U', ld', ep') ∧ Inv R' ld' ep' n w' P' ∧ U'.length = n) := by
 have hw : wl55_works K = some true := by subst hE; exact works_E
 have hK : 100000 ≤ K := by omega
 intro k
 induction k with
 | zero => intro i R U ld ep w P h; omega
 | succ k ih =>
  intro i R U ld ep w P hk hi h hU
  unfold wl55_GroupFences.l25
  by_cases hlt : i < l.length
  ·have q1 : (i : Int) < l.length := by omega
   have q2 : (0 : Int) ≤ i ∧ (i : Int) < l.length := by omega
   simp only [if_pos q1, if_pos q2, Int.toNat_natCast]
   rw [small_eq]
   simp only [Option.bind_some]
   by_cases hs : (decide ((l.getD i z_wl55_Step).Reach.length ≤ 30) && decide ((l.getD i z_wl55_Step).Data.length ≤ 70000)) = true
   ·rw [if_pos hs]
    simp only [Option.bind_some]
    by_cases hd : ((l.getD i z_wl55_Step).Data.length : Int) > 100
    ·rw [if_pos (decide_eq_true hd), hw]
     exact ⟨_, rfl, .inl rfl⟩
    ·rw [if_neg (by simpa using hd)]
     simp only [Bool.and_eq_true, decide_eq_true_eq] at hs
     obtain ⟨x, y, hst, hb⟩ := both_val K R U ld ep (l.getD i z_wl55_Step) hs.1 hK
     obtain ⟨w', P', p1, p2, p3, p4⟩ := step_inv h hn hU hst
     have hup := step_up h hn hst
     unfold wl55_back
     simp only [Option.bind_some]
     rw [hb]
     simp only [Option.bind_some, if_true]
     generalize resG ⟨R, U, ld, ep⟩ (l.getD i z_wl55_Step).Kind x = g at p2 p3 p4 hup
     have hrec := ih (i + 1) g.Replicas g.Up g.Leader g.Epoch w' P' (by omega) (by omega) p2 p4
     have hldn := h.ldn
     have hcond : ∃ b : Bool, (if (l.getD i z_wl55_Step).Kind = 0 then (if g.Leader = (l.getD i z_wl55_Step).I then (if g.Epoch ≠ ep then (if ld ≥ 0 then (if ld ≠ (l.getD i z_wl55_Step).I then (if (0 : Int) ≤ ld ∧ (ld : Int) < (U.length : Int) then some (U.getD (Int.toNat ld) false) else none) else some false) else some false) else some false) else some false) else some false) = some b ∧
       (b = true → (l.getD i z_wl55_Step).Kind = 0 ∧ g.Leader = (l.getD i z_wl55_Step).I ∧ ld ≠ (l.getD i z_wl55_Step).I ∧ U.getD ld.toNat false = true) := by
      by_cases a1 : (l.getD i z_wl55_Step).Kind = 0
      ·rw [if_pos a1]
       by_cases a2 : g.Leader = (l.getD i z_wl55_Step).I
       ·rw [if_pos a2]
        by_cases a3 : g.Epoch ≠ ep
        ·rw [if_pos a3]
         by_cases a4 : ld ≥ 0
         ·rw [if_pos a4]
          by_cases a5 : ld ≠ (l.getD i z_wl55_Step).I
          ·rw [if_pos a5, if_pos ⟨a4, by omega⟩]
           exact ⟨_, rfl, fun hh => ⟨a1, a2, a5, hh⟩⟩
          ·rw [if_neg a5]; exact ⟨_, rfl, fun hh => by cases hh⟩
         ·rw [if_neg a4]; exact ⟨_, rfl, fun hh => by cases hh⟩
        ·rw [if_neg a3]; exact ⟨_, rfl, fun hh => by cases hh⟩
       ·rw [if_neg a2]; exact ⟨_, rfl, fun hh => by cases hh⟩
      ·rw [if_neg a1]; exact ⟨_, rfl, fun hh => by cases hh⟩
     obtain ⟨b, hb1, hb2⟩ := hcond
     rw [hb1, wrap_succ (by omega)]
     simp only [Option.bind_some]
     cases b with
     | false =>
      simp only [Bool.false_eq_true, if_false]
      exact hrec
     | true =>
      obtain ⟨c1, c2, c3, c4⟩ := hb2 rfl
      simp only [if_true]
      obtain ⟨z, hz, _, he⟩ := propose_err K g.Replicas g.Up g.Leader g.Epoch ld ep d (l.getD i z_wl55_Step).Reach hs.1 hK
      have hz' : group_Propose K g ld ep d (l.getD i z_wl55_Step).Reach = some z := hz
      have h25 := fenced_err (R := g.Replicas) (U := g.Up) (ld := g.Leader) (ep := g.Epoch) (i := ld) (e := ep) (l := (l.getD i z_wl55_Step).Reach) (by rw [hup c1]; exact c4) (by rw [c2]; exact c3)
      rw [hz']
      simp only [Option.bind_some]
      rcases h25 with h25 | h25
      ·have hz : z.2.2.2 = 25 := (he (by rw [h25]; omega)).trans h25
       rw [if_neg (fun hh => hh hz)]
       exact hrec
      ·have hz : z.2.2.2 = 2 := (he (by rw [h25]; omega)).trans h25
       rw [if_pos (by rw [hz]; omega), if_neg (fun hh => hh hz)]
       exact hrec
   ·rw [if_neg hs]
    simp only [Option.bind_some, if_true]
    rw [hw]
    exact ⟨_, rfl, .inl rfl⟩
  ·rw [if_neg (by omega)]
   exact ⟨_, rfl, .inr ⟨R, U, ld, ep, w, P, rfl, h, hU⟩⟩
theorem up_l86 (K : Nat) (R : List aRep) (U : List Bool) (ld : Int) (hn : R.length ≤ 9) (hU : U.length = R.length) : ∀ (c k m : Nat) (v : Int) (acc : List Int), m + c = R.length → c < k → acc.length ≤ m → 0 ≤ v → v ≤ m + 1 →
  wl55_GroupFences.l86 K R U ld k v (m : Int) acc = some (v + ((fl (upQ U ld) c m).length : Int), acc ++ castL (fl (upQ U ld) c m)) := by
 intro c
 induction c with
 | zero =>
  intro k m v acc hm hk ha h0 h1
  cases k with
  | zero => omega
  | succ k =>
   unfold wl55_GroupFences.l86
   rw [if_neg (by omega)]
   simp [fl, castL]
 | succ c ih =>
  intro k m v acc hm hk ha h0 h1
  cases k with
  | zero => omega
  | succ k =>
   unfold wl55_GroupFences.l86
   have q1 : (m : Int) < R.length := by omega
   have q2 : (0 : Int) ≤ m ∧ (m : Int) < U.length := by omega
   have q3 : (acc.length + ([(m : Int)] : List Int).length) * 8 ≤ 140737488355328 := by simp; omega
   simp only [if_pos q1, if_pos q2, if_pos q3, Int.toNat_natCast]
   have hQ : (if (m : Int) ≠ ld then some (U.getD m false) else some false) = some (upQ U ld m) := by
    unfold upQ
    by_cases e : (m : Int) ≠ ld
    ·rw [if_pos e, decide_eq_true e, Bool.true_and]
    ·rw [if_neg e, decide_eq_false e, Bool.false_and]
   rw [hQ, wrap_succ (by omega), Eng.wrap_small (by omega) (by omega)]
   simp only [Option.bind_some]
   rw [show fl (upQ U ld) (c + 1) m = if upQ U ld m = true then m :: fl (upQ U ld) c (m + 1) else fl (upQ U ld) c (m + 1) from rfl]
   by_cases hq : upQ U ld m = true
   ·rw [if_pos hq, if_pos hq, ih k (m + 1) (v + 1) (acc ++ [(m : Int)]) (by omega) (by omega) (by simp; omega) (by omega) (by omega)]
    simp only [List.length_cons, castL, List.map_cons, List.append_assoc, List.singleton_append]
    congr 2
    omega
   ·rw [if_neg hq, if_neg hq, ih k (m + 1) v acc (by omega) (by omega) (by omega) h0 (by omega)]
theorem law_fences (K : Nat) (n : Int) (l : List wl55_Step) (d : List UInt8) (hE : K = 100000) : wl55_GroupFences K n l d = some true := by
 have hw : wl55_works K = some true := by subst hE; exact works_E
 have hK : 100000 ≤ K := by omega
 unfold wl55_GroupFences
 have hfirst : ∃ b : Bool, (if (l.length : Int) > 60 then some true else some (decide ((d.length : Int) > 100))) = some b ∧ (b = false → l.length ≤ 60) := by
  by_cases h60 : (l.length : Int) > 60
  ·rw [if_pos h60]; exact ⟨_, rfl, fun hh => by cases hh⟩
  ·rw [if_neg h60]; exact ⟨_, rfl, fun _ => by omega⟩
 obtain ⟨b, hb1, hb2⟩ := hfirst
 rw [hb1]
 simp only [Option.bind_some]
 cases b with
 | true => simp only [if_true]; rw [hw]; rfl
 | false =>
  have hl := hb2 rfl
  simp only [Bool.false_eq_true, if_false]
  rcases new_val K n hE with ⟨g, e, h1, h2⟩ | ⟨h1, h2, h3⟩
  ·rw [h1]
   simp only [Option.bind_some, if_pos h2]
   rw [hw]; rfl
  ·rw [h3]
   simp only [Option.bind_some, ne_eq, not_true_eq_false, if_false]
   obtain ⟨o, o1, o2⟩ := fences_loop (n := n.toNat) K l d hl (by omega) (by omega) hE K 0 (newR n.toNat) (List.replicate n.toNat true) (-1) 0 0 [] (by omega) (by omega) (inv_new _) (by simp)
   rw [show ((0 : Nat) : Int) = 0 from rfl] at o1
   rw [o1]
   rcases o2 with rfl | ⟨R, U, ld, ep, w, P, rfl, h, hU⟩
   ·rfl
   ·simp only [obind]
    have hlen := h.len
    have hldn := h.ldn
    by_cases hneg : ld < 0
    ·rw [if_pos hneg]
     simp only [Option.bind_some, if_true]
     rw [hw]; rfl
    ·rw [if_neg hneg, if_neg (by omega), show decide ((U.length : Int) ≠ (R.length : Int)) = false from decide_eq_false (by omega)]
     simp only [Option.bind_some, Bool.false_eq_true, if_false]
     have e1 := up_l86 K R U ld (by omega) (by omega) R.length K 0 1 [] (by omega) (by omega) (by simp) (by omega) (by omega)
     rw [show ((0 : Nat) : Int) = 0 from rfl] at e1
     rw [e1]
     simp only [Option.bind_some, List.nil_append]
     have hfl := fl_len (P := upQ U ld) n.toNat 0
     rw [hlen]
     obtain ⟨x, hx, ho, _⟩ := propose_err K R U ld ep ld ep d (castL (fl (upQ U ld) n.toNat 0)) (by rw [castL_len]; omega) hK
     rw [hx]
     simp only [Option.bind_some]
     by_cases hx0 : x.2.2.2 = 0
     ·have hd := propose_done h (by omega) hU ho hx0
      rw [if_pos hx0, hd, Eng.wrap_small (by omega) (by omega)]
      have : (decide (n.toNat < 2 * (1 + (fl (upQ U ld) n.toNat 0).length)) == decide (2 * (1 + ((fl (upQ U ld) n.toNat 0).length : Int)) > n)) = true := by
       rw [beq_iff_eq, decide_eq_decide]
       omega
      rw [if_pos this, hw]; rfl
     ·rw [if_neg hx0, hw]; rfl
end Go.Proofs.YtmafcdkdcfaajaaGreat
