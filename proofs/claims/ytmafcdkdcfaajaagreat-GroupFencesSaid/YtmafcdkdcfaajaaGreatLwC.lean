/- The law. -/
import Derived.Test.YtmafcdkdcfaajaaGreatLwB
set_option linter.unusedVariables false
set_option linter.unusedSimpArgs false
namespace Go.Proofs.YtmafcdkdcfaajaaGreat
open Eng
abbrev ZR : aRep := z_aRep
def memB (i : Int) (n : Nat) : Bool := decide (0 ≤ i ∧ i < (n : Int))
def okG (R : List aRep) (U : List Bool) (ld ep : Int) : Bool :=
 decide (1 ≤ R.length ∧ R.length ≤ 9 ∧ U.length = R.length ∧ -1 ≤ ld ∧ ld < (R.length : Int) ∧ 0 ≤ ep ∧ ep ≤ 1099511627776) && R.all rightB
theorem idx99 (K : Nat) (R : List aRep) (hl : R.length ≤ 9) (hK : 5001 ≤ K) : ∀ (k n : Nat), R.length - n < k → n ≤ R.length →
  ∃ o, slices_IndexFunc_99.l7 K R k (n : Int) = some o ∧ (((R.drop n).all rightB = true ∧ o = .go ()) ∨ ((R.drop n).all rightB = false ∧ ∃ i : Int, 0 ≤ i ∧ o = .done i)) := by
 intro k
 induction k with
 | zero => intro n h; omega
 | succ k ih =>
  intro n h hn
  unfold slices_IndexFunc_99.l7
  by_cases hlt : n < R.length
  ·have q1 : (n : Int) < R.length := by omega
   have q2 : (0 : Int) ≤ n ∧ (n : Int) < R.length := by omega
   simp only [if_pos q1, if_pos q2]
   unfold group_Group_formed_c1
   rw [Int.toNat_natCast, Right_eq K _ hK, wrap_succ (by omega), drop_step hlt ZR]
   simp only [Option.bind_some, List.all_cons]
   cases hb : rightB (R.getD n ZR) with
   | true =>
    simp only [Bool.not_true, Bool.false_eq_true, if_false, Bool.true_and]
    exact ih (n + 1) (by omega) (by omega)
   | false =>
    simp only [Bool.not_false, if_true, Bool.false_and]
    exact ⟨_, rfl, .inr ⟨trivial, n, by omega, rfl⟩⟩
  ·rw [if_neg (by omega), drop_end hlt]
   exact ⟨_, rfl, .inl ⟨rfl, rfl⟩⟩
theorem formed_eq (K : Nat) (g : group_Group) (hK : 5001 ≤ K) : group_Group_formed K g = some (okG g.Replicas g.Up g.Leader g.Epoch) := by
 unfold group_Group_formed okG
 by_cases hc : 1 ≤ g.Replicas.length ∧ g.Replicas.length ≤ 9 ∧ g.Up.length = g.Replicas.length ∧ -1 ≤ g.Leader ∧ g.Leader < (g.Replicas.length : Int) ∧ 0 ≤ g.Epoch ∧ g.Epoch ≤ 1099511627776
 ·rw [if_neg (by omega), if_neg (by omega), if_neg (by omega), if_neg (by omega), if_neg (by omega), if_neg (by omega), if_neg (by omega), decide_eq_true hc, Bool.true_and]
  unfold slices_ContainsFunc_91 slices_IndexFunc_99
  obtain ⟨o, h1, h2⟩ := idx99 K g.Replicas (by omega) hK K 0 (by omega) (by omega)
  rw [show ((0 : Nat) : Int) = 0 from rfl] at h1
  rw [h1]
  simp only [List.drop_zero] at h2
  rcases h2 with ⟨ha, rfl⟩ | ⟨ha, i, hi, rfl⟩
  ·rw [ha]; rfl
  ·rw [ha]; simp [obind, hi]
 ·rw [decide_eq_false hc, Bool.false_and]
  repeat' split
  all_goals first | rfl | (exfalso; omega)
theorem rr17 (K : Nat) (f : wr55_Group) (hl : f.Replicas.length ≤ 9) (hK : 5001 ≤ K) : ∀ (k n : Nat), f.Replicas.length - n < k → n ≤ f.Replicas.length →
  wr55_Right.l17 K f k (n : Int) = some (if (f.Replicas.drop n).all rightB = true then .go () else .done false) := by
 intro k
 induction k with
 | zero => intro n h; omega
 | succ k ih =>
  intro n h hn
  unfold wr55_Right.l17
  by_cases hlt : n < f.Replicas.length
  ·have q1 : (n : Int) < f.Replicas.length := by omega
   have q2 : (0 : Int) ≤ n ∧ (n : Int) < f.Replicas.length := by omega
   simp only [if_pos q1, if_pos q2]
   rw [Int.toNat_natCast, rRight_eq K _ hK, wrap_succ (by omega), drop_step hlt ZR, ih (n + 1) (by omega) (by omega)]
   simp only [Option.bind_some, List.all_cons]
   by_cases hb : rightB (f.Replicas.getD n ZR) = true
   ·simp only [hb, if_true, Bool.true_and]
   ·simp only [Bool.not_eq_true] at hb
    simp only [hb, Bool.false_eq_true, if_false, Bool.false_and]
  ·rw [if_neg (by omega), drop_end hlt]
   rfl
theorem rRightG_eq (K : Nat) (f : wr55_Group) (hK : 5001 ≤ K) : wr55_Right K f = some (okG f.Replicas f.Up f.Leader f.Epoch) := by
 unfold wr55_Right okG
 by_cases hc : 1 ≤ f.Replicas.length ∧ f.Replicas.length ≤ 9 ∧ f.Up.length = f.Replicas.length ∧ -1 ≤ f.Leader ∧ f.Leader < (f.Replicas.length : Int) ∧ 0 ≤ f.Epoch ∧ f.Epoch ≤ 1099511627776
 ·rw [if_neg (by omega), if_neg (by omega), if_neg (by omega), if_neg (by omega), if_neg (by omega), if_neg (by omega), if_neg (by omega), decide_eq_true hc, Bool.true_and]
  have h1 := rr17 K f (by omega) hK K 0 (by omega) (by omega)
  rw [show ((0 : Nat) : Int) = 0 from rfl] at h1
  simp only [List.drop_zero] at h1
  rw [h1]
  cases f.Replicas.all rightB <;> rfl
 ·rw [decide_eq_false hc, Bool.false_and]
  repeat' split
  all_goals first | rfl | (exfalso; omega)
theorem member_eqG (K : Nat) (g : group_Group) (i : Int) : group_Group_member K g i = some (memB i g.Replicas.length) := by
 unfold group_Group_member memB
 by_cases h : i ≥ 0
 ·rw [if_pos h]; congr 1; simp [h]
 ·rw [if_neg h]; congr 1; simp; omega
theorem rmember_eqG (K : Nat) (g : wr55_Group) (i : Int) : wr55_member K g i = some (memB i g.Replicas.length) := by
 unfold wr55_member memB
 by_cases h : i ≥ 0
 ·rw [if_pos h]; congr 1; simp [h]
 ·rw [if_neg h]; congr 1; simp; omega
theorem idx84 (K : Nat) (l : List Int) (g : group_Group) (hl : l.length ≤ 30) : ∀ (k n : Nat), l.length - n < k → n ≤ l.length →
  ∃ o, slices_IndexFunc_84.l7 K l g k (n : Int) = some o ∧ (((l.drop n).all (memB · g.Replicas.length) = true ∧ o = .go ()) ∨ ((l.drop n).all (memB · g.Replicas.length) = false ∧ ∃ i : Int, 0 ≤ i ∧ o = .done i)) := by
 intro k
 induction k with
 | zero => intro n h; omega
 | succ k ih =>
  intro n h hn
  unfold slices_IndexFunc_84.l7
  by_cases hlt : n < l.length
  ·have q1 : (n : Int) < l.length := by omega
   have q2 : (0 : Int) ≤ n ∧ (n : Int) < l.length := by omega
   simp only [if_pos q1, if_pos q2]
   unfold group_Group_suits_c1
   rw [Int.toNat_natCast, member_eqG, wrap_succ (by omega), drop_step hlt (0 : Int)]
   simp only [Option.bind_some, List.all_cons]
   cases hb : memB (l.getD n (0 : Int)) g.Replicas.length with
   | true =>
    simp only [Bool.not_true, Bool.false_eq_true, if_false, Bool.true_and]
    exact ih (n + 1) (by omega) (by omega)
   | false =>
    simp only [Bool.not_false, if_true, Bool.false_and]
    exact ⟨_, rfl, .inr ⟨trivial, n, by omega, rfl⟩⟩
  ·rw [if_neg (by omega), drop_end hlt]
   exact ⟨_, rfl, .inl ⟨rfl, rfl⟩⟩
def suitB (R : List aRep) (U : List Bool) (ld ep i : Int) (l : List Int) : Bool := okG R U ld ep && (memB i R.length && l.all (memB · R.length))
theorem suits_eqG (K : Nat) (g : group_Group) (i : Int) (l : List Int) (hl : l.length ≤ 30) (hK : 5001 ≤ K) : group_Group_suits K g i l = some (suitB g.Replicas g.Up g.Leader g.Epoch i l) := by
 unfold group_Group_suits suitB
 rw [formed_eq K g hK]
 simp only [Option.bind_some]
 cases okG g.Replicas g.Up g.Leader g.Epoch with
 | false => rfl
 | true =>
  simp only [if_true, Bool.true_and]
  rw [member_eqG]
  simp only [Option.bind_some]
  cases memB i g.Replicas.length with
  | false => rfl
  | true =>
   simp only [if_true, Bool.true_and]
   unfold slices_ContainsFunc_55 slices_IndexFunc_84
   obtain ⟨o, h1, h2⟩ := idx84 K l g hl K 0 (by omega) (by omega)
   rw [show ((0 : Nat) : Int) = 0 from rfl] at h1
   rw [h1]
   simp only [List.drop_zero] at h2
   rcases h2 with ⟨ha, rfl⟩ | ⟨ha, i, hi, rfl⟩
   ·rw [ha]; rfl
   ·rw [ha]; simp [obind, hi]
theorem rargs15 (K : Nat) (f : wr55_Group) (l : List Int) (hl : l.length ≤ 30) : ∀ (k n : Nat), l.length - n < k → n ≤ l.length →
  wr55_args.l15 K f l k (n : Int) = some (if (l.drop n).all (memB · f.Replicas.length) = true then .go () else .done 2) := by
 intro k
 induction k with
 | zero => intro n h; omega
 | succ k ih =>
  intro n h hn
  unfold wr55_args.l15
  by_cases hlt : n < l.length
  ·have q1 : (n : Int) < l.length := by omega
   have q2 : (0 : Int) ≤ n ∧ (n : Int) < l.length := by omega
   simp only [if_pos q1, if_pos q2]
   rw [Int.toNat_natCast, rmember_eqG, wrap_succ (by omega), drop_step hlt (0 : Int), ih (n + 1) (by omega) (by omega)]
   simp only [Option.bind_some, List.all_cons]
   by_cases hb : memB (l.getD n (0 : Int)) f.Replicas.length = true
   ·simp only [hb, if_true, Bool.true_and]
   ·simp only [Bool.not_eq_true] at hb
    simp only [hb, Bool.false_eq_true, if_false, Bool.false_and]
  ·rw [if_neg (by omega), drop_end hlt]
   rfl
theorem okG_spec {R : List aRep} {U : List Bool} {ld ep : Int} (h : okG R U ld ep = true) : (1 ≤ R.length ∧ R.length ≤ 9 ∧ U.length = R.length ∧ -1 ≤ ld ∧ ld < (R.length : Int) ∧ 0 ≤ ep ∧ ep ≤ 1099511627776) ∧ ∀ r ∈ R, rightB r = true := by
 unfold okG at h
 simp only [Bool.and_eq_true, decide_eq_true_eq, List.all_eq_true] at h
 exact h
theorem rargs_eq (K : Nat) (f : wr55_Group) (i : Int) (l : List Int) (hl : l.length ≤ 30) (hK : 5001 ≤ K) : wr55_args K f i l = some (if suitB f.Replicas f.Up f.Leader f.Epoch i l = true then (if f.Up.getD i.toNat false = true then 0 else 28) else 2) := by
 unfold wr55_args suitB
 rw [rRightG_eq K f hK]
 simp only [Option.bind_some]
 cases ho : okG f.Replicas f.Up f.Leader f.Epoch with
 | false => rfl
 | true =>
  have hs := (okG_spec ho).1
  simp only [if_true, Bool.true_and]
  rw [rmember_eqG]
  simp only [Option.bind_some]
  cases hm : memB i f.Replicas.length with
  | false => rfl
  | true =>
   have hi : 0 ≤ i ∧ i < (f.Replicas.length : Int) := of_decide_eq_true hm
   simp only [if_true, Bool.true_and]
   have h1 := rargs15 K f l hl K 0 (by omega) (by omega)
   rw [show ((0 : Nat) : Int) = 0 from rfl] at h1
   simp only [List.drop_zero] at h1
   rw [h1]
   cases hx : l.all (memB · f.Replicas.length) with
   | false => rfl
   | true =>
    simp only [if_true, obind]
    rw [if_pos (by omega)]
    split <;> rfl
def Pb (U : List Bool) (me : Int) (l : List Int) (j : Nat) : Bool := U.getD j false && (decide ((j : Int) ≠ me) && decide ((j : Int) ∈ l))
def fl (P : Nat → Bool) : Nat → Nat → List Nat
 | 0, _ => []
 | c + 1, m => if P m = true then m :: fl P c (m + 1) else fl P c (m + 1)
theorem fl_mem {P : Nat → Bool} : ∀ (c m j : Nat), j ∈ fl P c m ↔ m ≤ j ∧ j < m + c ∧ P j = true
 | 0, m, j => by simp [fl]; omega
 | c + 1, m, j => by
  unfold fl
  have ih := fl_mem (P := P) c (m + 1) j
  by_cases h : P m = true
  ·rw [if_pos h, List.mem_cons, ih]
   constructor
   ·rintro (rfl | ⟨h1, h2, h3⟩)
    ·exact ⟨by omega, by omega, h⟩
    ·exact ⟨by omega, by omega, h3⟩
   ·rintro ⟨h1, h2, h3⟩
    by_cases e : j = m
    ·exact .inl e
    ·exact .inr ⟨by omega, by omega, h3⟩
  ·rw [if_neg h, ih]
   constructor
   ·rintro ⟨h1, h2, h3⟩; exact ⟨by omega, by omega, h3⟩
   ·rintro ⟨h1, h2, h3⟩
    have e : j ≠ m := fun e => by subst e; exact h h3
    exact ⟨by omega, by omega, h3⟩
theorem fl_len {P : Nat → Bool} : ∀ (c m : Nat), (fl P c m).length ≤ c
 | 0, m => by simp [fl]
 | c + 1, m => by
  unfold fl
  have := fl_len (P := P) c (m + 1)
  split <;> simp <;> omega
theorem fl_congr {P Q : Nat → Bool} : ∀ (c m : Nat), (∀ j, m ≤ j → j < m + c → P j = Q j) → fl P c m = fl Q c m
 | 0, m, h => rfl
 | c + 1, m, h => by
  unfold fl
  rw [h m (by omega) (by omega), fl_congr c (m + 1) fun j h1 h2 => h j (by omega) (by omega)]
theorem idx93 (K : Nat) (l : List Int) (x : Int) (hl : l.length ≤ 30) : ∀ (k n : Nat), l.length - n < k → n ≤ l.length →
  ∃ o, slices_Index_93.l7 K l x k (n : Int) = some o ∧ ((x ∉ l.drop n ∧ o = .go ()) ∨ (x ∈ l.drop n ∧ ∃ i : Int, 0 ≤ i ∧ o = .done i)) := by
 intro k
 induction k with
 | zero => intro n h; omega
 | succ k ih =>
  intro n h hn
  unfold slices_Index_93.l7
  by_cases hlt : n < l.length
  ·have q1 : (n : Int) < l.length := by omega
   have q2 : (0 : Int) ≤ n ∧ (n : Int) < l.length := by omega
   simp only [if_pos q1, if_pos q2]
   rw [Int.toNat_natCast, wrap_succ (by omega), drop_step hlt (0 : Int)]
   by_cases hx : x = l.getD n (0 : Int)
   ·rw [if_pos hx]
    exact ⟨_, rfl, .inr ⟨by rw [← hx]; exact List.mem_cons_self, n, by omega, rfl⟩⟩
   ·rw [if_neg hx]
    obtain ⟨o, h1, h2⟩ := ih (n + 1) (by omega) (by omega)
    refine ⟨o, h1, ?_⟩
    simp only [List.mem_cons, hx, false_or]
    exact h2
  ·rw [if_neg (by omega), drop_end hlt]
   exact ⟨_, rfl, .inl ⟨by simp, rfl⟩⟩
theorem contains_eq (K : Nat) (l : List Int) (x : Int) (hl : l.length ≤ 30) (hK : 5001 ≤ K) : slices_Contains_72 K l x = some (decide (x ∈ l)) := by
 unfold slices_Contains_72 slices_Index_93
 obtain ⟨o, h1, h2⟩ := idx93 K l x hl K 0 (by omega) (by omega)
 rw [show ((0 : Nat) : Int) = 0 from rfl] at h1
 rw [h1]
 simp only [List.drop_zero] at h2
 rcases h2 with ⟨ha, rfl⟩ | ⟨ha, i, hi, rfl⟩
 ·simp [obind, ha]
 ·simp [obind, ha, hi]
def castL (l : List Nat) : List Int := l.map (fun (j : Nat) => (j : Int))
theorem others_l9 (K : Nat) (g : group_Group) (me : Int) (l : List Int) (hl : l.length ≤ 30) (hK : 5001 ≤ K) (hn : g.Replicas.length ≤ 9) (hu : g.Up.length = g.Replicas.length) : ∀ (c k m : Nat) (acc : List Int), m + c = g.Replicas.length → c < k → acc.length ≤ m →
  group_Group_others_v2.l9 K g me l k (m : Int) acc = some (acc ++ castL (fl (Pb g.Up me l) c m)) := by
 intro c
 induction c with
 | zero =>
  intro k m acc hm hk ha
  cases k with
  | zero => omega
  | succ k =>
   unfold group_Group_others_v2.l9
   rw [if_neg (by omega)]
   simp [fl, castL]
 | succ c ih =>
  intro k m acc hm hk ha
  cases k with
  | zero => omega
  | succ k =>
   unfold group_Group_others_v2.l9
   have q1 : (m : Int) < g.Replicas.length := by omega
   have q2 : (0 : Int) ≤ m ∧ (m : Int) < g.Up.length := by omega
   simp only [if_pos q1, if_pos q2]
   rw [Int.toNat_natCast, contains_eq K l m hl hK, wrap_succ (by omega)]
   simp only [Option.bind_some]
   have hlen : ((acc.length + ([(m : Int)] : List Int).length) * 8 ≤ 140737488355328) := by simp; omega
   simp only [if_pos hlen]
   rw [ih k (m + 1) acc (by omega) (by omega) (by omega), ih k (m + 1) (acc ++ [(m : Int)]) (by omega) (by omega) (by simp; omega)]
   rw [show fl (Pb g.Up me l) (c + 1) m = if Pb g.Up me l m = true then m :: fl (Pb g.Up me l) c (m + 1) else fl (Pb g.Up me l) c (m + 1) from rfl]
   by_cases h1 : (m : Int) ≠ me
   ·rw [if_pos h1]
    by_cases h2 : g.Up.getD m false = true
    ·rw [if_pos h2]
     by_cases h3 : (m : Int) ∈ l
     ·have hb : Pb g.Up me l m = true := by unfold Pb; rw [h2, decide_eq_true h1, decide_eq_true h3]; rfl
      rw [if_pos hb, decide_eq_true h3]
      simp [castL]
     ·have hb : Pb g.Up me l m = false := by unfold Pb; rw [decide_eq_false h3, Bool.and_false, Bool.and_false]
      rw [hb, decide_eq_false h3]
      rfl
    ·simp only [Bool.not_eq_true] at h2
     have hb : Pb g.Up me l m = false := by unfold Pb; rw [h2, Bool.false_and]
     rw [hb, h2]
     rfl
   ·rw [if_neg h1]
    have hb : Pb g.Up me l m = false := by unfold Pb; rw [decide_eq_false h1, Bool.false_and, Bool.and_false]
    rw [hb]
    rfl
theorem others2_eq (K : Nat) (g : group_Group) (me : Int) (l : List Int) (hl : l.length ≤ 30) (hK : 5001 ≤ K) (hn : g.Replicas.length ≤ 9) (hu : g.Up.length = g.Replicas.length) :
  group_Group_others_v2 K g me l = some (castL (fl (Pb g.Up me l) g.Replicas.length 0)) := by
 unfold group_Group_others_v2
 have h := others_l9 K g me l hl hK hn hu g.Replicas.length K 0 [] (by omega) (by omega) (by simp)
 rw [show ((0 : Nat) : Int) = 0 from rfl] at h
 rw [h]
 simp
theorem others_eqG (K : Nat) (g : group_Group) (me : Int) (l : List Int) (hl : l.length ≤ 30) (hK : 5001 ≤ K) (hn : g.Replicas.length ≤ 9) (hu : g.Up.length = g.Replicas.length) :
  group_Group_others K g me l = some (castL (fl (Pb g.Up me l) g.Replicas.length 0)) := by
 have h : ∀ k a b, group_Group_others.l9 K g me l k a b = group_Group_others_v2.l9 K g me l k a b := by
  intro k
  induction k with
  | zero => intro a b; rfl
  | succ k ih => intro a b; unfold group_Group_others.l9 group_Group_others_v2.l9; simp only [ih]
 have h2 := others2_eq K g me l hl hK hn hu
 unfold group_Group_others_v2 at h2
 unfold group_Group_others
 simp only [h]
 exact h2
def inL (U : List Bool) (me : Int) (l : List Int) (n : Nat) : List Bool := (List.range n).map (Pb U me l)
theorem inL_len (U : List Bool) (me : Int) (l : List Int) (n : Nat) : (inL U me l n).length = n := by simp [inL]
theorem inL_get (U : List Bool) (me : Int) (l : List Int) (n j : Nat) (h : j < n) : (inL U me l n).getD j false = Pb U me l j := by
 simp [inL, List.getD_eq_getElem?_getD, h]
theorem partakes_l9 (K : Nat) (f : wr55_Group) (me : Int) (l : List Int) (hl : l.length ≤ 30) (hu : f.Up.length = f.Replicas.length) (hm : l.all (memB · f.Replicas.length) = true) : ∀ (k n : Nat), l.length - n < k → n ≤ l.length →
  wr55_partakes.l9 K f me l k (n : Int) (inL f.Up me (l.take n) f.Replicas.length) = some (inL f.Up me l f.Replicas.length) := by
 intro k
 induction k with
 | zero => intro n h; omega
 | succ k ih =>
  intro n h hn
  unfold wr55_partakes.l9
  by_cases hlt : n < l.length
  ·have hmem : memB (l.getD n (0 : Int)) f.Replicas.length = true := List.all_eq_true.1 hm _ (getD_mem hlt _)
   have hx : 0 ≤ l.getD n (0 : Int) ∧ l.getD n (0 : Int) < (f.Replicas.length : Int) := of_decide_eq_true hmem
   generalize hxx : l.getD n (0 : Int) = x at *
   have q1 : (n : Int) < l.length := by omega
   have q2 : (0 : Int) ≤ n ∧ (n : Int) < l.length := by omega
   have q3 : (0 : Int) ≤ x ∧ x < (f.Up.length : Int) := by omega
   have q4 : x < ((inL f.Up me (l.take n) f.Replicas.length).length : Int) := by rw [inL_len]; exact hx.2
   have q5 : x.toNat < (inL f.Up me (l.take n) f.Replicas.length).length := by rw [inL_len]; omega
   simp only [if_pos q1, if_pos q2, Int.toNat_natCast, hxx, if_pos q3, if_pos q4, if_pos q5]
   rw [wrap_succ (by omega)]
   have htake : l.take (n + 1) = l.take n ++ [x] := by
    rw [List.take_succ_eq_append_getElem hlt, ← hxx]
    simp [List.getD_eq_getElem?_getD, hlt]
   have key : ∀ b : Bool, b = (f.Up.getD x.toNat false && decide (x ≠ me)) → (inL f.Up me (l.take n) f.Replicas.length).set x.toNat b = inL f.Up me (l.take (n + 1)) f.Replicas.length := by
    intro b hb
    apply List.ext_getElem
    ·simp [inL]
    ·intro j h1 h2
     have hj : j < f.Replicas.length := by simpa [inL] using h2
     rw [List.getElem_set]
     simp only [inL, List.getElem_map, List.getElem_range]
     rw [htake]
     by_cases hjx : x.toNat = j
     ·rw [if_pos hjx]
      have hxj : (j : Int) = x := by omega
      subst hjx
      simp [Pb, hb, hxj]
     ·rw [if_neg hjx]
      have hxj : (j : Int) ≠ x := by omega
      simp [Pb, hxj]
   by_cases hup : f.Up.getD x.toNat false = true
   ·rw [if_pos hup, key _ (by rw [hup, Bool.true_and])]
    exact ih (n + 1) (by omega) (by omega)
   ·rw [if_neg hup]
    simp only [Bool.not_eq_true] at hup
    rw [key _ (by rw [hup, Bool.false_and])]
    exact ih (n + 1) (by omega) (by omega)
  ·rw [if_neg (by omega), List.take_of_length_le (by omega)]
theorem partakes_eq (K : Nat) (f : wr55_Group) (me : Int) (l : List Int) (hl : l.length ≤ 30) (hK : 5001 ≤ K) (hn : f.Replicas.length ≤ 9) (hu : f.Up.length = f.Replicas.length) (hm : l.all (memB · f.Replicas.length) = true) :
  wr55_partakes K f me l = some (inL f.Up me l f.Replicas.length) := by
 unfold wr55_partakes
 rw [if_pos (by omega)]
 have h := partakes_l9 K f me l hl hu hm K 0 (by omega) (by omega)
 rw [show ((0 : Nat) : Int) = 0 from rfl] at h
 have e : inL f.Up me (l.take 0) f.Replicas.length = List.replicate (Int.toNat (f.Replicas.length : Int)) false := by
  apply List.ext_getElem
  ·simp [inL]
  ·intro j h1 h2
   simp [inL, Pb]
 rw [e] at h
 rw [h]
 rfl
theorem copied_l9 (K : Nat) (r : aRep) (hf : Fit r) : ∀ (k n : Nat), r.Log.length - n < k → n ≤ r.Log.length →
  group_copied.l9 K r k (n : Int) r.Log = some r.Log := by
 obtain ⟨hl, hd⟩ := hf
 intro k
 induction k with
 | zero => intro n h; omega
 | succ k ih =>
  intro n h hn
  unfold group_copied.l9
  by_cases hlt : n < r.Log.length
  ·rw [if_pos (by omega), if_pos (by omega), Int.toNat_natCast, if_pos hlt, wrap_succ (by omega), Clone_eq _ _ (hd _ (getD_mem hlt _))]
   simp only [Option.bind_some]
   have e0 : r.Log.getD n z_aEnt = r.Log[n] := by simp [List.getD_eq_getElem?_getD, hlt]
   rw [e0]
   have e1 : r.Log.set n (⟨r.Log[n].Epoch, r.Log[n].Data⟩ : aEnt) = r.Log := List.set_getElem_self hlt
   rw [e1]
   exact ih (n + 1) (by omega) (by omega)
  ·rw [if_neg (by omega)]
theorem copied_eq (K : Nat) (r : aRep) (hf : Fit r) (hK : 5001 ≤ K) : group_copied K r = some r := by
 unfold group_copied
 have h := copied_l9 K r hf K 0 (by have := hf.1; omega) (by omega)
 rw [show ((0 : Nat) : Int) = 0 from rfl] at h
 rw [if_pos (by have := hf.1; omega), h]
 rfl
theorem clone2_l9 (K : Nat) (g : group_Group) (hn : g.Replicas.length ≤ 9) (hf : ∀ r ∈ g.Replicas, Fit r) (hK : 5001 ≤ K) : ∀ (k n : Nat), g.Replicas.length - n < k → n ≤ g.Replicas.length →
  group_Group_clone_v2.l9 K g k (n : Int) g.Replicas = some g.Replicas := by
 intro k
 induction k with
 | zero => intro n h; omega
 | succ k ih =>
  intro n h hnn
  unfold group_Group_clone_v2.l9
  by_cases hlt : n < g.Replicas.length
  ·rw [if_pos (by omega), if_pos (by omega), Int.toNat_natCast, if_pos hlt, wrap_succ (by omega), copied_eq K _ (hf _ (getD_mem hlt _)) hK]
   simp only [Option.bind_some]
   have e0 : g.Replicas.getD n z_aRep = g.Replicas[n] := by simp [List.getD_eq_getElem?_getD, hlt]
   rw [e0, List.set_getElem_self hlt]
   exact ih (n + 1) (by omega) (by omega)
  ·rw [if_neg (by omega)]
theorem clone2_eq (K : Nat) (g : group_Group) (hn : g.Replicas.length ≤ 9) (hu : g.Up.length ≤ 9) (hf : ∀ r ∈ g.Replicas, Fit r) (hK : 5001 ≤ K) : group_Group_clone_v2 K g = some (g.Up, g.Replicas) := by
 unfold group_Group_clone_v2 slices_Clone_61
 have h := clone2_l9 K g hn hf hK K 0 (by omega) (by omega)
 rw [show ((0 : Nat) : Int) = 0 from rfl] at h
 rw [if_pos (by omega), if_pos (by omega)]
 simp only [Option.bind_some]
 rw [h]
 rfl
theorem clone3_eq (K : Nat) (g : group_Group) (hn : g.Replicas.length ≤ 9) (hu : g.Up.length ≤ 9) (hf : ∀ r ∈ g.Replicas, Fit r) (hK : 5001 ≤ K) : group_Group_clone_v3 K g = some (g.Replicas, g.Up) := by
 have h : ∀ k a b, group_Group_clone_v3.l9 K g k a b = group_Group_clone_v2.l9 K g k a b := by
  intro k
  induction k with
  | zero => intro a b; rfl
  | succ k ih => intro a b; unfold group_Group_clone_v3.l9 group_Group_clone_v2.l9; simp only [ih]
 unfold group_Group_clone_v3
 have h2 := clone2_l9 K g hn hf hK K 0 (by omega) (by omega)
 rw [show ((0 : Nat) : Int) = 0 from rfl] at h2
 rw [if_pos (by omega), if_pos (by omega), h, h2]
 rfl
theorem cloned2_eq (K : Nat) (f : wr55_Group) (hn : f.Replicas.length ≤ 9) (hu : f.Up.length ≤ 9) : wr55_cloned_v2 K f = some (f.Up, f.Replicas) := by
 unfold wr55_cloned_v2
 rw [if_pos (by omega), if_pos (by omega)]
theorem cloned3_eq (K : Nat) (f : wr55_Group) (hn : f.Replicas.length ≤ 9) (hu : f.Up.length ≤ 9) : wr55_cloned_v3 K f = some (f.Replicas, f.Up) := by
 unfold wr55_cloned_v3
 rw [if_pos (by omega), if_pos (by omega)]
structure Both (x : group_Group × Int) (y : wr55_Group × Int) : Prop where
 r : x.1.Replicas = y.1.Replicas
 u : x.1.Up = y.1.Up
 l : x.1.Leader = y.1.Leader
 e : x.1.Epoch = y.1.Epoch
 err : x.2 = y.2
 n : x.1.Replicas.length ≤ 9
 nu : x.1.Up.length ≤ 9
 fit : ∀ r ∈ x.1.Replicas, Fit r
theorem Both.zero (e : Int) : Both (⟨[], [], 0, 0⟩, e) (⟨[], [], 0, 0⟩, e) := ⟨rfl, rfl, rfl, rfl, rfl, by simp, by simp, by simp⟩
theorem Both.mk' {R : List aRep} {U : List Bool} {l e err : Int} (hn : R.length ≤ 9) (hu : U.length ≤ 9) (hf : ∀ r ∈ R, Fit r) : Both (⟨R, U, l, e⟩, err) (⟨R, U, l, e⟩, err) := ⟨rfl, rfl, rfl, rfl, rfl, hn, hu, hf⟩
def PowerOf (R : List aRep) (U : List Bool) (ld ep : Int) (x : group_Group × Int) : Prop := x.2 ≠ 0 ∨ (x.2 = 0 ∧ x.1.Replicas = R ∧ x.1.Up.length = U.length ∧ x.1.Epoch = ep ∧ (x.1.Leader = ld ∨ x.1.Leader = -1))
theorem power_both (K : Nat) (R : List aRep) (U : List Bool) (ld ep i : Int) (up : Bool) (hK : 5001 ≤ K) : ∃ x y, group_power K ⟨R, U, ld, ep⟩ i up = some x ∧ wr55_turned K ⟨R, U, ld, ep⟩ i up = some y ∧ Both x y ∧ PowerOf R U ld ep x := by
 unfold group_power wr55_turned
 rw [formed_eq K _ hK, rRightG_eq K _ hK]
 simp only [Option.bind_some]
 cases ho : okG R U ld ep with
 | false => exact ⟨_, _, rfl, rfl, .zero _, .inl (by show (2 : Int) ≠ 0; omega)⟩
 | true =>
  obtain ⟨hs, hr⟩ := okG_spec ho
  simp only [if_true]
  rw [member_eqG, rmember_eqG]
  simp only [Option.bind_some]
  cases hm : memB i R.length with
  | false => exact ⟨_, _, rfl, rfl, .zero _, .inl (by show (2 : Int) ≠ 0; omega)⟩
  | true =>
   have hi : 0 ≤ i ∧ i < (R.length : Int) := of_decide_eq_true hm
   have q : (0 : Int) ≤ i ∧ i < (U.length : Int) := by omega
   simp only [if_true, if_pos q]
   rw [clone3_eq K _ (by show R.length ≤ 9; omega) (by show U.length ≤ 9; omega) (fun r h => rightB_fit (hr r h)) hK, cloned3_eq K _ (by show R.length ≤ 9; omega) (by show U.length ≤ 9; omega)]
   simp only [Option.bind_some]
   have q2 : i.toNat < U.length := by omega
   simp only [if_pos q.2, if_pos q2]
   have hfit : ∀ r ∈ R, Fit r := fun r h => rightB_fit (hr r h)
   have hus : (U.set i.toNat up).length ≤ 9 := by rw [List.length_set]; omega
   split
   ·exact ⟨_, _, rfl, rfl, .zero _, .inl (by show (16 : Int) ≠ 0; omega)⟩
   ·split
    ·exact ⟨_, _, rfl, rfl, .mk' (by omega) hus hfit, .inr ⟨rfl, rfl, by simp, rfl, .inl rfl⟩⟩
    ·split
     ·exact ⟨_, _, rfl, rfl, .mk' (by omega) hus hfit, .inr ⟨rfl, rfl, by simp, rfl, .inr rfl⟩⟩
     ·exact ⟨_, _, rfl, rfl, .mk' (by omega) hus hfit, .inr ⟨rfl, rfl, by simp, rfl, .inl rfl⟩⟩
end Go.Proofs.YtmafcdkdcfaajaaGreat
