/- Logs, replicas and what is said of them. -/
import Derived.Test.YtmafcdkdcfaajaaGreatFn4
set_option linter.unusedVariables false
set_option linter.unusedSimpArgs false
namespace Go.Proofs.YtmafcdkdcfaajaaGreat
open Eng
theorem in_eq (K : Nat) (a b c : Int) : replog_in K a b c = some (decide (b ≤ a ∧ a ≤ c)) := by
 unfold replog_in
 split
 ·rename_i h; congr 1; simp; omega
 ·rename_i h; congr 1; simp; omega
theorem rin_eq (K : Nat) (a b c : Int) : wr52_in K a b c = some (decide (b ≤ a ∧ a ≤ c)) := by
 unfold wr52_in
 split
 ·rename_i h; congr 1; simp; omega
 ·rename_i h; congr 1; simp; omega
def riseL : List aEnt → Int → Option Int
 | [], lo => some lo
 | e :: es, lo => if e.Epoch < (if (1 : Int) > lo then 1 else lo) then none else if (e.Data.length : Int) > 65536 then none else riseL es e.Epoch
theorem rising_l7 (K : Nat) (xs : List aEnt) (hx : xs.length < 9223372036854775807) : ∀ (k n : Nat) (lo : Int), xs.length - n < k → n ≤ xs.length →
  replog_rising.l7 K xs k lo (n : Int) = some (match riseL (xs.drop n) lo with | none => Out.done false | some m => Out.go m) := by
 intro k
 induction k with
 | zero => intro n lo h; omega
 | succ k ih =>
  intro n lo h hn
  unfold replog_rising.l7
  by_cases hlt : n < xs.length
  ·rw [if_pos (by omega), if_pos (by omega), Int.toNat_natCast, wrap_succ (by omega), ih (n + 1) _ (by omega) (by omega), drop_step hlt z_aEnt]
   simp only [riseL]
   generalize xs.getD n z_aEnt = e
   by_cases h1 : e.Epoch < (if (1 : Int) > lo then 1 else lo)
   ·rw [if_pos h1, if_pos h1]
   ·rw [if_neg h1, if_neg h1]
    by_cases h2 : (e.Data.length : Int) > 65536
    ·rw [if_pos h2, if_pos h2]
    ·rw [if_neg h2, if_neg h2]
  ·rw [if_neg (by omega), drop_end hlt]
   rfl
theorem rising_eq (K : Nat) (xs : List aEnt) (lo top : Int) (hx : xs.length < 9223372036854775807) (hK : xs.length < K) :
  replog_rising K xs lo top = some (match riseL xs lo with | none => false | some m => decide (m ≤ top)) := by
 unfold replog_rising
 rw [show (0 : Int) = ((0 : Nat) : Int) from rfl, rising_l7 K xs hx K 0 lo (by omega) (by omega)]
 simp only [List.drop_zero]
 cases riseL xs lo <;> rfl
def okL : List aEnt → Int → Int → Bool
 | [], _, _ => true
 | e :: es, lo, top => decide (lo ≤ e.Epoch ∧ e.Epoch ≤ top) && (decide (e.Data.length ≤ 65536) && okL es e.Epoch top)
theorem right_l17 (K : Nat) (r : aRep) (hx : r.Log.length < 9223372036854775807) : ∀ (k n : Nat) (lo : Int), r.Log.length - n < k → n ≤ r.Log.length →
  wr52_Right.l17 K r k lo (n : Int) = some (if okL (r.Log.drop n) lo r.Epoch = true then Out.go () else Out.done false) := by
 intro k
 induction k with
 | zero => intro n lo h; omega
 | succ k ih =>
  intro n lo h hn
  unfold wr52_Right.l17
  by_cases hlt : n < r.Log.length
  ·rw [if_pos (by omega), if_pos (by omega), Int.toNat_natCast, wrap_succ (by omega), ih (n + 1) _ (by omega) (by omega), drop_step hlt z_aEnt]
   simp only [okL, rin_eq, Option.bind_some]
   generalize r.Log.getD n z_aEnt = e
   by_cases h1 : lo ≤ e.Epoch ∧ e.Epoch ≤ r.Epoch
   ·by_cases h2 : e.Data.length ≤ 65536
    ·rw [if_pos (by simpa using h1), if_neg (by omega)]
     simp [h1, h2]
    ·rw [if_pos (by simpa using h1), if_pos (by omega)]
     simp [h2]
   ·rw [if_neg (by simpa using h1)]
    simp only [h1, decide_false, Bool.false_and, Bool.false_eq_true, if_false]
  ·rw [if_neg (by omega), drop_end hlt]
   rfl
theorem riseL_le {xs : List aEnt} : ∀ {lo m : Int}, riseL xs lo = some m → lo ≤ m := by
 induction xs with
 | nil => intro lo m h; cases h; exact Int.le_refl _
 | cons e es ih =>
  intro lo m h
  unfold riseL at h
  by_cases h1 : e.Epoch < (if (1 : Int) > lo then 1 else lo)
  ·rw [if_pos h1] at h; cases h
  ·rw [if_neg h1] at h
   by_cases h2 : (e.Data.length : Int) > 65536
   ·rw [if_pos h2] at h; cases h
   ·rw [if_neg h2] at h
    have := ih h
    split at h1 <;> omega
theorem okL_rise {xs : List aEnt} : ∀ {lo top : Int}, lo ≤ top → okL xs (if (1 : Int) > lo then 1 else lo) top = (match riseL xs lo with | none => false | some m => decide (m ≤ top)) := by
 induction xs with
 | nil => intro lo top h; simp [okL, riseL, h]
 | cons e es ih =>
  intro lo top h
  unfold riseL okL
  by_cases h1 : e.Epoch < (if (1 : Int) > lo then 1 else lo)
  ·rw [if_pos h1]
   simp only [show ¬ ((if (1 : Int) > lo then 1 else lo) ≤ e.Epoch ∧ e.Epoch ≤ top) from by omega, decide_false, Bool.false_and]
  ·rw [if_neg h1]
   by_cases h2 : (e.Data.length : Int) > 65536
   ·rw [if_pos h2]
    simp only [show ¬ (e.Data.length ≤ 65536) from by omega, decide_false, Bool.false_and, Bool.and_false]
   ·rw [if_neg h2]
    have he : ¬ (1 : Int) > e.Epoch := by split at h1 <;> omega
    by_cases h3 : e.Epoch ≤ top
    ·have := ih (lo := e.Epoch) (top := top) h3
     rw [if_neg he] at this
     rw [← this]
     simp only [show ((if (1 : Int) > lo then 1 else lo) ≤ e.Epoch ∧ e.Epoch ≤ top) from ⟨by omega, h3⟩, decide_true, and_self, Bool.true_and, show (e.Data.length ≤ 65536) from by omega]
    ·simp only [show ¬ ((if (1 : Int) > lo then 1 else lo) ≤ e.Epoch ∧ e.Epoch ≤ top) from by omega, decide_false, Bool.false_and]
     cases hr : riseL es e.Epoch with
     | none => rfl
     | some m => have := riseL_le hr; simp; omega
def rightB (r : aRep) : Bool :=
 decide (0 ≤ r.Epoch ∧ r.Epoch ≤ 1099511627776) && (decide (-1 ≤ r.Vote ∧ r.Vote ≤ 8) && (decide (r.Log.length ≤ 5000) && (decide (0 ≤ r.Commit ∧ r.Commit ≤ r.Log.length) && okL r.Log 1 r.Epoch)))
theorem rRight_eq (K : Nat) (r : aRep) (hK : 5001 ≤ K) : wr52_Right K r = some (rightB r) := by
 unfold wr52_Right rightB
 simp only [rin_eq, Option.bind_some]
 by_cases h1 : 0 ≤ r.Epoch ∧ r.Epoch ≤ 1099511627776
 ·by_cases h2 : -1 ≤ r.Vote ∧ r.Vote ≤ 8
  ·by_cases h3 : r.Log.length ≤ 5000
   ·by_cases h4 : 0 ≤ r.Commit ∧ r.Commit ≤ r.Log.length
    ·rw [if_pos (by simpa using h1), if_pos (by simpa using h2), if_neg (by omega), if_pos (by simpa using h4), show (0 : Int) = ((0 : Nat) : Int) from rfl, right_l17 K r (by omega) K 0 1 (by omega) (by omega)]
     simp only [h1, h2, h3, h4, decide_true, Bool.true_and, List.drop_zero]
     cases okL r.Log 1 r.Epoch <;> simp [obind, h1, h4]
    ·rw [if_pos (by simpa using h1), if_pos (by simpa using h2), if_neg (by omega), if_neg (by simpa using h4)]
     simp only [h1, h2, h3, h4, and_self, decide_true, decide_false, Bool.true_and, Bool.false_and]
   ·rw [if_pos (by simpa using h1), if_pos (by simpa using h2), if_pos (by omega)]
    simp only [h1, h2, h3, and_self, decide_true, decide_false, Bool.true_and, Bool.false_and]
  ·rw [if_pos (by simpa using h1), if_neg (by simpa using h2)]
   simp only [h1, h2, and_self, decide_true, decide_false, Bool.true_and, Bool.false_and]
 ·rw [if_neg (by simpa using h1)]
  simp only [h1, decide_false, Bool.false_and]
theorem Right_eq (K : Nat) (r : aRep) (hK : 5001 ≤ K) : replog_Right K r = some (rightB r) := by
 unfold replog_Right rightB
 simp only [in_eq, Option.bind_some]
 by_cases h1 : 0 ≤ r.Epoch ∧ r.Epoch ≤ 1099511627776
 ·by_cases h2 : -1 ≤ r.Vote ∧ r.Vote ≤ 8
  ·by_cases h3 : r.Log.length ≤ 5000
   ·by_cases h4 : 0 ≤ r.Commit ∧ r.Commit ≤ r.Log.length
    ·rw [if_pos (by simpa using h1), if_pos (by simpa using h2), if_pos (by omega), if_pos (by simpa using h4), rising_eq K r.Log 0 r.Epoch (by omega) (by omega)]
     have := okL_rise (xs := r.Log) (lo := 0) (top := r.Epoch) h1.1
     rw [if_pos (by omega)] at this
     rw [← this]
     simp only [h1, h2, h3, h4, decide_true, Bool.true_and, Option.bind_some, and_self]
    ·rw [if_pos (by simpa using h1), if_pos (by simpa using h2), if_pos (by omega), if_neg (by simpa using h4)]
     simp only [h1, h2, h3, h4, and_self, decide_true, decide_false, Bool.true_and, Bool.false_and]
   ·rw [if_pos (by simpa using h1), if_pos (by simpa using h2), if_neg (by omega)]
    simp only [h1, h2, h3, and_self, decide_true, decide_false, Bool.true_and, Bool.false_and]
  ·rw [if_pos (by simpa using h1), if_neg (by simpa using h2)]
   simp only [h1, h2, and_self, decide_true, decide_false, Bool.true_and, Bool.false_and]
 ·rw [if_neg (by simpa using h1)]
  simp only [h1, decide_false, Bool.false_and]
theorem Clone_eq (K : Nat) (l : List UInt8) (h : l.length ≤ 65536) : bytes_Clone_59 K l = some l := by
 unfold bytes_Clone_59
 rw [if_pos (by omega)]
theorem okL_data {xs : List aEnt} : ∀ {lo top : Int}, okL xs lo top = true → ∀ x ∈ xs, x.Data.length ≤ 65536 := by
 induction xs with
 | nil => intro lo top _ x hx; cases hx
 | cons e es ih =>
  intro lo top h x hx
  unfold okL at h
  simp only [Bool.and_eq_true, decide_eq_true_eq] at h
  rcases List.mem_cons.1 hx with rfl | hx
  ·exact h.2.1
  ·exact ih h.2.2 x hx
def Fit (r : aRep) : Prop := r.Log.length ≤ 5000 ∧ ∀ x ∈ r.Log, x.Data.length ≤ 65536
theorem rightB_fit {r : aRep} (h : rightB r = true) : Fit r := by
 unfold rightB at h
 simp only [Bool.and_eq_true, decide_eq_true_eq] at h
 exact ⟨h.2.2.1, okL_data h.2.2.2.2⟩
theorem replica_l9 (K : Nat) (r : aRep) (hf : Fit r) : ∀ (k n : Nat), r.Log.length - n < k → n ≤ r.Log.length →
  ballot_replica.l9 K r k (n : Int) (r.Log.take n) = some r.Log := by
 obtain ⟨hl, hd⟩ := hf
 intro k
 induction k with
 | zero => intro n h; omega
 | succ k ih =>
  intro n h hn
  unfold ballot_replica.l9
  by_cases hlt : n < r.Log.length
  ·rw [if_pos (by omega), if_pos (by omega), Int.toNat_natCast, wrap_succ (by omega)]
   have hm := getD_mem hlt z_aEnt
   rw [Clone_eq _ _ (hd _ hm)]
   simp only [Option.bind_some]
   rw [if_pos (by simp; omega)]
   have e : r.Log.take n ++ [(⟨(r.Log.getD n z_aEnt).Epoch, (r.Log.getD n z_aEnt).Data⟩ : aEnt)] = r.Log.take (n + 1) := by
    have e0 : r.Log.getD n z_aEnt = r.Log[n] := by simp [List.getD_eq_getElem?_getD, hlt]
    rw [e0]
    exact (List.take_succ_eq_append_getElem hlt).symm
   rw [e]
   exact ih (n + 1) (by omega) (by omega)
  ·rw [if_neg (by omega), List.take_of_length_le (by omega)]
theorem replica_eq (K : Nat) (r : aRep) (hf : Fit r) (hK : 5001 ≤ K) : ballot_replica K r = some r := by
 unfold ballot_replica
 have := replica_l9 K r hf K 0 (by have := hf.1; omega) (by omega)
 simp only [List.take_zero] at this
 rw [show (0 : Int) = ((0 : Nat) : Int) from rfl, this]
 rfl
theorem Observe_eq (K : Nat) (r : aRep) (e : Int) (hf : Fit r) (hK : 5001 ≤ K) : ballot_Observe K r e = wr54_Observe K r e := by
 unfold ballot_Observe wr54_Observe
 rw [replica_eq K r hf hK]
 rfl
def obs (r : aRep) (e : Int) : aRep := if e > r.Epoch then ⟨e, -1, r.Commit, r.Log⟩ else r
theorem rObserve_eq (K : Nat) (r : aRep) (e : Int) : wr54_Observe K r e = some (obs r e) := by
 unfold wr54_Observe obs
 split <;> rfl
theorem obs_log (r : aRep) (e : Int) : (obs r e).Log = r.Log := by unfold obs; split <;> rfl
theorem cand_eq (K : Nat) (c : Int) : ballot_candidate K c = some (decide (0 ≤ c ∧ c < 9)) := by
 unfold ballot_candidate
 split
 ·rename_i h; congr 1; simp; omega
 ·rename_i h; congr 1; simp; omega
theorem member_eq (K : Nat) (c : Int) : wr54_member K c = some (decide (0 ≤ c ∧ c < 9)) := by
 unfold wr54_member
 split
 ·rename_i h; congr 1; simp; omega
 ·rename_i h; congr 1; simp; omega
def lastE (r : aRep) : Int := match r.Log.getLast? with | some x => x.Epoch | none => 0
theorem rLast_eq (K : Nat) (r : aRep) (hl : r.Log.length < 9223372036854775807) : wr52_Last K r = some ((r.Log.length : Int), lastE r) := by
 unfold wr52_Last lastE
 by_cases h : r.Log.length = 0
 ·rw [if_pos (by omega), List.length_eq_zero_iff.1 h]
  rfl
 ·rw [if_neg (by omega), Eng.wrap_small (by omega) (by omega), if_pos (by omega)]
  have : Int.toNat ((r.Log.length : Int) - 1) = r.Log.length - 1 := by omega
  rw [this, List.getLast?_eq_getElem?, List.getD_eq_getElem?_getD, List.getElem?_eq_getElem (by omega)]
  rfl
theorem Last_eq (K : Nat) (r : aRep) (hl : r.Log.length < 9223372036854775807) : replog_Last K r = some ((r.Log.length : Int), lastE r) := rLast_eq K r hl
theorem Agree_l15 (K : Nat) (a : aEnt) (hx : a.Data.length < 9223372036854775807) : ∀ (k n : Nat), a.Data.length - n < k → n ≤ a.Data.length →
  wr52_Agree.l15 K a a k (n : Int) = some (Out.go ()) := by
 intro k
 induction k with
 | zero => intro n h; omega
 | succ k ih =>
  intro n h hn
  unfold wr52_Agree.l15
  by_cases hlt : n < a.Data.length
  ·rw [if_pos (by omega), if_pos (by omega), if_pos (by omega), if_neg (by simp), wrap_succ (by omega)]
   exact ih (n + 1) (by omega) (by omega)
  ·rw [if_neg (by omega)]
theorem Agree_self (K : Nat) (a : aEnt) (hx : a.Data.length ≤ 65536) (hK : 65537 ≤ K) : wr52_Agree K a a = some true := by
 unfold wr52_Agree
 rw [if_neg (by simp), if_neg (by simp), show (0 : Int) = ((0 : Nat) : Int) from rfl, Agree_l15 K a (by omega) K 0 (by omega) (by omega)]
 rfl
theorem Common_l7 (K : Nat) (a b : aRep) (hab : a.Log = b.Log) (hf : Fit a) (hK : 65537 ≤ K) : ∀ (k n : Nat), a.Log.length - n < k → n ≤ a.Log.length →
  wr52_Common.l7 K a b k (n : Int) = some (a.Log.length : Int) := by
 obtain ⟨hl, hd⟩ := hf
 intro k
 induction k with
 | zero => intro n h; omega
 | succ k ih =>
  intro n h hn
  unfold wr52_Common.l7
  rw [← hab]
  by_cases hlt : n < a.Log.length
  ·rw [if_pos (by omega), if_pos (by omega), if_pos (by omega), if_pos (by omega), Int.toNat_natCast, Agree_self K _ (hd _ (getD_mem hlt _)) hK]
   simp only [Option.bind_some, if_true]
   rw [wrap_succ (by omega)]
   exact ih (n + 1) (by omega) (by omega)
  ·rw [if_neg (by omega)]
   congr 1
   omega
theorem Same_self (K : Nat) (a : aRep) (hf : Fit a) (hK : 65537 ≤ K) : wr52_Same K a a = some true := by
 unfold wr52_Same wr52_Common
 rw [if_pos rfl, if_pos rfl, if_pos rfl, if_pos rfl, show (0 : Int) = ((0 : Nat) : Int) from rfl, Common_l7 K a a rfl hf hK K 0 (by have := hf.1; omega) (by omega)]
 simp
theorem ballot_Newer_eq (K : Nat) (a b c d : Int) : ballot_Newer K a b c d = some (decide (b > d ∨ (b = d ∧ a ≥ c))) := by
 unfold ballot_Newer
 split
 ·rename_i h; congr 1; simp; omega
 ·rename_i h; congr 1; simp at h; simp [h]
theorem ref_Newer_eq (K : Nat) (a b c d : Int) : wr54_Newer K a b c d = some (decide (b > d ∨ (b = d ∧ a ≥ c))) := by
 unfold wr54_Newer
 split
 ·rename_i h; simp [h]
 ·rename_i h
  split
  ·rename_i h2; simp [h2]
  ·rename_i h2; simp [h, h2]
def askB (r : aRep) (e c li le : Int) : aRep × Bool × Int :=
 if rightB r = true ∧ 1 ≤ e ∧ e ≤ 1099511627776 ∧ (0 ≤ c ∧ c < 9) ∧ 0 ≤ li ∧ 0 ≤ le then
  if e < r.Epoch then (⟨0, 0, 0, []⟩, false, 25)
  else if ((obs r e).Vote = -1 ∨ (obs r e).Vote = c) ∧ (le > lastE r ∨ (le = lastE r ∧ li ≥ r.Log.length)) then (⟨(obs r e).Epoch, c, r.Commit, r.Log⟩, true, 0)
  else (obs r e, false, 0)
 else (⟨0, 0, 0, []⟩, false, 2)
theorem obs_commit (r : aRep) (e : Int) : (obs r e).Commit = r.Commit := by unfold obs; split <;> rfl
theorem lastE_obs (r : aRep) (e : Int) : lastE (obs r e) = lastE r := by unfold lastE; rw [obs_log]
theorem rAsk_eq (K : Nat) (r : aRep) (e c li le : Int) (hK : 5001 ≤ K) : wr54_Ask K r e c li le = some (askB r e c li le) := by
 unfold wr54_Ask askB
 rw [rRight_eq K r hK]
 simp only [Option.bind_some]
 by_cases h0 : rightB r = true
 ·have hf := rightB_fit h0
  rw [if_pos h0]
  by_cases h1 : e < 1
  ·rw [if_pos h1, if_neg (by omega)]
  rw [if_neg h1]
  by_cases h2 : e > 1099511627776
  ·rw [if_pos h2, if_neg (by omega)]
  rw [if_neg h2, member_eq]
  simp only [Option.bind_some, decide_eq_true_eq]
  by_cases h3 : 0 ≤ c ∧ c < 9
  ·rw [if_pos h3]
   by_cases h4 : li < 0
   ·rw [if_pos h4, if_neg (by omega)]
   rw [if_neg h4]
   by_cases h5 : le < 0
   ·rw [if_pos h5, if_neg (by omega)]
   rw [if_neg h5, if_pos (show rightB r = true ∧ 1 ≤ e ∧ e ≤ 1099511627776 ∧ (0 ≤ c ∧ c < 9) ∧ 0 ≤ li ∧ 0 ≤ le from ⟨h0, by omega, by omega, h3, by omega, by omega⟩)]
   by_cases h6 : e < r.Epoch
   ·rw [if_pos h6, if_pos h6]
   rw [if_neg h6, if_neg h6, rObserve_eq]
   simp only [Option.bind_some]
   rw [rLast_eq K _ (by rw [obs_log]; have := hf.1; omega), obs_log, lastE_obs, obs_commit]
   simp only [Option.bind_some, ref_Newer_eq, decide_eq_true_eq]
   by_cases h7 : (obs r e).Vote = -1
   ·rw [if_neg (by simpa using h7)]
    by_cases h8 : le > lastE r ∨ (le = lastE r ∧ li ≥ r.Log.length)
    ·rw [if_pos h8, if_pos ⟨.inl h7, h8⟩]
    ·rw [if_neg h8, if_neg (fun h => h8 h.2)]
   ·rw [if_pos h7]
    by_cases h9 : (obs r e).Vote = c
    ·rw [if_neg (by simpa using h9)]
     by_cases h8 : le > lastE r ∨ (le = lastE r ∧ li ≥ r.Log.length)
     ·rw [if_pos h8, if_pos ⟨.inr h9, h8⟩]
     ·rw [if_neg h8, if_neg (fun h => h8 h.2)]
    ·rw [if_pos h9, if_neg (fun h => by rcases h.1 with h | h <;> contradiction)]
  ·rw [if_neg h3, if_neg (fun h => h3 h.2.2.2.1)]
 ·rw [if_neg h0, if_neg (fun h => h0 h.1)]
theorem Ask_eq (K : Nat) (r : aRep) (e c li le : Int) (hK : 5001 ≤ K) : ballot_Ask K r e c li le = some (askB r e c li le) := by
 rw [← rAsk_eq K r e c li le hK]
 unfold ballot_Ask wr54_Ask
 rw [rRight_eq K r hK, Right_eq K r hK]
 simp only [Option.bind_some, cand_eq, member_eq, ballot_Newer_eq, ref_Newer_eq]
 by_cases h0 : rightB r = true
 ·have hf := rightB_fit h0
  rw [Observe_eq K r e hf hK]
  rfl
 ·rw [if_neg h0, if_neg h0]
theorem askB_fit {r : aRep} (e c li le : Int) : Fit (askB r e c li le).1 := by
 unfold askB
 split
 ·rename_i h
  have hf := rightB_fit h.1
  split
  ·exact ⟨by simp, by simp⟩
  ·split
   ·exact hf
   ·unfold Fit; rw [obs_log]; exact hf
 ·exact ⟨by simp, by simp⟩
def standB (r : aRep) (me : Int) : aRep × Int :=
 if rightB r = true ∧ 0 ≤ me ∧ me < 9 then
  if r.Epoch ≥ 1099511627776 then (⟨0, 0, 0, []⟩, 19) else (⟨IntKind.i64.wrap (r.Epoch + 1), me, r.Commit, r.Log⟩, 0)
 else (⟨0, 0, 0, []⟩, 2)
theorem rStand_eq (K : Nat) (r : aRep) (me : Int) (hK : 5001 ≤ K) : wr54_Stand K r me = some (standB r me) := by
 unfold wr54_Stand standB
 rw [rRight_eq K r hK]
 simp only [Option.bind_some, member_eq, decide_eq_true_eq]
 by_cases h0 : rightB r = true
 ·by_cases h1 : 0 ≤ me ∧ me < 9
  ·rw [if_pos h0, if_pos h1, if_pos (show rightB r = true ∧ 0 ≤ me ∧ me < 9 from ⟨h0, h1⟩)]
   by_cases h2 : r.Epoch ≥ 1099511627776
   ·rw [if_pos h2, if_pos h2]
   ·rw [if_neg h2, if_neg h2]
  ·rw [if_pos h0, if_neg h1, if_neg (fun h => h1 h.2)]
 ·rw [if_neg h0, if_neg (fun h => h0 h.1)]
theorem Stand_eq (K : Nat) (r : aRep) (me : Int) (hK : 5001 ≤ K) : ballot_Stand K r me = some (standB r me) := by
 rw [← rStand_eq K r me hK]
 unfold ballot_Stand wr54_Stand
 rw [rRight_eq K r hK, Right_eq K r hK]
 simp only [Option.bind_some, cand_eq, member_eq]
 by_cases h0 : rightB r = true
 ·rw [if_pos h0, if_pos h0, replica_eq K r (rightB_fit h0) hK]
  rfl
 ·rw [if_neg h0, if_neg h0]
theorem standB_fit (r : aRep) (me : Int) : Fit (standB r me).1 := by
 unfold standB
 split
 ·rename_i h
  split
  ·exact ⟨by simp, by simp⟩
  ·exact (show Fit r from rightB_fit h.1)
 ·exact ⟨by simp, by simp⟩
theorem entries_l9 (K : Nat) (xs : List aEnt) (hl : xs.length ≤ 100000) (hd : ∀ x ∈ xs, x.Data.length ≤ 65536) : ∀ (k n : Nat), xs.length - n < k → n ≤ xs.length →
  replog_entries.l9 K xs k (n : Int) xs = some xs := by
 intro k
 induction k with
 | zero => intro n h; omega
 | succ k ih =>
  intro n h hn
  unfold replog_entries.l9
  by_cases hlt : n < xs.length
  ·rw [if_pos (by omega), if_pos (by omega), Int.toNat_natCast, if_pos hlt, wrap_succ (by omega), Clone_eq _ _ (hd _ (getD_mem hlt _))]
   simp only [Option.bind_some]
   have e0 : xs.getD n z_aEnt = xs[n] := by simp [List.getD_eq_getElem?_getD, hlt]
   rw [e0]
   have e1 : xs.set n (⟨xs[n].Epoch, xs[n].Data⟩ : aEnt) = xs := List.set_getElem_self hlt
   rw [e1]
   exact ih (n + 1) (by omega) (by omega)
  ·rw [if_neg (by omega)]
theorem entries_eq (K : Nat) (xs : List aEnt) (hl : xs.length ≤ 100000) (hd : ∀ x ∈ xs, x.Data.length ≤ 65536) (hK : xs.length < K) : replog_entries K xs = some xs := by
 unfold replog_entries
 rw [if_pos (by omega)]
 rw [show (0 : Int) = ((0 : Nat) : Int) from rfl, entries_l9 K xs hl hd K 0 (by omega) (by omega)]
 rfl
theorem entries2_eq (K : Nat) (xs : List aEnt) (hl : xs.length ≤ 100000) (hd : ∀ x ∈ xs, x.Data.length ≤ 65536) (hK : xs.length < K) : replog_entries_v2 K xs = some xs := by
 have h : ∀ k a ys, replog_entries_v2.l9 K xs k a ys = replog_entries.l9 K xs k a ys := by
  intro k
  induction k with
  | zero => intro a ys; rfl
  | succ k ih => intro a ys; unfold replog_entries_v2.l9 replog_entries.l9; simp only [ih]
 have h2 := entries_eq K xs hl hd hK
 unfold replog_entries at h2
 unfold replog_entries_v2
 simp only [h]
 exact h2
def leadB (r : aRep) (e : Int) (d : List UInt8) : aRep × Int :=
 if rightB r = true ∧ 1 ≤ e then
  if d.length > 65536 then (⟨0, 0, 0, []⟩, 6) else if e ≠ r.Epoch then (⟨0, 0, 0, []⟩, 25) else if r.Log.length ≥ 5000 then (⟨0, 0, 0, []⟩, 18)
  else (⟨r.Epoch, r.Vote, r.Commit, r.Log ++ [⟨e, d⟩]⟩, 0)
 else (⟨0, 0, 0, []⟩, 2)
theorem rLead_eq (K : Nat) (r : aRep) (e : Int) (d : List UInt8) (hK : 5001 ≤ K) : wr52_Lead K r e d = some (leadB r e d) := by
 unfold wr52_Lead leadB
 rw [rRight_eq K r hK]
 simp only [Option.bind_some]
 by_cases h0 : rightB r = true
 ·rw [if_pos h0]
  by_cases h1 : e < 1
  ·rw [if_pos h1, if_neg (by omega)]
  rw [if_neg h1, if_pos (show rightB r = true ∧ 1 ≤ e from ⟨h0, by omega⟩)]
  by_cases h2 : d.length > 65536
  ·rw [if_pos (by omega), if_pos h2]
  rw [if_neg (by omega), if_neg h2]
  by_cases h3 : e ≠ r.Epoch
  ·rw [if_pos h3, if_pos h3]
  rw [if_neg h3, if_neg h3]
  by_cases h4 : r.Log.length ≥ 5000
  ·rw [if_pos (by omega), if_pos h4]
  rw [if_neg (by omega), if_neg h4, if_pos (by omega), if_pos (by simp; omega)]
 ·rw [if_neg h0, if_neg (fun h => h0 h.1)]
theorem Lead_eq (K : Nat) (r : aRep) (e : Int) (d : List UInt8) (hK : 5001 ≤ K) : replog_Lead K r e d = some (leadB r e d) := by
 unfold replog_Lead leadB
 rw [Right_eq K r hK]
 simp only [Option.bind_some]
 by_cases h0 : rightB r = true
 ·have hf := rightB_fit h0
  rw [if_pos h0]
  simp only [Option.bind_some]
  by_cases h1 : e < 1
  ·rw [if_pos (by simpa using h1), if_neg (by omega)]
  rw [if_neg (by simpa using h1), if_pos (show rightB r = true ∧ 1 ≤ e from ⟨h0, by omega⟩)]
  by_cases h2 : d.length > 65536
  ·rw [if_pos (by omega), if_pos h2]
  rw [if_neg (by omega), if_neg h2]
  by_cases h3 : e ≠ r.Epoch
  ·rw [if_pos h3, if_pos h3]
  rw [if_neg h3, if_neg h3]
  by_cases h4 : r.Log.length ≥ 5000
  ·rw [if_pos (by omega), if_pos h4]
  rw [if_neg (by omega), if_neg h4, entries2_eq K r.Log (by omega) hf.2 (by omega), Clone_eq K d (by omega)]
  simp only [Option.bind_some]
  rw [if_pos (by simp; omega)]
 ·rw [if_neg h0]
  simp only [Option.bind_some, if_true]
  rw [if_neg (fun h => h0 h.1)]
theorem leadB_fit (r : aRep) (e : Int) (d : List UInt8) : Fit (leadB r e d).1 := by
 unfold leadB
 split
 ·rename_i h
  have hf := rightB_fit h.1
  split
  ·exact ⟨by simp, by simp⟩
  ·split
   ·exact ⟨by simp, by simp⟩
   ·split
    ·exact ⟨by simp, by simp⟩
    ·refine ⟨by simp; omega, fun x hx => ?_⟩
     simp only [List.mem_append, List.mem_singleton] at hx
     rcases hx with hx | rfl
     ·exact hf.2 x hx
     ·show d.length ≤ 65536; omega
 ·exact ⟨by simp, by simp⟩
theorem rightB_iff {r : aRep} : rightB r = true ↔ (0 ≤ r.Epoch ∧ r.Epoch ≤ 1099511627776) ∧ (-1 ≤ r.Vote ∧ r.Vote ≤ 8) ∧ r.Log.length ≤ 5000 ∧ (0 ≤ r.Commit ∧ r.Commit ≤ r.Log.length) ∧ okL r.Log 1 r.Epoch = true := by
 unfold rightB
 simp only [Bool.and_eq_true, decide_eq_true_eq]
instance : DecidableEq aEnt := fun a b =>
 if h : a.Epoch = b.Epoch ∧ a.Data = b.Data then isTrue (by cases a; cases b; simp_all) else isFalse (fun e => h (by subst e; exact ⟨rfl, rfl⟩))
theorem entry_ext {a b : aEnt} : a = b ↔ a.Epoch = b.Epoch ∧ a.Data = b.Data := by
 constructor
 ·rintro rfl; exact ⟨rfl, rfl⟩
 ·intro h; cases a; cases b; simp_all
theorem agree_eq (K : Nat) (a b : aEnt) : replog_agree K a b = some (decide (a = b)) := by
 unfold replog_agree bytes_Equal
 by_cases h : a.Epoch = b.Epoch
 ·rw [if_pos h]
  simp only [Option.bind_some, List.map_id']
  congr 1
  simp only [decide_eq_decide, entry_ext, h, true_and]
 ·rw [if_neg h]
  congr 1
  symm
  simp only [decide_eq_false_iff_not]
  intro e
  exact h (by rw [e])
theorem Agree_l15' (K : Nat) (a b : aEnt) (hab : a.Data.length = b.Data.length) (hx : a.Data.length < 9223372036854775807) : ∀ (k n : Nat), a.Data.length - n < k → n ≤ a.Data.length →
  wr52_Agree.l15 K a b k (n : Int) = some (if a.Data.drop n = b.Data.drop n then Out.go () else Out.done false) := by
 intro k
 induction k with
 | zero => intro n h; omega
 | succ k ih =>
  intro n h hn
  unfold wr52_Agree.l15
  by_cases hlt : n < a.Data.length
  ·rw [if_pos (by omega), if_pos (by omega), if_pos (by omega), Int.toNat_natCast, wrap_succ (by omega), ih (n + 1) (by omega) (by omega), drop_step hlt (0 : UInt8), drop_step (xs := b.Data) (n := n) (by omega) (0 : UInt8)]
   by_cases he : a.Data.getD n (0 : UInt8) = b.Data.getD n (0 : UInt8)
   ·rw [if_neg (by rw [he]; simp)]
    simp only [he, List.cons.injEq, true_and]
   ·rw [if_pos (by intro e; exact he (UInt8.toNat_inj.1 (by omega)))]
    simp only [List.cons.injEq, he, false_and, if_false]
  ·rw [if_neg (by omega), drop_end hlt, drop_end (xs := b.Data) (by omega)]
   rfl
theorem Agree_eq (K : Nat) (a b : aEnt) (hx : a.Data.length < 9223372036854775807) (hK : a.Data.length < K) : wr52_Agree K a b = some (decide (a = b)) := by
 unfold wr52_Agree
 by_cases h : a.Epoch = b.Epoch
 ·rw [if_neg (by simpa using h)]
  by_cases h2 : a.Data.length = b.Data.length
  ·rw [if_neg (by omega), show (0 : Int) = ((0 : Nat) : Int) from rfl, Agree_l15' K a b h2 hx K 0 (by omega) (by omega)]
   simp only [List.drop_zero]
   by_cases h3 : a.Data = b.Data
   ·rw [if_pos h3, show a = b from entry_ext.2 ⟨h, h3⟩]
    simp [obind]
   ·rw [if_neg h3]
    have : ¬ a = b := fun e => h3 (by rw [e])
    simp [obind, this]
  ·rw [if_pos (by omega)]
   have : ¬ a = b := fun e => h2 (by rw [e])
   simp [this]
 ·rw [if_pos (by simpa using h)]
  have : ¬ a = b := fun e => h (by rw [e])
  simp [this]
def common : List aEnt → List aEnt → Nat
 | x :: xs, y :: ys => if x = y then common xs ys + 1 else 0
 | _, _ => 0
theorem common_le : ∀ (xs ys : List aEnt), common xs ys ≤ xs.length ∧ common xs ys ≤ ys.length
 | [], ys => by simp [common]
 | x :: xs, [] => by simp [common]
 | x :: xs, y :: ys => by
  have := common_le xs ys
  unfold common
  split <;> simp <;> omega
theorem common_take : ∀ (xs ys : List aEnt), xs.take (common xs ys) = ys.take (common xs ys)
 | [], ys => by simp [common]
 | x :: xs, [] => by simp [common]
 | x :: xs, y :: ys => by
  have := common_take xs ys
  unfold common
  split
  ·rename_i h; subst h; simpa using this
  ·rfl
theorem risingref_l7 (K : Nat) (xs : List aEnt) (hx : xs.length < 9223372036854775807) : ∀ (k n : Nat) (lo : Int), xs.length - n < k → n ≤ xs.length →
  wr52_rising.l7 K xs k lo (n : Int) = some (match riseL (xs.drop n) lo with | none => Out.done false | some m => Out.go m) := by
 intro k
 induction k with
 | zero => intro n lo h; omega
 | succ k ih =>
  intro n lo h hn
  unfold wr52_rising.l7
  by_cases hlt : n < xs.length
  ·rw [if_pos (by omega), if_pos (by omega), Int.toNat_natCast, wrap_succ (by omega), ih (n + 1) _ (by omega) (by omega), drop_step hlt z_aEnt]
   simp only [riseL]
   generalize xs.getD n z_aEnt = e
   by_cases h1 : e.Epoch < (if (1 : Int) > lo then 1 else lo)
   ·rw [if_pos h1]
    by_cases h2 : e.Epoch < lo
    ·rw [if_pos h2]
    ·rw [if_neg h2, if_pos (by split at h1 <;> omega)]
   ·rw [if_neg h1, if_neg (by split at h1 <;> omega), if_neg (by split at h1 <;> omega)]
    by_cases h2 : (e.Data.length : Int) > 65536
    ·rw [if_pos h2, if_pos h2]
    ·rw [if_neg h2, if_neg h2]
  ·rw [if_neg (by omega), drop_end hlt]
   rfl
def risingB (xs : List aEnt) (lo top : Int) : Bool := match riseL xs lo with | none => false | some m => decide (m ≤ top)
theorem risingref_eq (K : Nat) (xs : List aEnt) (lo top : Int) (hx : xs.length < 9223372036854775807) (hK : xs.length < K) :
  wr52_rising K lo top xs = some (risingB xs lo top) := by
 unfold wr52_rising risingB
 rw [show (0 : Int) = ((0 : Nat) : Int) from rfl, risingref_l7 K xs hx K 0 lo (by omega) (by omega)]
 simp only [List.drop_zero]
 cases riseL xs lo <;> rfl
theorem riseL_data {xs : List aEnt} : ∀ {lo m : Int}, riseL xs lo = some m → ∀ x ∈ xs, x.Data.length ≤ 65536 := by
 induction xs with
 | nil => intro lo m _ x hx; cases hx
 | cons e es ih =>
  intro lo m h x hx
  unfold riseL at h
  by_cases h1 : e.Epoch < (if (1 : Int) > lo then 1 else lo)
  ·rw [if_pos h1] at h; cases h
  ·rw [if_neg h1] at h
   by_cases h2 : (e.Data.length : Int) > 65536
   ·rw [if_pos h2] at h; cases h
   ·rw [if_neg h2] at h
    rcases List.mem_cons.1 hx with rfl | hx
    ·omega
    ·exact ih h x hx
theorem risingB_data {xs : List aEnt} {lo top : Int} (h : risingB xs lo top = true) : ∀ x ∈ xs, x.Data.length ≤ 65536 := by
 unfold risingB at h
 split at h
 ·cases h
 ·rename_i h1; exact riseL_data h1
def suitsB (r : aRep) (e p pe : Int) (es : List aEnt) (c : Int) : Bool :=
 rightB r && (decide (1 ≤ e ∧ e ≤ 1099511627776) && (decide (0 ≤ p ∧ p ≤ 5000) && (decide (pe ≥ 0) && ((decide (p = 0) == decide (pe = 0)) && (decide (c ≥ 0) && risingB es pe e)))))
theorem suits_eq (K : Nat) (r : aRep) (e p pe : Int) (es : List aEnt) (c : Int) (hK : 5001 ≤ K) (hx : es.length < 9223372036854775807) (hK2 : es.length < K) : replog_suits K r e p pe es c = some (suitsB r e p pe es c) := by
 unfold replog_suits suitsB
 rw [Right_eq K r hK]
 simp only [in_eq, Option.bind_some]
 cases rightB r with
 | false => rfl
 | true =>
  by_cases h1 : 1 ≤ e ∧ e ≤ 1099511627776
  ·by_cases h2 : 0 ≤ p ∧ p ≤ 5000
   ·by_cases h3 : pe ≥ 0
    ·by_cases h4 : (decide (p = 0) == decide (pe = 0)) = true
     ·by_cases h5 : c ≥ 0
      ·rw [if_pos rfl, if_pos (by simpa using h1), if_pos (by simpa using h2), if_pos h3, if_pos h4, if_pos h5, rising_eq K es pe e hx hK2]
       simp only [h1, h2, h3, h4, h5, and_self, decide_true, Bool.true_and, Option.bind_some]
       rfl
      ·rw [if_pos rfl, if_pos (by simpa using h1), if_pos (by simpa using h2), if_pos h3, if_pos h4, if_neg h5]
       simp only [h1, h2, h3, h4, h5, and_self, decide_true, decide_false, Bool.true_and, Bool.false_and]
     ·rw [if_pos rfl, if_pos (by simpa using h1), if_pos (by simpa using h2), if_pos h3, if_neg h4]
      simp only [Bool.not_eq_true] at h4
      simp only [h1, h2, h3, h4, and_self, decide_true, decide_false, Bool.true_and, Bool.false_and]
    ·rw [if_pos rfl, if_pos (by simpa using h1), if_pos (by simpa using h2), if_neg h3]
     simp only [h1, h2, h3, and_self, decide_true, decide_false, Bool.true_and, Bool.false_and]
   ·rw [if_pos rfl, if_pos (by simpa using h1), if_neg (by simpa using h2)]
    simp only [h1, h2, and_self, decide_true, decide_false, Bool.true_and, Bool.false_and]
  ·rw [if_pos rfl, if_neg (by simpa using h1)]
   simp only [h1, decide_false, Bool.true_and, Bool.false_and]
theorem accept_l28 (K : Nat) (r : aRep) (p : Nat) (es : List aEnt) (hp : p ≤ 5000) (hl : r.Log.length ≤ 5000) (hx : es.length < 9223372036854770000) : ∀ (k n : Nat), es.length - n < k → n ≤ es.length →
  replog_Accept.l28 K r (p : Int) es k (n : Int) = some ((n + common (es.drop n) (r.Log.drop (p + n)) : Nat) : Int) := by
 intro k
 induction k with
 | zero => intro n h; omega
 | succ k ih =>
  intro n h hn
  unfold replog_Accept.l28
  by_cases hlt : n < es.length
  ·have hw : IntKind.i64.wrap ((p : Int) + (n : Int)) = ((p + n : Nat) : Int) := by rw [Eng.wrap_small (by omega) (by omega)]; omega
   rw [if_pos (by omega), hw]
   by_cases hlt2 : p + n < r.Log.length
   ·rw [if_pos (by omega), if_pos (by omega), if_pos (by omega), Int.toNat_natCast, Int.toNat_natCast, wrap_succ (by omega), ih (n + 1) (by omega) (by omega), agree_eq, drop_step hlt z_aEnt, drop_step hlt2 z_aEnt]
    simp only [Option.bind_some, common, decide_eq_true_eq]
    by_cases he : es.getD n z_aEnt = r.Log.getD (p + n) z_aEnt
    ·rw [if_pos he, if_pos he]
     congr 2
     rw [show p + (n + 1) = p + n + 1 from by omega]
     omega
    ·rw [if_neg he, if_neg he]
     congr 2
   ·rw [if_neg (by omega), drop_end hlt2]
    congr 2
    cases es.drop n <;> simp [common]
  ·rw [if_neg (by omega), drop_end hlt]
   congr 2
def missR (a b : Nat) (cm : Int) (p n c : Nat) (f : Bool) : Out (aRep × Int) Bool :=
 if n + c < a ∧ p + n + c < b then (if ((p + n + c : Nat) : Int) < cm then Out.done ((⟨0, 0, 0, []⟩ : aRep), 16) else Out.go false) else Out.go f
theorem accept_l33 (K : Nat) (r : aRep) (p : Nat) (es : List aEnt) (hp : p ≤ 5000) (hl : r.Log.length ≤ 5000) (hd : ∀ x ∈ r.Log, x.Data.length ≤ 65536) (hK : 65537 ≤ K) (hx : es.length < 9223372036854770000) : ∀ (k n : Nat) (f : Bool), es.length - n < k → n ≤ es.length →
  wr52_Accept.l33 K r (p : Int) es k f (n : Int) = some (missR es.length r.Log.length r.Commit p n (common (es.drop n) (r.Log.drop (p + n))) f) := by
 intro k
 induction k with
 | zero => intro n f h; omega
 | succ k ih =>
  intro n f h hn
  unfold wr52_Accept.l33
  by_cases hlt : n < es.length
  ·have hw : IntKind.i64.wrap ((p : Int) + (n : Int)) = ((p + n : Nat) : Int) := by rw [Eng.wrap_small (by omega) (by omega)]; omega
   rw [if_pos (by omega), hw]
   by_cases hlt2 : p + n < r.Log.length
   ·rw [if_pos (by omega), if_pos (by omega), if_pos (by omega), Int.toNat_natCast, Int.toNat_natCast, wrap_succ (by omega), ih (n + 1) f (by omega) (by omega), ih (n + 1) false (by omega) (by omega),
     Agree_eq K _ _ (by have := hd _ (getD_mem hlt2 z_aEnt); omega) (by have := hd _ (getD_mem hlt2 z_aEnt); omega),
     drop_step hlt z_aEnt, drop_step hlt2 z_aEnt]
    simp only [Option.bind_some, common, decide_eq_true_eq]
    rw [show p + (n + 1) = p + n + 1 from by omega]
    generalize common (es.drop (n + 1)) (r.Log.drop (p + n + 1)) = c
    by_cases he : r.Log.getD (p + n) z_aEnt = es.getD n z_aEnt
    ·rw [if_pos he, if_pos he.symm]
     unfold missR
     rw [show n + 1 + c = n + (c + 1) from by omega, show p + (n + 1) + c = p + n + (c + 1) from by omega]
    ·have he2 : ¬ es.getD n z_aEnt = r.Log.getD (p + n) z_aEnt := fun e => he e.symm
     rw [if_neg he, if_neg he2]
     unfold missR
     rw [if_pos (show n + 0 < es.length ∧ p + n + 0 < r.Log.length from ⟨hlt, hlt2⟩)]
     by_cases hc : ((p + n : Nat) : Int) < r.Commit
     ·rw [if_pos hc, if_pos (show ((p + n + 0 : Nat) : Int) < r.Commit from hc)]
     ·rw [if_neg hc, if_neg (show ¬ ((p + n + 0 : Nat) : Int) < r.Commit from hc)]
      congr 1
      split
      ·rw [if_neg (by omega)]
      ·rfl
   ·rw [if_neg (by omega), drop_end hlt2]
    congr 1
    unfold missR
    rw [if_neg]
    rintro ⟨_, h2⟩
    omega
  ·rw [if_neg (by omega)]
   congr 1
   unfold missR
   rw [if_neg]
   rintro ⟨h1, _⟩
   omega
def logB (l es : List aEnt) (q : Nat) : List aEnt :=
 if common es (l.drop q) < es.length ∧ q + common es (l.drop q) < l.length then l.take q ++ es else l ++ es.drop (common es (l.drop q))
theorem logB_ref {l es : List aEnt} {q : Nat} (hq : q ≤ l.length) (h : ¬ (common es (l.drop q) < es.length ∧ q + common es (l.drop q) < l.length)) :
  (l.length > q + es.length → (l.take q ++ es) ++ l.drop (q + es.length) = logB l es q) ∧ (¬ l.length > q + es.length → l.take q ++ es = logB l es q) := by
 unfold logB
 rw [if_neg h]
 have h1 := common_le es (l.drop q)
 have h2 := common_take es (l.drop q)
 rw [List.length_drop] at h1
 generalize hc : common es (l.drop q) = c at *
 refine ⟨fun hg => ?_, fun hg => ?_⟩
 ·have e : c = es.length := by omega
  rw [e] at h2 ⊢
  rw [List.take_length] at h2
  rw [List.drop_length, List.append_nil]
  have h3 : l.drop q = es ++ (l.drop q).drop es.length := by
   conv => lhs; rw [← List.take_append_drop es.length (l.drop q)]
   rw [← h2]
  rw [List.append_assoc, ← List.drop_drop, ← h3, List.take_append_drop]
 ·have e : c = l.length - q := by omega
  have e2 : es.take c = l.drop q := by rw [h2, e]; exact List.take_of_length_le (by rw [List.length_drop]; omega)
  conv => lhs; rw [← List.take_append_drop c es, e2, ← List.append_assoc, List.take_append_drop]
def commB (r : aRep) (p cm : Int) (n : Nat) : Int :=
 let m := if p + (n : Int) < cm then p + (n : Int) else cm
 if m > r.Commit then m else r.Commit
def acceptB (r : aRep) (e p pe : Int) (es : List aEnt) (cm : Int) : aRep × Int :=
 if suitsB r e p pe es cm = true then
  if e < r.Epoch then (⟨0, 0, 0, []⟩, 25)
  else if (r.Log.length : Int) < p then (⟨0, 0, 0, []⟩, 26)
  else if p > 0 ∧ (r.Log.getD (Int.toNat (p - 1)) z_aEnt).Epoch ≠ pe then (⟨0, 0, 0, []⟩, 26)
  else if (common es (r.Log.drop p.toNat) < es.length ∧ p.toNat + common es (r.Log.drop p.toNat) < r.Log.length) ∧ ((p.toNat + common es (r.Log.drop p.toNat) : Nat) : Int) < r.Commit then (⟨0, 0, 0, []⟩, 16)
  else if (es.length : Int) > 5000 - p then (⟨0, 0, 0, []⟩, 18)
  else (⟨e, if e > r.Epoch then -1 else r.Vote, commB r p cm es.length, logB r.Log es p.toNat⟩, 0)
 else (⟨0, 0, 0, []⟩, 2)
theorem suitsB_iff {r : aRep} {e p pe : Int} {es : List aEnt} {c : Int} : suitsB r e p pe es c = true ↔
  rightB r = true ∧ (1 ≤ e ∧ e ≤ 1099511627776) ∧ (0 ≤ p ∧ p ≤ 5000) ∧ pe ≥ 0 ∧ (decide (p = 0) == decide (pe = 0)) = true ∧ c ≥ 0 ∧ risingB es pe e = true := by
 unfold suitsB
 simp only [Bool.and_eq_true, decide_eq_true_eq]
theorem slc_take {α : Type} (l : List α) (p : Int) : slc l 0 p = l.take p.toNat := by simp [slc]
theorem slc_drop {α : Type} (l : List α) (p : Int) (h : 0 ≤ p) : slc l p (l.length : Int) = l.drop p.toNat := by
 unfold slc
 exact List.take_of_length_le (by rw [List.length_drop]; omega)
theorem Accept_eq (K : Nat) (r : aRep) (e p pe : Int) (es : List aEnt) (cm : Int) (hK : 70000 ≤ K) (hx : es.length ≤ 60000) : replog_Accept K r e p pe es cm = some (acceptB r e p pe es cm) := by
 unfold replog_Accept acceptB
 rw [suits_eq K r e p pe es cm (by omega) (by omega) (by omega)]
 simp only [Option.bind_some]
 by_cases h0 : suitsB r e p pe es cm = true
 ·rw [if_pos h0, if_pos h0]
  obtain ⟨hr, he, hp, hpe, hpp, hcm, hri⟩ := suitsB_iff.1 h0
  have hf := rightB_fit hr
  have hfl : r.Log.length ≤ 5000 := hf.1
  have hes := risingB_data hri
  by_cases h1 : e < r.Epoch
  ·rw [if_pos h1, if_pos h1]; rfl
  rw [if_neg h1, if_neg h1]
  by_cases h2 : (r.Log.length : Int) < p
  ·rw [if_pos h2, if_pos h2]; rfl
  rw [if_neg h2, if_neg h2]
  have hbody : (if p > 0 then (if (0 : Int) ≤ (IntKind.i64.wrap (p - 1)) ∧ ((IntKind.i64.wrap (p - 1)) : Int) < (r.Log.length : Int) then (if ((r.Log.getD (Int.toNat ((IntKind.i64.wrap (p - 1)))) z_aEnt)).Epoch ≠ pe then some (Out.done (((⟨0, 0, 0, ([] : List aEnt)⟩ : aRep), 26))) else some (Out.go ())) else none) else some (Out.go ()) : Option (Out (aRep × Int) Unit)) =
    some (if p > 0 ∧ (r.Log.getD (Int.toNat (p - 1)) z_aEnt).Epoch ≠ pe then Out.done (((⟨0, 0, 0, ([] : List aEnt)⟩ : aRep), 26)) else Out.go ()) := by
   by_cases h3 : p > 0
   ·rw [if_pos h3, Eng.wrap_small (by omega) (by omega), if_pos (by omega)]
    by_cases h4 : (r.Log.getD (Int.toNat (p - 1)) z_aEnt).Epoch ≠ pe
    ·rw [if_pos h4, if_pos ⟨h3, h4⟩]
    ·rw [if_neg h4, if_neg (fun h => h4 h.2)]
   ·rw [if_neg h3, if_neg (fun h => h3 h.1)]
  rw [hbody]
  by_cases h3 : p > 0 ∧ (r.Log.getD (Int.toNat (p - 1)) z_aEnt).Epoch ≠ pe
  ·rw [if_pos h3, if_pos h3]; rfl
  rw [if_neg h3, if_neg h3]
  simp only [obind]
  obtain ⟨q, rfl⟩ : ∃ q : Nat, p = (q : Int) := ⟨p.toNat, by omega⟩
  have h28 := accept_l28 K r q es (by omega) hf.1 (by omega) K 0 (by omega) (by omega)
  rw [show ((0 : Nat) : Int) = 0 from rfl] at h28
  rw [h28]
  simp only [Option.bind_some, List.drop_zero, Nat.zero_add, Nat.add_zero, Int.toNat_natCast]
  have hcl := common_le es (r.Log.drop q)
  rw [List.length_drop] at hcl
  generalize hc : common es (r.Log.drop q) = c at *
  have hw : IntKind.i64.wrap ((q : Int) + (c : Int)) = ((q + c : Nat) : Int) := by rw [Eng.wrap_small (by omega) (by omega)]; omega
  have hw2 : IntKind.i64.wrap ((q : Int) + (es.length : Int)) = (q : Int) + (es.length : Int) := by rw [Eng.wrap_small (by omega) (by omega)]
  have hw3 : IntKind.i64.wrap (5000 - (q : Int)) = 5000 - (q : Int) := by rw [Eng.wrap_small (by omega) (by omega)]
  rw [hw, hw2, hw3]
  have e1 : (if ((c : Nat) : Int) < (es.length : Int) then some (decide (((q + c : Nat) : Int) < (r.Log.length : Int))) else some false) = some (decide (c < es.length ∧ q + c < r.Log.length)) := by
   by_cases a : c < es.length
   ·rw [if_pos (by omega)]; congr 1; simp only [decide_eq_decide]; omega
   ·rw [if_neg (by omega)]; congr 1; simp [a]
  rw [e1]
  simp only [Option.bind_some, decide_eq_true_eq]
  have e2 : (if c < es.length ∧ q + c < r.Log.length then some (decide (((q + c : Nat) : Int) < r.Commit)) else some false) = some (decide ((c < es.length ∧ q + c < r.Log.length) ∧ ((q + c : Nat) : Int) < r.Commit)) := by
   by_cases a : c < es.length ∧ q + c < r.Log.length
   ·rw [if_pos a]; congr 1; simp only [decide_eq_decide]; exact ⟨fun h => ⟨a, h⟩, fun h => h.2⟩
   ·rw [if_neg a]; congr 1; simp only [a, false_and, decide_false]
  rw [e2]
  simp only [Option.bind_some, decide_eq_true_eq]
  by_cases h4 : (c < es.length ∧ q + c < r.Log.length) ∧ ((q + c : Nat) : Int) < r.Commit
  ·rw [if_pos h4, if_pos h4]
  rw [if_neg h4, if_neg h4]
  by_cases h5 : (es.length : Int) > 5000 - (q : Int)
  ·rw [if_pos h5, if_pos h5]
  rw [if_neg h5, if_neg h5]
  have e3 : (if e > r.Epoch then some (-1) else some r.Vote) = some (if e > r.Epoch then (-1 : Int) else r.Vote) := by split <;> rfl
  rw [e3]
  simp only [Option.bind_some, slc_take, Int.toNat_natCast]
  rw [slc_drop es (c : Int) (by omega)]
  simp only [Int.toNat_natCast, logB, hc, commB]
  by_cases a : c < es.length ∧ q + c < r.Log.length
  ·rw [if_pos a, if_pos a, if_pos (by omega), entries2_eq K (r.Log.take q) (by rw [List.length_take]; omega) (fun x hx => hf.2 x (List.mem_of_mem_take hx)) (by rw [List.length_take]; omega), entries_eq K es (by omega) hes (by omega)]
   simp only [Option.bind_some]
   rw [if_pos (by rw [List.length_take]; omega)]
  ·rw [if_neg a, if_neg a, entries2_eq K r.Log (by omega) hf.2 (by omega)]
   simp only [Option.bind_some]
   rw [if_pos (by omega), entries_eq K (es.drop c) (by rw [List.length_drop]; omega) (fun x hx => hes x (List.mem_of_mem_drop hx)) (by rw [List.length_drop]; omega)]
   simp only [Option.bind_some]
   rw [if_pos (by rw [List.length_drop]; omega)]
 ·rw [if_neg h0, if_neg h0]
  rfl
theorem rAccept_eq (K : Nat) (r : aRep) (e p pe : Int) (es : List aEnt) (cm : Int) (hK : 70000 ≤ K) (hx : es.length ≤ 60000) : wr52_Accept K r e p pe es cm = some (acceptB r e p pe es cm) := by
 unfold wr52_Accept acceptB
 rw [rRight_eq K r (by omega)]
 simp only [rin_eq, Option.bind_some, decide_eq_true_eq]
 rw [risingref_eq K es pe e (by omega) (by omega)]
 simp only [Option.bind_some]
 by_cases h0 : suitsB r e p pe es cm = true
 ·rw [if_pos h0]
  obtain ⟨hr, he, hp, hpe, hpp, hcm, hri⟩ := suitsB_iff.1 h0
  have hf := rightB_fit hr
  have hfl : r.Log.length ≤ 5000 := hf.1
  rw [if_pos hr, if_pos he, if_pos hp, if_neg (by omega), if_pos hpp, if_neg (by omega), if_pos hri]
  by_cases h1 : e < r.Epoch
  ·rw [if_pos h1, if_pos h1]
  rw [if_neg h1, if_neg h1]
  by_cases h2 : (r.Log.length : Int) < p
  ·rw [if_pos h2, if_pos h2]; rfl
  rw [if_neg h2, if_neg h2]
  have hbody : (if p > 0 then (if (0 : Int) ≤ (IntKind.i64.wrap (p - 1)) ∧ ((IntKind.i64.wrap (p - 1)) : Int) < (r.Log.length : Int) then (if ((r.Log.getD (Int.toNat ((IntKind.i64.wrap (p - 1)))) z_aEnt)).Epoch ≠ pe then some (Out.done (((⟨0, 0, 0, ([] : List aEnt)⟩ : aRep), 26))) else some (Out.go ())) else none) else some (Out.go ()) : Option (Out (aRep × Int) Unit)) =
    some (if p > 0 ∧ (r.Log.getD (Int.toNat (p - 1)) z_aEnt).Epoch ≠ pe then Out.done (((⟨0, 0, 0, ([] : List aEnt)⟩ : aRep), 26)) else Out.go ()) := by
   by_cases h3 : p > 0
   ·rw [if_pos h3, Eng.wrap_small (by omega) (by omega), if_pos (by omega)]
    by_cases h4 : (r.Log.getD (Int.toNat (p - 1)) z_aEnt).Epoch ≠ pe
    ·rw [if_pos h4, if_pos ⟨h3, h4⟩]
    ·rw [if_neg h4, if_neg (fun h => h4 h.2)]
   ·rw [if_neg h3, if_neg (fun h => h3 h.1)]
  rw [hbody]
  by_cases h3 : p > 0 ∧ (r.Log.getD (Int.toNat (p - 1)) z_aEnt).Epoch ≠ pe
  ·rw [if_pos h3, if_pos h3]; rfl
  rw [if_neg h3, if_neg h3]
  simp only [obind]
  obtain ⟨q, rfl⟩ : ∃ q : Nat, p = (q : Int) := ⟨p.toNat, by omega⟩
  have h33 := accept_l33 K r q es (by omega) hf.1 hf.2 (by omega) (by omega) K 0 true (by omega) (by omega)
  rw [show ((0 : Nat) : Int) = 0 from rfl] at h33
  rw [h33]
  simp only [List.drop_zero, Nat.add_zero, Int.toNat_natCast]
  have hlr := logB_ref (l := r.Log) (es := es) (q := q) (by omega)
  have hcl := common_le es (r.Log.drop q)
  rw [List.length_drop] at hcl
  have hlb : logB r.Log es q = if common es (r.Log.drop q) < es.length ∧ q + common es (r.Log.drop q) < r.Log.length then r.Log.take q ++ es else r.Log ++ es.drop (common es (r.Log.drop q)) := rfl
  generalize hc : common es (r.Log.drop q) = c at *
  have hw2 : IntKind.i64.wrap ((q : Int) + (es.length : Int)) = (q : Int) + (es.length : Int) := by rw [Eng.wrap_small (by omega) (by omega)]
  rw [hw2]
  have e3 : (if e > r.Epoch then some (-1) else some r.Vote) = some (if e > r.Epoch then (-1 : Int) else r.Vote) := by split <;> rfl
  have e4 : (if cm > (q : Int) + (es.length : Int) then some ((q : Int) + (es.length : Int)) else some cm) = some (if (q : Int) + (es.length : Int) < cm then (q : Int) + (es.length : Int) else cm) := by split <;> rfl
  by_cases a : c < es.length ∧ q + c < r.Log.length
  ·have em : missR es.length r.Log.length r.Commit q 0 c true = if ((q + c : Nat) : Int) < r.Commit then Out.done ((⟨0, 0, 0, []⟩ : aRep), 16) else Out.go false := by
    unfold missR
    rw [if_pos (show 0 + c < es.length ∧ q + 0 + c < r.Log.length from ⟨by omega, by omega⟩)]
    rfl
   rw [em]
   by_cases h4 : ((q + c : Nat) : Int) < r.Commit
   ·rw [if_pos h4, if_pos (show (c < es.length ∧ q + c < r.Log.length) ∧ ((q + c : Nat) : Int) < r.Commit from ⟨a, h4⟩)]
   rw [if_neg h4, if_neg (show ¬ ((c < es.length ∧ q + c < r.Log.length) ∧ ((q + c : Nat) : Int) < r.Commit) from fun h => h4 h.2)]
   simp only
   by_cases h5 : (es.length : Int) > 5000 - (q : Int)
   ·rw [if_pos (by omega), if_pos h5]
   rw [if_neg (by omega), if_neg h5, e3, e4]
   simp only [Option.bind_some, slc_take, Int.toNat_natCast, Bool.false_eq_true, if_false]
   rw [if_pos (by omega), if_pos (by rw [List.length_take]; omega), if_pos (by rw [List.length_take]; omega)]
   rw [hlb, if_pos a]
   unfold commB
   simp only
   generalize (if (q : Int) + (es.length : Int) < cm then (q : Int) + (es.length : Int) else cm) = m
   split <;> rfl
  ·have em : missR es.length r.Log.length r.Commit q 0 c true = Out.go true := by
    unfold missR
    rw [if_neg]
    intro h
    exact a ⟨by omega, by omega⟩
   rw [em, if_neg (show ¬ ((c < es.length ∧ q + c < r.Log.length) ∧ ((q + c : Nat) : Int) < r.Commit) from fun h => a h.1)]
   simp only
   by_cases h5 : (es.length : Int) > 5000 - (q : Int)
   ·rw [if_pos (by omega), if_pos h5]
   rw [if_neg (by omega), if_neg h5, e3, e4]
   simp only [Option.bind_some, slc_take, Int.toNat_natCast, if_true]
   rw [if_pos (by omega), if_pos (by rw [List.length_take]; omega), if_pos (by rw [List.length_take]; omega)]
   obtain ⟨l1, l2⟩ := hlr a
   have hfin : ∀ L : List aEnt, L = logB r.Log es q → (if (if (q : Int) + (es.length : Int) < cm then (q : Int) + (es.length : Int) else cm) > r.Commit then some (((⟨e, if e > r.Epoch then (-1 : Int) else r.Vote, if (q : Int) + (es.length : Int) < cm then (q : Int) + (es.length : Int) else cm, L⟩ : aRep), (0 : Int))) else some (((⟨e, if e > r.Epoch then (-1 : Int) else r.Vote, r.Commit, L⟩ : aRep), 0))) =
     some (⟨e, if e > r.Epoch then -1 else r.Vote, commB r (q : Int) cm es.length, logB r.Log es q⟩, 0) := by
    intro L hL
    rw [hL]
    unfold commB
    simp only
    generalize (if (q : Int) + (es.length : Int) < cm then (q : Int) + (es.length : Int) else cm) = m
    split <;> rfl
   by_cases h6 : (r.Log.length : Int) > (q : Int) + (es.length : Int)
   ·rw [if_pos (by simpa using h6), if_pos (by omega), slc_drop r.Log _ (by omega), show Int.toNat ((q : Int) + (es.length : Int)) = q + es.length from by omega, if_pos (by rw [List.length_append, List.length_take, List.length_drop]; omega)]
    simp only [Option.bind_some]
    exact hfin _ (l1 (by omega))
   ·rw [if_neg (by simpa using h6)]
    simp only [Option.bind_some]
    exact hfin _ (l2 (by omega))
 ·rw [if_neg h0]
  rw [suitsB_iff] at h0
  by_cases hr : rightB r = true
  ·rw [if_pos hr]
   by_cases he : 1 ≤ e ∧ e ≤ 1099511627776
   ·rw [if_pos he]
    by_cases hp : 0 ≤ p ∧ p ≤ 5000
    ·rw [if_pos hp]
     by_cases hpe : pe < 0
     ·rw [if_pos hpe]
     rw [if_neg hpe]
     by_cases hpp : (decide (p = 0) == decide (pe = 0)) = true
     ·rw [if_pos hpp]
      by_cases hcm : cm < 0
      ·rw [if_pos hcm]
      rw [if_neg hcm, if_neg (fun hri => h0 ⟨hr, he, hp, by omega, hpp, by omega, hri⟩)]
     ·rw [if_neg hpp]
    ·rw [if_neg hp]
   ·rw [if_neg he]
  ·rw [if_neg hr]
theorem logB_len {l es : List aEnt} {q : Nat} (hq : q ≤ l.length) (hl : l.length ≤ 5000) (he : q + es.length ≤ 5000) : (logB l es q).length ≤ 5000 := by
 unfold logB
 have h1 := common_le es (l.drop q)
 rw [List.length_drop] at h1
 split
 ·rw [List.length_append, List.length_take]; omega
 ·rw [List.length_append, List.length_drop]; omega
theorem logB_mem {l es : List aEnt} {q : Nat} {x : aEnt} (h : x ∈ logB l es q) : x ∈ l ∨ x ∈ es := by
 unfold logB at h
 split at h
 ·rcases List.mem_append.1 h with h | h
  ·exact .inl (List.mem_of_mem_take h)
  ·exact .inr h
 ·rcases List.mem_append.1 h with h | h
  ·exact .inl h
  ·exact .inr (List.mem_of_mem_drop h)
theorem acceptB_fit {r : aRep} {e p pe : Int} {es : List aEnt} {cm : Int} : Fit (acceptB r e p pe es cm).1 := by
 have hz : Fit (⟨0, 0, 0, []⟩ : aRep) := ⟨by simp, by simp⟩
 unfold acceptB
 split
 ·rename_i h
  obtain ⟨hr, he, hp, hpe, hpp, hcm, hri⟩ := suitsB_iff.1 h
  have hf := rightB_fit hr
  have hes := risingB_data hri
  split
  ·exact hz
  ·split
   ·exact hz
   ·split
    ·exact hz
    ·split
     ·exact hz
     ·split
      ·exact hz
      ·refine ⟨logB_len (by omega) hf.1 (by omega), fun x hx => ?_⟩
       rcases logB_mem hx with hx | hx
       ·exact hf.2 x hx
       ·exact hes x hx
 ·exact hz
end Go.Proofs.YtmafcdkdcfaajaaGreat
