/- The law. -/
import Derived.Test.YtegkigdobekgjaaLwC
set_option linter.unusedVariables false
set_option linter.unusedSimpArgs false
set_option maxHeartbeats 2000000
namespace Go.Proofs.Ytegkigdobekgjaa
open Eng
theorem dnew {K : Nat} {r : Int} (h0 : 0 ≤ r) (h1 : r ≤ 4194304) : disk_New K r = some (Sum.inr ()) := by
 unfold disk_New
 rw [if_neg (by omega), if_neg (by omega)]
def nth (t : List UInt8) : Nat → FS
 | 0 => []
 | i + 1 => [([97], ⟨(List.replicate (i + 1) t).flatten, 0⟩)]
theorem nth_tot (t : List UInt8) (i : Nat) : tot (nth t i) = i * t.length := by
 cases i with
 | zero => simp [nth, tot]
 | succ i => simp [nth, tot, List.length_flatten]
theorem nth_next (t : List UInt8) (i : Nat) : mput [97] ⟨(fileOf [97] (nth t i)).bytes ++ t, (fileOf [97] (nth t i)).safe⟩ (nth t i) = nth t (i + 1) := by
 cases i with
 | zero => simp [nth, fileOf, mfind, mput, mdel, mins]
 | succ i =>
  have : (List.replicate (i + 1) t).flatten ++ t = (List.replicate (i + 1 + 1) t).flatten := by
   rw [List.replicate_succ' (n := i + 1)]
   simp
  simp [nth, fileOf, mfind, mput, mdel, mins]
  have h2 := this
  simp only [List.replicate_succ, List.flatten_cons, List.append_assoc] at h2 ⊢
  exact h2
theorem nth_inv (t : List UInt8) (i : Nat) : Inv 1 (nth t i) := by
 cases i with
 | zero => exact Inv.nil 1
 | succ i => exact ⟨List.pairwise_singleton _ _, fun p hp => by
   simp only [nth, List.mem_singleton] at hp; subst hp
   show badn [97] = false
   decide, fun p hp => by
   simp only [nth, List.mem_singleton] at hp; subst hp
   show (0 : Int) ≤ 0 ∧ (0 : Int) ≤ ((List.replicate (i + 1) t).flatten.length : Int)
   omega, by simp [nth]⟩
theorem fuse_loop (t : List UInt8) (n : Nat) (hn : n ≤ 20) (ht : t.length ≤ 100) : ∀ (k i : Nat), i ≤ n → n - i < k →
  workflowlaw50_DiskFuse.l27 100000 (n : Int) t true k (i : Int) false ((n - i : Nat) : Int) (nth t i) = some (Out.go (false, 0, nth t n)) := by
 intro k
 induction k with
 | zero => intro i _ h; omega
 | succ k ih =>
  intro i hi hk
  unfold workflowlaw50_DiskFuse.l27
  by_cases h : i < n
  ·rw [if_pos (by omega)]
   have hm : i * t.length ≤ 20 * 100 := Nat.mul_le_mul (by omega) ht
   rw [append_eq' (by omega) _ _ _ _ _ _ _ (by rw [nth_tot]; omega) (by omega) (by omega) (by omega)]
   unfold appS
   have he : err1 false [97] = 0 := by decide
   simp only [he, ne_eq, not_true, if_false]
   rw [if_neg (by rw [nth_tot]; omega)]
   unfold chg spend
   simp only [ne_eq, not_true, if_false, if_true]
   rw [if_neg (by omega)]
   simp only [Option.bind_some, nth_next, not_true, if_false, dead_eq, Bool.false_eq_true]
   rw [wrap_succ (by omega)]
   have := ih (i + 1) (by omega) (by omega)
   rw [show ((n - (i + 1) : Nat) : Int) = ((n - i : Nat) : Int) - 1 from by omega] at this
   exact this
  ·rw [if_neg (by omega)]
   have : i = n := by omega
   subst this
   simp
theorem fuse_law (n : Int) (t : List UInt8) : workflowlaw50_DiskFuse 100000 n t = some true := by
 unfold workflowlaw50_DiskFuse
 by_cases h0 : n < 0
 ·simp [h0, lives_ok]
 by_cases h1 : n > 20
 ·simp [h0, h1, lives_ok]
 by_cases h2 : (t.length : Int) > 100
 ·simp [h0, h1, h2, lives_ok]
 simp only [if_neg h0, if_neg h1, h2, decide_false, Option.bind_some, Bool.false_eq_true, if_false]
 obtain ⟨m, rfl⟩ : ∃ m : Nat, n = m := ⟨n.toNat, by omega⟩
 rw [dnew (by omega) (by omega)]
 simp only [Option.bind_some]
 rw [fuse_eq]
 simp only [Bool.false_eq_true, if_false, if_neg h0, Option.bind_some, ne_eq, not_true]
 rw [copy_eq (Inv.nil 0) (by simp [tot])]
 simp only [Option.bind_some]
 have hl := fuse_loop t m (by omega) (by omega) 100000 0 (by omega) (by omega)
 simp only [Nat.sub_zero] at hl
 have hl' : workflowlaw50_DiskFuse.l27 100000 (m : Int) t true 100000 0 false (m : Int) [] = some (Out.go (false, 0, nth t m)) := hl
 rw [hl']
 simp only [obind]
 have hm : m * t.length ≤ 20 * 100 := Nat.mul_le_mul (by omega) (by omega)
 have ht := nth_tot t m
 -- the change that stops the disk
 rw [append_eq' (by omega) _ _ _ _ _ _ _ (by omega) (by omega) (by omega) (by omega)]
 have e1 : appS [98] t 10000 false true 0 (nth t m) = (28, true, 0, nth t m) := by
  unfold appS
  rw [if_neg (by decide), if_neg (by omega)]
  rfl
 rw [e1]
 simp only [Option.bind_some, ne_eq, not_true, if_false, dead_eq, if_true]
 rw [sync_eq (by omega) _ _ _ _ _ _ (by omega)]
 have e2 : err1x true [97] (nth t m) = 28 := by unfold err1x; rw [if_pos (by decide)]; rfl
 rw [e2]
 have e3 : ∀ x, chg 28 true true 0 (nth t m) x = (28, true, 0, nth t m) := fun x => rfl
 rw [e3]
 simp only [Option.bind_some, not_true, if_false]
 rw [fuse_eq]
 simp only [if_true, Option.bind_some, not_true, if_false]
 rw [used_eq (by omega)]
 simp only [Option.bind_some]
 rw [if_neg (by rw [Eng.wrap_small (by rw [← Int.natCast_mul]; omega) (by rw [← Int.natCast_mul]; omega), ht]; simp)]
 -- the copy
 rw [used_eq (fs := []) (by simp [tot])]
 have e4 : ((tot [] : Nat) : Int) = 0 := rfl
 simp only [Option.bind_some, e4, not_true, if_false]
 have e5 : (if (m : Int) > 0 then (disk_Disk_Append_v2 100000 ([98] : List UInt8) t 10000 false true (m : Int) []).bind fun x => if ¬x.fst = 0 then some (Out.done false) else some (Out.go ()) else some (Out.go ())) = (some (Out.go ()) : Option (Out Bool Unit)) := by
  by_cases hp : (m : Int) > 0
  ·rw [if_pos hp, append_eq' (by omega) _ _ _ _ _ _ _ (by simp [tot]) (by omega) (by omega) (by omega)]
   unfold appS chg spend
   rw [if_neg (by decide), if_neg (by rw [tot_nil]; omega)]
   simp only [ne_eq, not_true, if_false, if_true]
   rw [if_neg (by omega)]
   simp
  ·rw [if_neg hp]
 rw [e5]
 simp only [obind]
 rw [read_eq (by omega) _ _ _ _ _ _ (by omega), e2]
 simp only [ne_eq, Option.bind_some, show ¬ ((28 : Int) = 0) from by decide, not_false_iff, if_true]
 rw [crash_eq (nth_inv t m) (by omega) (by omega) (by omega)]
 have hc : tot (crashed 0 (nth t m)) = 0 := by
  cases m with
  | zero => rfl
  | succ i => simp [nth, crashed, crashf, tot, stay, slc]; omega
 have hci : Inv 1 (crashed 0 (nth t m)) := (nth_inv t m).crashed (by omega)
 simp only [show ¬ ((0 : Int) < 0) from by omega, if_false, Option.bind_some, dead_eq, Bool.false_eq_true, if_true]
 rw [used_eq (by omega), hc]
 simp only [Option.bind_some]
 rw [append_eq' (by omega) _ _ _ _ _ _ _ (by omega) (by omega) (by omega) (by omega)]
 have e6 : (appS [98] t 10000 false false 0 (crashed 0 (nth t m))).1 = 0 := by
  unfold appS
  rw [if_neg (by decide), if_neg (by omega)]
  rfl
 simp only [Option.bind_some]
 generalize appS [98] t 10000 false false 0 (crashed 0 (nth t m)) = q at e6
 obtain ⟨q0, q1, q2, q3⟩ := q
 simp only at e6
 subst e6
 simp [lives_ok]
theorem full_loop (r : Int) (hr0 : 0 ≤ r) (hr : r ≤ 4194304) (l : List workflowlaw50_Step) (hl : l.length ≤ 60) (hf : Fits l) (hn : ∀ st ∈ l, st.N ≤ 9223372036854775807) : ∀ (k i : Nat) (s f : Bool) (u : Int) (fs : FS), i ≤ l.length → l.length - i < k →
  Inv i fs → (tot fs : Int) ≤ r → 0 ≤ u ∧ u ≤ 9223372036854775807 → workflowlaw50_DiskFull.l25 100000 r l k (i : Int) s f u fs = some (Out.go ()) := by
 intro k
 induction k with
 | zero => intro i _ _ _ _ _ h; omega
 | succ k ih =>
  intro i s f u fs hi hk hI ht hu
  unfold workflowlaw50_DiskFull.l25
  by_cases h : i < l.length
  ·rw [if_pos (by omega)]
   have hm : l.getD i z_workflowlaw50_Step ∈ l := getD_mem h _
   have ei : Int.toNat (i : Int) = i := by omega
   rw [used_eq (by omega)]
   simp only [Option.bind_some, ei]
   rw [if_pos ⟨by omega, by omega⟩]
   generalize l.getD i z_workflowlaw50_Step = st at hm
   have hS := step_ok (r := r) st (s := s) (f := f) (u := u) hI hu (hn st hm)
   obtain ⟨f1, _, _⟩ := hf st hm
   have hwrap : IntKind.i64.wrap ((tot fs : Int) + (st.Data.length : Int)) = (tot fs : Int) + (st.Data.length : Int) := Eng.wrap_small (by omega) (by omega)
   have key : ∀ (e : Int) (s' f' : Bool) (u' : Int) (fs' : FS), (∃ b, doesS st r s f u fs = (e, b, s', f', u', fs')) →
     (Option.bind (disk_Disk_Used 100000 r fs' s' f' u') (fun a6 => (if a6 > r then some (Out.done false) else (if e ≠ 0 then (Option.bind (disk_Disk_Used 100000 r fs' s' f' u') (fun a7 => (if a7 ≠ (tot fs : Int) then some (Out.done false) else (if (0 : Int) ≤ (i : Int) ∧ ((i : Int) : Int) < (l.length : Int) then (if st.Kind = 0 then (if e = 0 then (Option.bind (disk_Disk_Used 100000 r fs' s' f' u') (fun a8 => (if a8 ≠ (IntKind.i64.wrap ((tot fs : Int) + (st.Data.length : Int))) then some (Out.done false) else (if e = 18 then (if (IntKind.i64.wrap ((tot fs : Int) + (st.Data.length : Int))) ≤ r then some (Out.done false) else workflowlaw50_DiskFull.l25 100000 r l k (IntKind.i64.wrap ((i : Int) + 1)) s' f' u' fs') else workflowlaw50_DiskFull.l25 100000 r l k (IntKind.i64.wrap ((i : Int) + 1)) s' f' u' fs')))) else (if e = 18 then (if (IntKind.i64.wrap ((tot fs : Int) + (st.Data.length : Int))) ≤ r then some (Out.done false) else workflowlaw50_DiskFull.l25 100000 r l k (IntKind.i64.wrap ((i : Int) + 1)) s' f' u' fs') else workflowlaw50_DiskFull.l25 100000 r l k (IntKind.i64.wrap ((i : Int) + 1)) s' f' u' fs')) else (if e = 18 then (if (IntKind.i64.wrap ((tot fs : Int) + (st.Data.length : Int))) ≤ r then some (Out.done false) else workflowlaw50_DiskFull.l25 100000 r l k (IntKind.i64.wrap ((i : Int) + 1)) s' f' u' fs') else workflowlaw50_DiskFull.l25 100000 r l k (IntKind.i64.wrap ((i : Int) + 1)) s' f' u' fs')) else none)))) else (if (0 : Int) ≤ (i : Int) ∧ ((i : Int) : Int) < (l.length : Int) then (if st.Kind = 0 then (if e = 0 then (Option.bind (disk_Disk_Used 100000 r fs' s' f' u') (fun a9 => (if a9 ≠ (IntKind.i64.wrap ((tot fs : Int) + (st.Data.length : Int))) then some (Out.done false) else (if e = 18 then (if (IntKind.i64.wrap ((tot fs : Int) + (st.Data.length : Int))) ≤ r then some (Out.done false) else workflowlaw50_DiskFull.l25 100000 r l k (IntKind.i64.wrap ((i : Int) + 1)) s' f' u' fs') else workflowlaw50_DiskFull.l25 100000 r l k (IntKind.i64.wrap ((i : Int) + 1)) s' f' u' fs')))) else (if e = 18 then (if (IntKind.i64.wrap ((tot fs : Int) + (st.Data.length : Int))) ≤ r then some (Out.done false) else workflowlaw50_DiskFull.l25 100000 r l k (IntKind.i64.wrap ((i : Int) + 1)) s' f' u' fs') else workflowlaw50_DiskFull.l25 100000 r l k (IntKind.i64.wrap ((i : Int) + 1)) s' f' u' fs')) else (if e = 18 then (if (IntKind.i64.wrap ((tot fs : Int) + (st.Data.length : Int))) ≤ r then some (Out.done false) else workflowlaw50_DiskFull.l25 100000 r l k (IntKind.i64.wrap ((i : Int) + 1)) s' f' u' fs') else workflowlaw50_DiskFull.l25 100000 r l k (IntKind.i64.wrap ((i : Int) + 1)) s' f' u' fs')) else none)))) : Option (Out Bool Unit)) = some (Out.go ()) := by
    rintro e s' f' u' fs' ⟨b, he⟩
    rw [he] at hS
    obtain ⟨s1, s2, s3, s4, s5, s6, s7⟩ := hS
    simp only at s1 s2 s3 s4 s5 s6 s7
    have ht' := s3 ht
    have hnext : workflowlaw50_DiskFull.l25 100000 r l k (IntKind.i64.wrap ((i : Int) + 1)) s' f' u' fs' = some (Out.go ()) := by
     rw [wrap_succ (by omega)]
     exact ih (i + 1) s' f' u' fs' (by omega) (by omega) s1 ht' s2
    rw [used_eq (by omega)]
    simp only [Option.bind_some, hwrap, hnext]
    rw [if_neg (by omega)]
    have hii : (0 : Int) ≤ (i : Int) ∧ ((i : Int) : Int) < (l.length : Int) := ⟨by omega, by omega⟩
    by_cases he0 : e = 0
    ·subst he0
     simp only [ne_eq, not_true, if_false, if_pos hii, if_true, show ¬ ((0 : Int) = 18) from by decide]
     by_cases hk0 : st.Kind = 0
     ·have := s6 hk0 rfl
      rw [if_pos hk0, if_neg (by omega)]
     ·rw [if_neg hk0]
    ·have h5 := s5 he0
     simp only [ne_eq, he0, not_false_iff, if_true, if_pos hii, if_false]
     rw [if_neg (by omega)]
     by_cases h18 : e = 18
     ·have := s7 h18
      have hle : ¬ ((tot fs : Int) + (st.Data.length : Int) ≤ r) := by omega
      simp only [if_pos h18, if_neg hle, ite_self]
     ·simp only [if_neg h18, ite_self]
   rcases does_eq (K := 100000) (N := i) (by omega) (by omega) (by omega) st hI (by omega) hr0 hr hu with ⟨hc, h1, h2⟩ | h1
   ·rw [h1]
    simp only [Option.bind_some]
    exact key 0 s f u fs ⟨[], h2⟩
   ·rw [h1]
    generalize hd : doesS st r s f u fs = q
    obtain ⟨e, b, s', f', u', fs'⟩ := q
    simp only [Option.bind_some]
    exact key e s' f' u' fs' ⟨b, hd⟩
  ·rw [if_neg (by omega)]
theorem full_law (r : Int) (l : List workflowlaw50_Step) (hf : Fits l) (hn : ∀ st ∈ l, st.N ≤ 9223372036854775807) : workflowlaw50_DiskFull 100000 r l = some true := by
 unfold workflowlaw50_DiskFull
 obtain ⟨b, h1, h2⟩ := small_eq (K := 100000) (by omega) hf
 rw [h1]
 cases b with
 | false => simp [lives_ok]
 | true =>
  by_cases h3 : r < 0
  ·simp [h3, lives_ok]
  by_cases h4 : r > 4194304
  ·simp [h3, h4, lives_ok]
  simp only [Option.bind_some, if_true, if_neg h3, h4, decide_false, Bool.false_eq_true, if_false]
  rw [dnew (by omega) (by omega)]
  simp only [Option.bind_some]
  have := full_loop r (by omega) (by omega) l (h2 rfl).1 hf hn 100000 0 false false 0 [] (by omega) (by have := (h2 rfl).1; omega) (Inv.nil 0) (by simp [tot]; omega) (by omega)
  have this' : workflowlaw50_DiskFull.l25 100000 r l 100000 0 false false 0 [] = some (Out.go ()) := this
  rw [this']
  simp [obind, lives_ok]
end Go.Proofs.Ytegkigdobekgjaa
