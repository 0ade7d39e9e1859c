/- The law. -/
import Derived.Test.YtegkigdobekgjaaLwD
set_option linter.unusedVariables false
set_option linter.unusedSimpArgs false
set_option maxHeartbeats 2000000
namespace Go.Proofs.Ytegkigdobekgjaa
open Eng
theorem mfind_mput {fs : FS} (hs : MSorted fs) (nm : List UInt8) (v : disk_file) : mfind nm (mput nm v fs) = some v :=
 mfind_mem (msn (hs.mput nm v)) ((mins_perm (nm, v) (mdel nm fs)).mem_iff.2 (.head _))
theorem mfind_mdel (fs : FS) (nm : List UInt8) : mfind nm (mdel nm fs) = none := mfind_none fun p hp => (mem_mdel.1 hp).2
theorem mfind_crashed (nm : List UInt8) (keep : Int) : ∀ fs : FS, mfind nm (crashed keep fs) = (mfind nm fs).map (crashf keep)
 | [] => rfl
 | p :: fs => by
  have e : crashed keep (p :: fs) = (p.1, crashf keep p.2) :: crashed keep fs := rfl
  rw [e]
  unfold mfind
  split
  ·rfl
  ·exact mfind_crashed nm keep fs
theorem keeps_loop (l : List workflowlaw50_Step) (hl : l.length ≤ 60) (hc : costs l ≤ 6000) (hn : ∀ st ∈ l, st.N ≤ 9223372036854775807) : ∀ (k i : Nat) (s f : Bool) (u : Int) (fs : FS), i ≤ l.length → l.length - i < k →
  Inv i fs → tot fs + costs (l.drop i) ≤ 6000 → 0 ≤ u ∧ u ≤ 9223372036854775807 →
  ∃ s' f' u' fs', workflowlaw50_DiskKeeps.l17_2 100000 l k (i : Int) s f u fs = some (s', f', u', fs') ∧ Inv 60 fs' ∧ tot fs' ≤ 6000 := by
 intro k
 induction k with
 | zero => intro i _ _ _ _ _ h; omega
 | succ k ih =>
  intro i s f u fs hi hk hI ht hu
  unfold workflowlaw50_DiskKeeps.l17_2
  by_cases h : i < l.length
  ·rw [if_pos (by omega), if_pos ⟨by omega, by omega⟩]
   have ei : Int.toNat (i : Int) = i := by omega
   have hm : l.getD i z_workflowlaw50_Step ∈ l := getD_mem h _
   rw [drop_step h z_workflowlaw50_Step] at ht
   rw [ei]
   generalize l.getD i z_workflowlaw50_Step = st at hm ht
   have hcost : costs (st :: l.drop (i + 1)) = cost st + costs (l.drop (i + 1)) := by simp [costs]
   rw [hcost] at ht
   have hS := step_ok (r := 100000) st (s := s) (f := f) (u := u) hI hu (hn st hm)
   have hd : st.Data.length ≤ cost st := by unfold cost; omega
   rcases does_eq (K := 100000) (N := i) (by omega) (by omega) (by omega) st hI (by omega) (r := 100000) (by omega) (by omega) hu with ⟨_, h1, h2⟩ | h1
   ·rw [h1]
    simp only [Option.bind_some]
    rw [wrap_succ (by omega)]
    exact ih (i + 1) s f u fs (by omega) (by omega) (hI.mono (by omega)) (by omega) hu
   ·rw [h1]
    generalize doesS st 100000 s f u fs = q at hS
    obtain ⟨e, b, s', f', u', fs'⟩ := q
    obtain ⟨s1, s2, s3, s4, s5, s6, s7⟩ := hS
    simp only at s1 s2 s4
    simp only [Option.bind_some]
    rw [wrap_succ (by omega)]
    exact ih (i + 1) s' f' u' fs' (by omega) (by omega) s1 (by omega) s2
  ·rw [if_neg (by omega)]
   exact ⟨s, f, u, fs, rfl, hI.mono (by omega), by omega⟩
theorem slc0 {α : Type} (xs : List α) (n : Int) : slc xs 0 n = xs.take n.toNat := by simp [slc]
theorem keeps_law (l after : List workflowlaw50_Step) (nm a b : List UInt8) (keep : Int) (hf : Fits l) (hf2 : Fits after) (hn : ∀ st ∈ l, st.N ≤ 9223372036854775807) : workflowlaw50_DiskKeeps 100000 l after nm a b keep = some true := by
 unfold workflowlaw50_DiskKeeps
 obtain ⟨b1, h1, h2⟩ := small_eq (K := 100000) (by omega) hf
 obtain ⟨b2, h3, h4⟩ := small_eq (K := 100000) (by omega) hf2
 rw [h1, h3]
 cases b1 with
 | false => simp [lives_ok]
 | true =>
 cases b2 with
 | false => simp [lives_ok]
 | true =>
 by_cases g1 : (a.length : Int) > 3000
 ·simp [g1, lives_ok]
 by_cases g2 : (b.length : Int) > 3000
 ·simp [g1, g2, lives_ok]
 by_cases g3 : keep < 0
 ·simp [g1, g2, g3, lives_ok]
 by_cases g4 : (nm.length : Int) < 1
 ·simp [g1, g2, g3, g4, lives_ok]
 by_cases g5 : (nm.length : Int) > 64
 ·simp [g1, g2, g3, g4, g5, lives_ok]
 simp only [Option.bind_some, if_true, if_neg g1, if_neg g2, if_neg g3, if_neg g4, g5, decide_false, Bool.false_eq_true, if_false]
 rw [dnew (by omega) (by omega)]
 simp only [Option.bind_some]
 obtain ⟨hl, hc⟩ := h2 rfl
 obtain ⟨s, f, u, fs, hloop, hI, ht⟩ := keeps_loop l hl hc hn 100000 0 false false 0 [] (by omega) (by omega) (Inv.nil 0) (by simp [tot]; exact hc) (by omega)
 have hloop' : workflowlaw50_DiskKeeps.l17_2 100000 l 100000 0 false false 0 [] = some (s, f, u, fs) := hloop
 rw [hloop']
 simp only [Option.bind_some]
 rw [crash_eq hI (by omega) (by omega) (by omega)]
 simp only [show ¬ ((0 : Int) < 0) from by omega, if_false, Option.bind_some]
 have hb : badn nm = false := by
  unfold badn
  have : nm ≠ [] := fun e => by subst e; simp at g4
  simp [this]; omega
 have he : err1 false nm = 0 := by unfold err1; simp [hb]
 -- fs1: the files behind the crash
 have hI1 : Inv 60 (crashed 0 fs) := hI.crashed (by omega)
 have ht1 : tot (crashed 0 fs) ≤ 6000 := Nat.le_trans (tot_crashed (by omega) hI.f) ht
 generalize crashed 0 fs = fs1 at hI1 ht1
 rw [remove_eq (by omega) _ _ _ _ _ _ (by omega)]
 have hrem : ∃ e, chg (err1x false nm fs1) false false 0 fs1 (mdel nm fs1) = (e, false, 0, mdel nm fs1) := by
  unfold err1x
  rw [if_neg (by rw [he]; simp)]
  cases hm : mfind nm fs1 with
  | none => exact ⟨15, by simp [chg, mdel_self hm]⟩
  | some x => exact ⟨0, by simp [chg, spend]⟩
 obtain ⟨e0, hrem⟩ := hrem
 rw [hrem]
 simp only [Option.bind_some]
 have hI2 : Inv 60 (mdel nm fs1) := hI1.mdel nm
 have ht2 : tot (mdel nm fs1) ≤ 6000 := by have := tot_mdel hI1.s nm; omega
 have hf2 : fileOf nm (mdel nm fs1) = ⟨[], 0⟩ := fileOf_none (mfind_mdel fs1 nm)
 generalize mdel nm fs1 = fs2 at hI2 ht2 hf2
 rw [append_eq' (by omega) _ _ _ _ _ _ _ (by omega) (by omega) (by omega) (by omega)]
 have ea : appS nm a 100000 false false 0 fs2 = (0, false, 0, mput nm ⟨a, 0⟩ fs2) := by
  unfold appS
  rw [if_neg (by rw [he]; simp), if_neg (by omega), hf2]
  rfl
 rw [ea]
 simp only [Option.bind_some, ne_eq, not_true, if_false]
 have hI3 : Inv 61 (mput nm ⟨a, 0⟩ fs2) := hI2.mput hb (by simp)
 have ht3 : tot (mput nm ⟨a, 0⟩ fs2) ≤ 9000 := by have := tot_mput hI2.s nm (⟨a, 0⟩ : disk_file); simp only at this; omega
 have hf3 : mfind nm (mput nm ⟨a, 0⟩ fs2) = some ⟨a, 0⟩ := mfind_mput hI2.s nm _
 generalize mput nm ⟨a, 0⟩ fs2 = fs3 at hI3 ht3 hf3
 rw [sync_eq (by omega) _ _ _ _ _ _ (by omega)]
 have es : chg (err1x false nm fs3) false false 0 fs3 (mput nm ⟨(fileOf nm fs3).bytes, ((fileOf nm fs3).bytes.length : Int)⟩ fs3) = (0, false, 0, mput nm ⟨a, (a.length : Int)⟩ fs3) := by
  unfold err1x
  rw [if_neg (by rw [he]; simp), hf3, fileOf_some hf3]
  rfl
 rw [es]
 simp only [Option.bind_some, not_true, if_false]
 have hI4 : Inv 62 (mput nm ⟨a, (a.length : Int)⟩ fs3) := hI3.mput hb (by simp)
 have ht4 : tot (mput nm ⟨a, (a.length : Int)⟩ fs3) ≤ 12000 := by have := tot_mput hI3.s nm (⟨a, (a.length : Int)⟩ : disk_file); simp only at this; omega
 have hf4 : mfind nm (mput nm ⟨a, (a.length : Int)⟩ fs3) = some ⟨a, (a.length : Int)⟩ := mfind_mput hI3.s nm _
 generalize mput nm ⟨a, (a.length : Int)⟩ fs3 = fs4 at hI4 ht4 hf4
 rw [append_eq' (by omega) _ _ _ _ _ _ _ (by omega) (by omega) (by omega) (by omega)]
 have eb : appS nm b 100000 false false 0 fs4 = (0, false, 0, mput nm ⟨a ++ b, (a.length : Int)⟩ fs4) := by
  unfold appS
  rw [if_neg (by rw [he]; simp), if_neg (by omega), fileOf_some hf4]
  rfl
 rw [eb]
 simp only [Option.bind_some, not_true, if_false]
 have hI5 : Inv 63 (mput nm ⟨a ++ b, (a.length : Int)⟩ fs4) := hI4.mput hb (by simp; omega)
 have ht5 : tot (mput nm ⟨a ++ b, (a.length : Int)⟩ fs4) ≤ 18000 := by have := tot_mput hI4.s nm (⟨a ++ b, (a.length : Int)⟩ : disk_file); simp only [List.length_append] at this; omega
 have hf5 : mfind nm (mput nm ⟨a ++ b, (a.length : Int)⟩ fs4) = some ⟨a ++ b, (a.length : Int)⟩ := mfind_mput hI4.s nm _
 generalize mput nm ⟨a ++ b, (a.length : Int)⟩ fs4 = fs5 at hI5 ht5 hf5
 rw [crash_eq hI5 (by omega) (by omega) (by omega)]
 simp only [if_neg g3, Option.bind_some]
 have hI6 : Inv 63 (crashed keep fs5) := hI5.crashed (by omega)
 have ht6 : tot (crashed keep fs5) ≤ 18000 := Nat.le_trans (tot_crashed (by omega) hI5.f) ht5
 have hf6 : mfind nm (crashed keep fs5) = some (crashf keep ⟨a ++ b, (a.length : Int)⟩) := by rw [mfind_crashed, hf5]; rfl
 have hx : crashf keep ⟨a ++ b, (a.length : Int)⟩ = ⟨a ++ b.take keep.toNat, (a.length : Int) + (if (b.length : Int) < keep then (b.length : Int) else keep)⟩ := by
  unfold crashf stay
  have e1 : ((a ++ b).length : Int) - (a.length : Int) = b.length := by simp; omega
  simp only [e1, slc0]
  have : (a ++ b).take ((a.length : Int) + (if (b.length : Int) < keep then (b.length : Int) else keep)).toNat = a ++ b.take keep.toNat := by
   rw [List.take_append]
   split
   ·rw [List.take_of_length_le (by omega), List.take_of_length_le (by omega), List.take_of_length_le (by omega)]
   ·rw [List.take_of_length_le (by omega)]
    congr 2
    omega
  rw [this]
 rw [hx] at hf6
 generalize crashed keep fs5 = fs6 at hI6 ht6 hf6
 have hread : ∀ (fs7 : FS) (x : disk_file), mfind nm fs7 = some x → tot fs7 ≤ 18000 → disk_Disk_Read_v2 100000 nm 100000 false false 0 fs7 = some (x.bytes, 0, fs7) := fun fs7 x hx ht => by
  have e0 : err1x false nm fs7 = 0 := by
   unfold err1x
   rw [if_neg (by rw [he]; simp), hx]
   rfl
  rw [read_eq (by omega) _ _ _ _ _ _ (by omega), e0, fileOf_some hx]
  rfl
 rw [hread fs6 _ hf6 ht6]
 simp only [Option.bind_some]
 rw [if_pos (by simp; omega)]
 have hwant : (if keep < (b.length : Int) then (if (0 : Int) ≤ keep ∧ keep ≤ (b.length : Int) then (if (a.map (fun b => b)).length + ((slc b 0 keep).map (fun b => b)).length ≤ 9223372036854775807 then some ((a.map (fun b => b)) ++ ((slc b 0 keep).map (fun b => b))) else none) else none) else some ((a.map (fun b => b)) ++ (b.map (fun b => b))) : Option (List UInt8)) = some (a ++ b.take keep.toNat) := by
  split
  ·rw [if_pos ⟨by omega, by omega⟩, slc0, if_pos (by simp; omega)]
   simp
  ·rw [List.take_of_length_le (by omega)]
   simp
 rw [hwant]
 simp only [Option.bind_some]
 rw [crash_eq hI6 (by omega) (by omega) (by omega)]
 simp only [show ¬ ((0 : Int) < 0) from by omega, if_false, Option.bind_some]
 have hI7 : Inv 63 (crashed 0 fs6) := hI6.crashed (by omega)
 have ht7 : tot (crashed 0 fs6) ≤ 18000 := Nat.le_trans (tot_crashed (by omega) hI6.f) ht6
 have hf7 : ∃ y, mfind nm (crashed 0 fs6) = some y ∧ y.bytes = a ++ b.take keep.toNat := by
  rw [mfind_crashed, hf6]
  refine ⟨_, rfl, ?_⟩
  show (crashf 0 _).bytes = _
  unfold crashf stay
  simp only [slc0]
  refine List.take_of_length_le ?_
  simp only [List.length_append, List.length_take]
  split <;> split <;> omega
 obtain ⟨y, hf7, hy⟩ := hf7
 rw [hread _ y hf7 ht7, hy]
 simp [workflowlaw50_equal, dead_eq, lives_ok]
end Go.Proofs.Ytegkigdobekgjaa
