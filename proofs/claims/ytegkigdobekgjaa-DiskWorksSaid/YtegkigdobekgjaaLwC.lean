/- The law. -/
import Derived.Test.YtegkigdobekgjaaLwB
set_option linter.unusedVariables false
set_option linter.unusedSimpArgs false
set_option maxHeartbeats 2000000
namespace Go.Proofs.Ytegkigdobekgjaa
open Eng
theorem lives_ok : workflowlaw50_lives 100000 = some true := by decide +kernel
def appS (nm b : List UInt8) (r : Int) (s f : Bool) (u : Int) (fs : FS) : Int × Bool × Int × FS :=
 if err1 s nm ≠ 0 then (err1 s nm, s, u, fs) else if (b.length : Int) > r - tot fs then (18, s, u, fs)
 else chg 0 s f u fs (mput nm ⟨(fileOf nm fs).bytes ++ b, (fileOf nm fs).safe⟩ fs)
theorem append_eq' {K : Nat} (hK : 100 ≤ K) (nm b : List UInt8) (r : Int) (s f : Bool) (u : Int) (fs : FS) (ht : tot fs ≤ 4194304) (hr0 : 0 ≤ r) (hr : r ≤ 4194304) (hu : 0 ≤ u ∧ u ≤ 9223372036854775807) :
  disk_Disk_Append_v2 K nm b r s f u fs = some (appS nm b r s f u fs) := by
 rw [append_eq hK nm b r s f u fs ht hr0 hr hu]
 unfold appS chg
 by_cases h1 : err1 s nm ≠ 0
 ·simp only [if_pos h1]
 ·simp only [if_neg h1, ne_eq, not_true, if_false]
def doesS (st : workflowlaw50_Step) (r : Int) (s f : Bool) (u : Int) (fs : FS) : Int × List UInt8 × Bool × Bool × Int × FS :=
 if st.Kind = 0 then (let c := appS st.Name st.Data r s f u fs; (c.1, [], c.2.1, f, c.2.2.1, c.2.2.2))
 else if st.Kind = 1 then (let c := chg (err1x s st.Name fs) s f u fs (mput st.Name ⟨(fileOf st.Name fs).bytes, ((fileOf st.Name fs).bytes.length : Int)⟩ fs); (c.1, [], c.2.1, f, c.2.2.1, c.2.2.2))
 else if st.Kind = 2 then (let c := chg (err2x s st.Name st.To fs) s f u fs (mput st.To (fileOf st.Name fs) (mdel st.Name fs)); (c.1, [], c.2.1, f, c.2.2.1, c.2.2.2))
 else if st.Kind = 3 then (let c := chg (err1x s st.Name fs) s f u fs (mdel st.Name fs); (c.1, [], c.2.1, f, c.2.2.1, c.2.2.2))
 else if st.Kind = 4 then (if err1x s st.Name fs ≠ 0 then (err1x s st.Name fs, [], s, f, u, fs) else (0, (fileOf st.Name fs).bytes, s, f, u, fs))
 else if st.Kind = 5 then (if s = true then (28, [], s, f, u, fs) else if st.N < 0 then (2, [], s, f, u, fs) else (0, [], s, true, st.N, fs))
 else if st.Kind = 6 then (if st.N < 0 then (2, [], s, f, u, fs) else (0, [], false, false, 0, crashed st.N fs))
 else (0, [], s, f, u, fs)
def isCopy (st : workflowlaw50_Step) : Prop := st.Kind ≠ 0 ∧ st.Kind ≠ 1 ∧ st.Kind ≠ 2 ∧ st.Kind ≠ 3 ∧ st.Kind ≠ 4 ∧ st.Kind ≠ 5 ∧ st.Kind ≠ 6
theorem does_eq {K N : Nat} (hK : 100 ≤ K) (hN : N < K) (hN2 : N ≤ 1000000) (st : workflowlaw50_Step) {r : Int} {s f : Bool} {u : Int} {fs : FS} (h : Inv N fs) (ht : tot fs ≤ 4194304) (hr0 : 0 ≤ r) (hr : r ≤ 4194304) (hu : 0 ≤ u ∧ u ≤ 9223372036854775807) :
  (isCopy st ∧ workflowlaw50_does_v3 K st r s f u fs = some (Sum.inr (fs, fs)) ∧ doesS st r s f u fs = (0, [], s, f, u, fs)) ∨
  workflowlaw50_does_v3 K st r s f u fs = some (Sum.inl (doesS st r s f u fs)) := by
 unfold workflowlaw50_does_v3 doesS isCopy
 by_cases k0 : st.Kind = 0
 ·right; simp only [if_pos k0]; rw [append_eq' hK _ _ _ _ _ _ _ ht hr0 hr hu]; rfl
 by_cases k1 : st.Kind = 1
 ·right; simp only [if_neg k0, if_pos k1]; rw [sync_eq hK _ _ _ _ _ _ hu]; rfl
 by_cases k2 : st.Kind = 2
 ·right; simp only [if_neg k0, if_neg k1, if_pos k2]; rw [rename_eq hK _ _ _ _ _ _ _ hu]; rfl
 by_cases k3 : st.Kind = 3
 ·right; simp only [if_neg k0, if_neg k1, if_neg k2, if_pos k3]; rw [remove_eq hK _ _ _ _ _ _ hu]; rfl
 by_cases k4 : st.Kind = 4
 ·right; simp only [if_neg k0, if_neg k1, if_neg k2, if_neg k3, if_pos k4]; rw [read_eq hK _ _ _ _ _ _ ht]
  by_cases e : err1x s st.Name fs ≠ 0
  ·simp only [if_pos e]; rfl
  ·simp only [if_neg e]; rfl
 by_cases k5 : st.Kind = 5
 ·right; simp only [if_neg k0, if_neg k1, if_neg k2, if_neg k3, if_neg k4, if_pos k5]; rw [fuse_eq]
  by_cases e : s = true
  ·simp only [if_pos e]; rfl
  ·simp only [if_neg e]
   by_cases e2 : st.N < 0
   ·simp only [if_pos e2]; rfl
   ·simp only [if_neg e2]; rfl
 by_cases k6 : st.Kind = 6
 ·right; simp only [if_neg k0, if_neg k1, if_neg k2, if_neg k3, if_neg k4, if_neg k5, if_pos k6]; rw [crash_eq h hN hN2 ht]
  by_cases e2 : st.N < 0
  ·simp only [if_pos e2]; rfl
  ·simp only [if_neg e2]; rfl
 ·left
  refine ⟨⟨k0, k1, k2, k3, k4, k5, k6⟩, ?_, ?_⟩
  ·simp only [if_neg k0, if_neg k1, if_neg k2, if_neg k3, if_neg k4, if_neg k5, if_neg k6]
   rw [copy_eq h ht]; rfl
  ·simp only [if_neg k0, if_neg k1, if_neg k2, if_neg k3, if_neg k4, if_neg k5, if_neg k6]
theorem spend_some {f : Bool} {u u' : Int} (h : spend f u = some u') (hu : 0 ≤ u ∧ u ≤ 9223372036854775807) : 0 ≤ u' ∧ u' ≤ 9223372036854775807 := by
 unfold spend at h
 cases f with
 | false => cases h; exact hu
 | true =>
  simp only [if_true] at h
  split at h
  ·cases h
  ·cases h; omega
structure Step (N : Nat) (r : Int) (st : workflowlaw50_Step) (fs : FS) (o : Int × List UInt8 × Bool × Bool × Int × FS) : Prop where
 inv : Inv (N + 1) o.2.2.2.2.2
 u : 0 ≤ o.2.2.2.2.1 ∧ o.2.2.2.2.1 ≤ 9223372036854775807
 room : (tot fs : Int) ≤ r → (tot o.2.2.2.2.2 : Int) ≤ r
 more : tot o.2.2.2.2.2 ≤ tot fs + st.Data.length
 bad : o.1 ≠ 0 → tot o.2.2.2.2.2 = tot fs
 app : st.Kind = 0 → o.1 = 0 → tot o.2.2.2.2.2 = tot fs + st.Data.length
 full : o.1 = 18 → r < (tot fs : Int) + st.Data.length
theorem chg_step {N : Nat} {r : Int} {st : workflowlaw50_Step} {fs fs' : FS} {e : Int} {s f : Bool} {u : Int} (h : Inv N fs) (hu : 0 ≤ u ∧ u ≤ 9223372036854775807) (he : e ≠ 18) (hi : e = 0 → Inv (N + 1) fs') (ht : e = 0 → tot fs' ≤ tot fs + st.Data.length)
  (hr : e = 0 → (tot fs : Int) ≤ r → (tot fs' : Int) ≤ r) (ha : st.Kind = 0 → e = 0 → tot fs' = tot fs + st.Data.length) : let c := chg e s f u fs fs'; Step N r st fs (c.1, [], c.2.1, f, c.2.2.1, c.2.2.2) := by
 unfold chg
 by_cases h1 : e ≠ 0
 ·simp only [if_pos h1]
  exact ⟨h.mono (by omega), hu, fun h => h, by simp, fun _ => rfl, fun _ h2 => absurd h2 h1, fun h2 => absurd h2 he⟩
 ·simp only [if_neg h1]
  have h1 : e = 0 := by simpa using h1
  cases hs : spend f u with
  | none => exact ⟨h.mono (by omega), hu, fun h => h, by simp, fun _ => rfl, fun _ h2 => (by cases h2), fun h2 => (by cases h2)⟩
  | some u' => exact ⟨hi h1, spend_some hs hu, hr h1, ht h1, fun h2 => absurd rfl h2, fun hk _ => ha hk h1, fun h2 => by cases h2⟩
theorem err1_cases {s : Bool} {nm : List UInt8} : err1 s nm = 28 ∨ err1 s nm = 8 ∨ (err1 s nm = 0 ∧ badn nm = false ∧ s = false) := by
 unfold err1
 cases s with
 | true => simp
 | false => cases badn nm <;> simp
theorem err2_cases {s : Bool} {nm to : List UInt8} : err2 s nm to = 28 ∨ err2 s nm to = 8 ∨ (err2 s nm to = 0 ∧ badn nm = false ∧ badn to = false ∧ s = false) := by
 unfold err2
 cases s with
 | true => simp
 | false => cases badn nm <;> cases badn to <;> simp
theorem err1x_cases {s : Bool} {nm : List UInt8} {fs : FS} : err1x s nm fs = 28 ∨ err1x s nm fs = 8 ∨ err1x s nm fs = 15 ∨ (err1x s nm fs = 0 ∧ badn nm = false ∧ s = false ∧ ∃ x, mfind nm fs = some x) := by
 unfold err1x
 rcases err1_cases (s := s) (nm := nm) with h | h | ⟨h, h2, h3⟩
 ·simp [h]
 ·simp [h]
 ·cases hf : mfind nm fs with
  | none => right; right; left; simp [h]
  | some x => right; right; right; exact ⟨by simp [h], h2, h3, x, rfl⟩
theorem err2x_cases {s : Bool} {nm to : List UInt8} {fs : FS} : err2x s nm to fs = 28 ∨ err2x s nm to fs = 8 ∨ err2x s nm to fs = 15 ∨ (err2x s nm to fs = 0 ∧ badn nm = false ∧ badn to = false ∧ s = false ∧ ∃ x, mfind nm fs = some x) := by
 unfold err2x
 rcases err2_cases (s := s) (nm := nm) (to := to) with h | h | ⟨h, h2, h3, h4⟩
 ·simp [h]
 ·simp [h]
 ·cases hf : mfind nm fs with
  | none => right; right; left; simp [h]
  | some x => right; right; right; exact ⟨by simp [h], h2, h3, h4, x, rfl⟩
theorem step_ok {N : Nat} {r : Int} (st : workflowlaw50_Step) {s f : Bool} {u : Int} {fs : FS} (h : Inv N fs) (hu : 0 ≤ u ∧ u ≤ 9223372036854775807) (hn : st.N ≤ 9223372036854775807) : Step N r st fs (doesS st r s f u fs) := by
 unfold doesS
 have same : ∀ (e : Int) (b : List UInt8) (s' f' : Bool) (u' : Int), 0 ≤ u' ∧ u' ≤ 9223372036854775807 → e ≠ 18 → (st.Kind = 0 → e ≠ 0) → Step N r st fs (e, b, s', f', u', fs) := fun e b s' f' u' hu' he hk =>
  ⟨h.mono (by omega), hu', fun h => h, by simp, fun _ => rfl, fun hk' h2 => absurd h2 (hk hk'), fun h2 => absurd h2 he⟩
 by_cases k0 : st.Kind = 0
 ·simp only [if_pos k0]
  unfold appS
  rcases err1_cases (s := s) (nm := st.Name) with he | he | ⟨he, hb, hs⟩
  ·simp only [he]
   exact same 28 _ _ _ _ hu (by decide) (fun _ => by decide)
  ·simp only [he]
   exact same 8 _ _ _ _ hu (by decide) (fun _ => by decide)
  ·simp only [he, ne_eq, not_true, if_false]
   by_cases hl : (st.Data.length : Int) > r - tot fs
   ·simp only [if_pos hl]
    exact ⟨h.mono (by omega), hu, fun h => h, by simp, fun _ => rfl, fun _ h2 => (by cases h2), fun _ => by omega⟩
   ·simp only [if_neg hl]
    have hfi := fileOf_inv h st.Name
    have hm := tot_mput h.s st.Name (⟨(fileOf st.Name fs).bytes ++ st.Data, (fileOf st.Name fs).safe⟩ : disk_file)
    simp only [List.length_append] at hm
    exact chg_step h hu (by decide) (fun _ => h.mput hb (by simp only [List.length_append]; omega)) (fun _ => by omega) (fun _ _ => by omega) (fun _ _ => by omega)
 by_cases k1 : st.Kind = 1
 ·simp only [if_neg k0, if_pos k1]
  have hm := tot_mput h.s st.Name (⟨(fileOf st.Name fs).bytes, ((fileOf st.Name fs).bytes.length : Int)⟩ : disk_file)
  simp only at hm
  rcases err1x_cases (s := s) (nm := st.Name) (fs := fs) with he | he | he | ⟨he, hb, _⟩
  ·rw [he]; exact chg_step h hu (by decide) (fun e => by cases e) (fun e => by cases e) (fun e => by cases e) (fun e => absurd e k0)
  ·rw [he]; exact chg_step h hu (by decide) (fun e => by cases e) (fun e => by cases e) (fun e => by cases e) (fun e => absurd e k0)
  ·rw [he]; exact chg_step h hu (by decide) (fun e => by cases e) (fun e => by cases e) (fun e => by cases e) (fun e => absurd e k0)
  ·rw [he]; exact chg_step h hu (by decide) (fun _ => h.mput hb (by simp)) (fun _ => by omega) (fun _ _ => by omega) (fun e => absurd e k0)
 by_cases k2 : st.Kind = 2
 ·simp only [if_neg k0, if_neg k1, if_pos k2]
  rcases err2x_cases (s := s) (nm := st.Name) (to := st.To) (fs := fs) with he | he | he | ⟨he, hb, hb2, _⟩
  ·rw [he]; exact chg_step h hu (by decide) (fun e => by cases e) (fun e => by cases e) (fun e => by cases e) (fun e => absurd e k0)
  ·rw [he]; exact chg_step h hu (by decide) (fun e => by cases e) (fun e => by cases e) (fun e => by cases e) (fun e => absurd e k0)
  ·rw [he]; exact chg_step h hu (by decide) (fun e => by cases e) (fun e => by cases e) (fun e => by cases e) (fun e => absurd e k0)
  ·have h1 := tot_mdel h.s st.Name
   have h2 := tot_mput (h.s.mdel st.Name) st.To (fileOf st.Name fs)
   rw [he]; exact chg_step h hu (by decide) (fun _ => (h.mdel st.Name).mput hb2 (fileOf_inv h _)) (fun _ => by omega) (fun _ _ => by omega) (fun e => absurd e k0)
 by_cases k3 : st.Kind = 3
 ·simp only [if_neg k0, if_neg k1, if_neg k2, if_pos k3]
  have h1 := tot_mdel h.s st.Name
  rcases err1x_cases (s := s) (nm := st.Name) (fs := fs) with he | he | he | ⟨he, hb, _⟩
  ·rw [he]; exact chg_step h hu (by decide) (fun e => by cases e) (fun e => by cases e) (fun e => by cases e) (fun e => absurd e k0)
  ·rw [he]; exact chg_step h hu (by decide) (fun e => by cases e) (fun e => by cases e) (fun e => by cases e) (fun e => absurd e k0)
  ·rw [he]; exact chg_step h hu (by decide) (fun e => by cases e) (fun e => by cases e) (fun e => by cases e) (fun e => absurd e k0)
  ·rw [he]; exact chg_step h hu (by decide) (fun _ => (h.mdel st.Name).mono (by omega)) (fun _ => by omega) (fun _ _ => by omega) (fun e => absurd e k0)
 by_cases k4 : st.Kind = 4
 ·simp only [if_neg k0, if_neg k1, if_neg k2, if_neg k3, if_pos k4]
  split
  ·rcases err1x_cases (s := s) (nm := st.Name) (fs := fs) with he | he | he | ⟨he, _⟩ <;> rw [he] <;> exact same _ _ _ _ _ hu (by decide) (fun e => absurd e k0)
  ·exact same _ _ _ _ _ hu (by decide) (fun e => absurd e k0)
 by_cases k5 : st.Kind = 5
 ·simp only [if_neg k0, if_neg k1, if_neg k2, if_neg k3, if_neg k4, if_pos k5]
  split
  ·exact same _ _ _ _ _ hu (by decide) (fun e => absurd e k0)
  ·split
   ·exact same _ _ _ _ _ hu (by decide) (fun e => absurd e k0)
   ·exact same _ _ _ _ _ (by omega) (by decide) (fun e => absurd e k0)
 by_cases k6 : st.Kind = 6
 ·simp only [if_neg k0, if_neg k1, if_neg k2, if_neg k3, if_neg k4, if_neg k5, if_pos k6]
  split
  ·exact same _ _ _ _ _ hu (by decide) (fun e => absurd e k0)
  ·have h1 := tot_crashed (keep := st.N) (by omega) h.f
   exact ⟨(h.crashed (by omega)).mono (by omega), by simp, fun h2 => by show (tot (crashed st.N fs) : Int) ≤ r; omega, by show tot (crashed st.N fs) ≤ _; omega, fun e => absurd rfl e, fun e => absurd e k0, fun e => by cases e⟩
 ·simp only [if_neg k0, if_neg k1, if_neg k2, if_neg k3, if_neg k4, if_neg k5, if_neg k6]
  exact same _ _ _ _ _ hu (by decide) (fun e => absurd e k0)
def cost (st : workflowlaw50_Step) : Nat := st.Data.length + st.Name.length + st.To.length
def costs (l : List workflowlaw50_Step) : Nat := (l.map cost).sum
def Fits (l : List workflowlaw50_Step) : Prop := ∀ st ∈ l, st.Data.length ≤ 1000000000000000 ∧ st.Name.length ≤ 1000000000000000 ∧ st.To.length ≤ 1000000000000000
theorem small_loop (K : Nat) (l : List workflowlaw50_Step) (hf : Fits l) : ∀ (k i n : Nat), i ≤ l.length → i ≤ 61 → 61 - i < k → n ≤ 3000000000000000 * i →
  ∃ m, workflowlaw50_small.l9 K l k (n : Int) (i : Int) = some (m : Int) ∧ (l.length ≤ 60 → m = ((n + costs (l.drop i) : Nat) : Int)) := by
 intro k
 induction k with
 | zero => intro i n _ _ h; omega
 | succ k ih =>
  intro i n hi h61 hk hn
  unfold workflowlaw50_small.l9
  by_cases h1 : i < l.length
  ·rw [if_pos (by omega)]
   by_cases h2 : i ≤ 60
   ·rw [if_pos (by omega), if_pos ⟨by omega, by omega⟩]
    have hm : l.getD i z_workflowlaw50_Step ∈ l := getD_mem h1 _
    obtain ⟨f1, f2, f3⟩ := hf _ hm
    have ei : Int.toNat (i : Int) = i := by omega
    rw [ei]
    have e1 : IntKind.i64.wrap (IntKind.i64.wrap (IntKind.i64.wrap ((n : Int) + ((l.getD i z_workflowlaw50_Step).Data.length : Int)) + ((l.getD i z_workflowlaw50_Step).Name.length : Int)) + ((l.getD i z_workflowlaw50_Step).To.length : Int)) = ((n + cost (l.getD i z_workflowlaw50_Step) : Nat) : Int) := by
     rw [Eng.wrap_small (x := (n : Int) + _) (by omega) (by omega), Eng.wrap_small (x := (n : Int) + _ + _) (by omega) (by omega), Eng.wrap_small (by omega) (by omega)]
     unfold cost
     omega
    have e2 : IntKind.i64.wrap ((i : Int) + 1) = ((i + 1 : Nat) : Int) := wrap_succ (by omega)
    rw [e1, e2]
    obtain ⟨m, h3, h4⟩ := ih (i + 1) (n + cost (l.getD i z_workflowlaw50_Step)) (by omega) (by omega) (by omega) (by unfold cost; omega)
    refine ⟨m, h3, fun hl => ?_⟩
    rw [h4 hl, drop_step h1 z_workflowlaw50_Step]
    unfold costs
    simp only [List.map_cons, List.sum_cons]
    omega
   ·rw [if_neg (by omega)]
    exact ⟨n, rfl, fun hl => by omega⟩
  ·rw [if_neg (by omega)]
   refine ⟨n, rfl, fun _ => ?_⟩
   rw [drop_end h1]
   simp [costs]
theorem small_eq {K : Nat} (hK : 100 ≤ K) {l : List workflowlaw50_Step} (hf : Fits l) : ∃ b, workflowlaw50_small K l = some b ∧ (b = true → l.length ≤ 60 ∧ costs l ≤ 6000) := by
 obtain ⟨m, h1, h2⟩ := small_loop K l hf K 0 0 (Nat.zero_le _) (by omega) (by omega) (by omega)
 unfold workflowlaw50_small
 have e0 : ((0 : Nat) : Int) = 0 := rfl
 rw [e0] at h1
 rw [h1]
 simp only [Option.bind_some]
 by_cases hl : (l.length : Int) ≤ 60
 ·rw [if_pos hl]
  refine ⟨_, rfl, fun hb => ?_⟩
  have h3 := h2 (by omega)
  simp only [Nat.zero_add, List.drop_zero, decide_eq_true_eq] at h3 hb
  omega
 ·rw [if_neg hl]
  exact ⟨false, rfl, fun h => by cases h⟩
end Go.Proofs.Ytegkigdobekgjaa
