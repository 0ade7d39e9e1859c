/- Logs, replicas and what is said of them. -/
import Derived.Test.YtegkigdobekgjaaFn4
set_option linter.unusedVariables false
set_option linter.unusedSimpArgs false
set_option maxHeartbeats 2000000
namespace Go.Proofs.Ytegkigdobekgjaa
open Eng
abbrev FS := List (List UInt8 × disk_file)
def tot (fs : FS) : Nat := (fs.map fun p => p.2.bytes.length).sum
def badn (p : List UInt8) : Bool := decide (p = []) || decide (64 < p.length)
def fileOf (nm : List UInt8) (fs : FS) : disk_file := (mfind nm fs).getD z_disk_file
theorem w1 : IntKind.i64.wrap (0 + 1) = 1 := by decide
theorem w2 : IntKind.i64.wrap (1 + 1) = 2 := by decide
theorem w3 : IntKind.i64.wrap (2 + 1) = 3 := by decide
theorem tot_nil : tot [] = 0 := rfl
theorem tot_cons (p : List UInt8 × disk_file) (fs : FS) : tot (p :: fs) = p.2.bytes.length + tot fs := by simp [tot]
theorem tot_perm {a b : FS} (h : a.Perm b) : tot a = tot b := by
 unfold tot
 exact (h.map _).sum_nat
theorem used_fold (K : Nat) : ∀ (fs : FS) (n : Nat), n + tot fs ≤ 9000000000 → mfold (disk_Disk_Used.l17 K) fs (n : Int) = some ((n + tot fs : Nat) : Int)
 | [], n, _ => rfl
 | p :: fs, n, h => by
  rw [tot_cons] at h ⊢
  unfold mfold
  unfold disk_Disk_Used.l17
  simp only [Option.bind_some]
  have : IntKind.i64.wrap ((n : Int) + (p.2.bytes.length : Int)) = ((n + p.2.bytes.length : Nat) : Int) := by rw [Eng.wrap_small (by omega) (by omega)]; omega
  rw [this]
  have := used_fold K fs (n + p.2.bytes.length) (by omega)
  unfold disk_Disk_Used.l17 at this
  rw [this]
  congr 2
  omega
theorem used_eq {K : Nat} {fs : FS} (h : tot fs ≤ 9000000000) (r : Int) (s f : Bool) (u : Int) : disk_Disk_Used K r fs s f u = some (tot fs : Int) := by
 have := used_fold K fs 0 (by omega)
 simp only [Nat.zero_add] at this
 unfold disk_Disk_Used disk_Disk_ok
 simp only [Option.bind_some]
 rw [show ((0 : Int)) = ((0 : Nat) : Int) from rfl, this]
 rfl
theorem named1 {K : Nat} (hK : 100 ≤ K) (r : Int) (fs : FS) (s f : Bool) (u : Int) (p : List UInt8) : disk_Disk_named K r fs s f u [p] = some (if s = true then 28 else if badn p = true then 8 else 0) := by
 obtain ⟨k, rfl⟩ : ∃ k, K = k + 2 := ⟨K - 2, by omega⟩
 unfold disk_Disk_named disk_Disk_working disk_Disk_ok
 cases s with
 | true => simp
 | false =>
  simp only [Option.bind_some, Bool.false_eq_true, if_false, ne_eq, not_true]
  unfold disk_Disk_named.l17
  by_cases h1 : p = []
  ·simp [h1, obind, badn]
  ·by_cases h2 : (p.length : Int) > 64
   ·simp [h1, obind, badn]
    rw [if_pos h2, if_pos (by omega)]
   ·have h3 : ¬ 64 < p.length := by omega
    simp only [List.length_cons, List.length_nil, List.getD_cons_zero, Int.toNat_zero, h1, h2, if_false, badn, h3, decide_false, Bool.or_self, Bool.false_eq_true, w1]
    unfold disk_Disk_named.l17
    simp [obind]
theorem named2 {K : Nat} (hK : 100 ≤ K) (r : Int) (fs : FS) (s f : Bool) (u : Int) (p q : List UInt8) : disk_Disk_named K r fs s f u [p, q] = some (if s = true then 28 else if badn p = true ∨ badn q = true then 8 else 0) := by
 obtain ⟨k, rfl⟩ : ∃ k, K = k + 3 := ⟨K - 3, by omega⟩
 unfold disk_Disk_named disk_Disk_working disk_Disk_ok
 cases s with
 | true => simp
 | false =>
  simp only [Option.bind_some, Bool.false_eq_true, if_false, ne_eq, not_true]
  unfold disk_Disk_named.l17
  by_cases h1 : p = []
  ·simp [h1, obind, badn]
  ·by_cases h2 : (p.length : Int) > 64
   ·simp [h1, obind, badn]
    rw [if_pos h2, if_pos (by omega)]
   ·have h3 : ¬ 64 < p.length := by omega
    have hb : badn p = false := by simp [badn, h1]; omega
    simp only [List.length_cons, List.length_nil, List.getD_cons_zero, Int.toNat_zero, h1, h2, if_false, w1, hb, Bool.false_eq_true, false_or]
    unfold disk_Disk_named.l17
    by_cases h4 : q = []
    ·simp [h4, obind, badn]
    ·by_cases h5 : (q.length : Int) > 64
     ·simp [h4, obind, badn]
      rw [if_pos h5, if_pos (by omega)]
     ·have h6 : ¬ 64 < q.length := by omega
      have hb2 : badn q = false := by simp [badn, h4]; omega
      have e1 : Int.toNat 1 = 1 := rfl
      simp only [List.length_cons, List.length_nil, e1, List.getD_cons_succ, List.getD_cons_zero, h4, h5, if_false, w2, hb2, Bool.false_eq_true]
      unfold disk_Disk_named.l17
      simp [obind]
theorem clone_eq {K : Nat} {x : List UInt8} (h : x.length ≤ 9000000000) : slices_Clone_26 K x = some x := by
 unfold slices_Clone_26
 rw [if_pos (by omega)]
def spend (f : Bool) (u : Int) : Option Int := if f = true then (if u = 0 then none else some (u - 1)) else some u
def err1 (s : Bool) (p : List UInt8) : Int := if s = true then 28 else if badn p = true then 8 else 0
def err2 (s : Bool) (p q : List UInt8) : Int := if s = true then 28 else if badn p = true ∨ badn q = true then 8 else 0
theorem mfind_len {fs : FS} {nm : List UInt8} : (fileOf nm fs).bytes.length ≤ tot fs := by
 unfold fileOf
 induction fs with
 | nil => simp [mfind]
 | cons p fs ih =>
  rw [tot_cons]
  unfold mfind
  split
  ·simp
  ·omega
theorem append_eq {K : Nat} (hK : 100 ≤ K) (nm b : List UInt8) (r : Int) (s f : Bool) (u : Int) (fs : FS) (ht : tot fs ≤ 4194304) (hr0 : 0 ≤ r) (hr : r ≤ 4194304) (hu : 0 ≤ u ∧ u ≤ 9223372036854775807) :
  disk_Disk_Append_v2 K nm b r s f u fs = some (
   if err1 s nm ≠ 0 then (err1 s nm, s, u, fs)
   else if (b.length : Int) > r - tot fs then (18, s, u, fs)
   else match spend f u with
    | none => (28, true, u, fs)
    | some u' => (0, s, u', mput nm ⟨(fileOf nm fs).bytes ++ b, (fileOf nm fs).safe⟩ fs)) := by
 unfold disk_Disk_Append_v2
 rw [named1 hK]
 have he : (if s = true then (28 : Int) else if badn nm = true then 8 else 0) = err1 s nm := rfl
 rw [he]
 simp only [Option.bind_some]
 by_cases h1 : err1 s nm ≠ 0
 ·simp only [if_pos h1]
 ·simp only [if_neg h1]
  rw [used_eq (by omega)]
  simp only [Option.bind_some]
  rw [Eng.wrap_small (by omega) (by omega)]
  by_cases h2 : (b.length : Int) > r - tot fs
  ·simp only [if_pos h2]
  ·simp only [if_neg h2]
   have hb : b.length ≤ 4194304 := by omega
   have hl := mfind_len (fs := fs) (nm := nm)
   have hc : ∀ u', disk_Disk_Append_c1 K nm b r s f u' fs = some (nm, b, mput nm ⟨(fileOf nm fs).bytes ++ b, (fileOf nm fs).safe⟩ fs) := fun u' => by
    unfold disk_Disk_Append_c1
    rw [if_pos (by unfold fileOf at hl; omega), if_pos (by unfold fileOf at hl; omega)]
    rfl
   unfold disk_Disk_change_v3 spend
   cases f with
   | false => simp [hc]
   | true =>
    by_cases h0 : u = 0
    ·simp [h0]
    ·simp only [h0, if_true, if_false, hc, Option.bind_some]
     rw [Eng.wrap_small (by omega) (by omega)]
theorem existing1 {K : Nat} (hK : 100 ≤ K) (nm : List UInt8) (r : Int) (s f : Bool) (u : Int) (fs : FS) :
  disk_Disk_existing_v2 K nm [] r s f u fs = some (if err1 s nm ≠ 0 then (⟨[], 0⟩, err1 s nm, fs) else if (mfind nm fs).isSome = true then (fileOf nm fs, 0, fs) else (⟨[], 0⟩, 15, fs)) := by
 unfold disk_Disk_existing_v2
 rw [if_pos (by simp)]
 simp only [List.append_nil]
 rw [named1 hK]
 have he : (if s = true then (28 : Int) else if badn nm = true then 8 else 0) = err1 s nm := rfl
 rw [he]
 simp only [Option.bind_some, fileOf]
 split
 ·rfl
 ·split <;> rfl
theorem existing2 {K : Nat} (hK : 100 ≤ K) (nm to : List UInt8) (r : Int) (s f : Bool) (u : Int) (fs : FS) :
  disk_Disk_existing_v2 K nm [to] r s f u fs = some (if err2 s nm to ≠ 0 then (⟨[], 0⟩, err2 s nm to, fs) else if (mfind nm fs).isSome = true then (fileOf nm fs, 0, fs) else (⟨[], 0⟩, 15, fs)) := by
 unfold disk_Disk_existing_v2
 rw [if_pos (by simp)]
 simp only [List.cons_append, List.nil_append]
 rw [named2 hK]
 have he : (if s = true then (28 : Int) else if badn nm = true ∨ badn to = true then 8 else 0) = err2 s nm to := rfl
 rw [he]
 simp only [Option.bind_some, fileOf]
 split
 ·rfl
 ·split <;> rfl
def err1x (s : Bool) (nm : List UInt8) (fs : FS) : Int := if err1 s nm ≠ 0 then err1 s nm else if (mfind nm fs).isSome = true then 0 else 15
def err2x (s : Bool) (nm to : List UInt8) (fs : FS) : Int := if err2 s nm to ≠ 0 then err2 s nm to else if (mfind nm fs).isSome = true then 0 else 15
def chg (e : Int) (s f : Bool) (u : Int) (fs fs' : FS) : Int × Bool × Int × FS :=
 if e ≠ 0 then (e, s, u, fs) else match spend f u with
  | none => (28, true, u, fs)
  | some u' => (0, s, u', fs')
theorem sync_eq {K : Nat} (hK : 100 ≤ K) (nm : List UInt8) (r : Int) (s f : Bool) (u : Int) (fs : FS) (hu : 0 ≤ u ∧ u ≤ 9223372036854775807) :
  disk_Disk_Sync_v2 K nm r s f u fs = some (chg (err1x s nm fs) s f u fs (mput nm ⟨(fileOf nm fs).bytes, ((fileOf nm fs).bytes.length : Int)⟩ fs)) := by
 unfold disk_Disk_Sync_v2 chg err1x
 rw [existing1 hK]
 by_cases h1 : err1 s nm ≠ 0
 ·simp [h1]
 ·by_cases h2 : (mfind nm fs).isSome = true
  ·simp only [h1, h2, if_false, if_true, Option.bind_some, ne_eq, not_true]
   unfold disk_Disk_change_v5 spend disk_Disk_Sync_c1
   cases f with
   | false => simp
   | true =>
    by_cases h0 : u = 0
    ·simp [h0]
    ·simp only [h0, if_true, if_false, Option.bind_some]
     rw [Eng.wrap_small (by omega) (by omega)]
  ·simp [h1, h2]
theorem rename_eq {K : Nat} (hK : 100 ≤ K) (nm to : List UInt8) (r : Int) (s f : Bool) (u : Int) (fs : FS) (hu : 0 ≤ u ∧ u ≤ 9223372036854775807) :
  disk_Disk_Rename_v3 K nm to r s f u fs = some (chg (err2x s nm to fs) s f u fs (mput to (fileOf nm fs) (mdel nm fs))) := by
 unfold disk_Disk_Rename_v3 chg err2x
 rw [existing2 hK]
 by_cases h1 : err2 s nm to ≠ 0
 ·simp [h1]
 ·by_cases h2 : (mfind nm fs).isSome = true
  ·simp only [h1, h2, if_false, if_true, Option.bind_some, ne_eq, not_true]
   unfold disk_Disk_change_v7 spend disk_Disk_Rename_c1
   cases f with
   | false => simp
   | true =>
    by_cases h0 : u = 0
    ·simp [h0]
    ·simp only [h0, if_true, if_false, Option.bind_some]
     rw [Eng.wrap_small (by omega) (by omega)]
  ·simp [h1, h2]
theorem remove_eq {K : Nat} (hK : 100 ≤ K) (nm : List UInt8) (r : Int) (s f : Bool) (u : Int) (fs : FS) (hu : 0 ≤ u ∧ u ≤ 9223372036854775807) :
  disk_Disk_Remove_v3 K nm r s f u fs = some (chg (err1x s nm fs) s f u fs (mdel nm fs)) := by
 unfold disk_Disk_Remove_v3 chg err1x
 rw [existing1 hK]
 by_cases h1 : err1 s nm ≠ 0
 ·simp [h1]
 ·by_cases h2 : (mfind nm fs).isSome = true
  ·simp only [h1, h2, if_false, if_true, Option.bind_some, ne_eq, not_true]
   unfold disk_Disk_change_v9 spend disk_Disk_Remove_c1
   cases f with
   | false => simp
   | true =>
    by_cases h0 : u = 0
    ·simp [h0]
    ·simp only [h0, if_true, if_false, Option.bind_some]
     rw [Eng.wrap_small (by omega) (by omega)]
  ·simp [h1, h2]
theorem read_eq {K : Nat} (hK : 100 ≤ K) (nm : List UInt8) (r : Int) (s f : Bool) (u : Int) (fs : FS) (ht : tot fs ≤ 4194304) :
  disk_Disk_Read_v2 K nm r s f u fs = some (if err1x s nm fs ≠ 0 then ([], err1x s nm fs, fs) else ((fileOf nm fs).bytes, 0, fs)) := by
 unfold disk_Disk_Read_v2 err1x
 rw [existing1 hK]
 by_cases h1 : err1 s nm ≠ 0
 ·simp [h1]
 ·by_cases h2 : (mfind nm fs).isSome = true
  ·simp only [h1, h2, if_false, if_true, Option.bind_some, ne_eq, not_true]
   rw [clone_eq (by have := mfind_len (fs := fs) (nm := nm); omega)]
   rfl
  ·simp [h1, h2]
theorem fuse_eq {K : Nat} (n : Int) (r : Int) (s f : Bool) (u : Int) (fs : FS) :
  disk_Disk_Fuse_v2 K n r s f u fs = some (if s = true then (28, f, u, fs) else if n < 0 then (2, f, u, fs) else (0, true, n, fs)) := by
 unfold disk_Disk_Fuse_v2 disk_Disk_working disk_Disk_ok
 cases s <;> simp
 split <;> rfl
theorem dead_eq {K : Nat} (r : Int) (s f : Bool) (u : Int) (fs : FS) : disk_Disk_Dead K r fs s f u = some () := rfl
end Go.Proofs.Ytegkigdobekgjaa
