/- The law. -/
import Derived.Test.YtegkigdobekgjaaLwF
set_option linter.unusedVariables false
set_option linter.unusedSimpArgs false
set_option maxHeartbeats 2000000
namespace Go.Proofs.Ytegkigdobekgjaa
open Eng
theorem spent_eq {K : Nat} (a : Int) (f : Bool) (u : Int) (s : Bool) (l : List RFile) (hu : 0 ≤ u ∧ u ≤ 9223372036854775807) :
  workflowref50_Disk_spent_v3 K a (leftOf f u) s l = some (match spend f u with | none => (true, leftOf f u, true, l) | some u' => (false, leftOf f u', s, l)) := by
 unfold workflowref50_Disk_spent_v3 leftOf spend
 cases f with
 | false => simp
 | true =>
  simp only [if_true]
  by_cases h : u = 0
  ·simp [h]
  ·rw [if_neg h, if_pos (by omega), if_neg h, Eng.wrap_small (by omega) (by omega)]
theorem change_eq {K : Nat} {fs : FS} (hk : fs.length < K) (hl : fs.length ≤ 100000) (a b : Int) (s : Bool) (nm : List UInt8) :
  workflowref50_Disk_change K (RF fs) a b s nm = some (if s = true then ((0 : Int), (28 : Int)) else if badn nm = true then ((0 : Int), (8 : Int)) else match idx nm fs with | none => ((0 : Int), (15 : Int)) | some i => ((i : Int), (0 : Int))) := by
 unfold workflowref50_Disk_change
 rw [ready_eq]
 cases s with
 | true => simp
 | false =>
  simp only [Bool.false_eq_true, if_false, Option.bind_some, ne_eq, not_true, rnamed_eq]
  cases badn nm with
  | true => simp
  | false =>
   simp only [Bool.not_false, if_true, Bool.false_eq_true, if_false]
   rw [at_eq hk (by omega)]
   cases idx nm fs with
   | none => simp
   | some i => simp only [Option.bind_some]; rw [if_neg (by omega)]
abbrev R4 := (Int × Int × Bool × (List workflowref50_File)) ⊕ (Int × Bool × (List workflowref50_File) × (List workflowref50_File))
def m4 : R4 → Int × Int × Bool × List RFile
 | Sum.inl (e, l, s, x) => (e, l, s, x)
 | Sum.inr (l, s, _, x) => (0, l, s, x)
def rc (f : Bool) (c : Int × Bool × Int × FS) : Int × Int × Bool × List RFile := (c.1, leftOf f c.2.2.1, c.2.1, RF c.2.2.2)
theorem get_RF {fs : FS} {i : Nat} {p : List UInt8 × disk_file} (h : fs[i]? = some p) : (RF fs).getD (Int.toNat (i : Int)) z_workflowref50_File = rf p := by
 rw [toNat_len]
 simp [RF, List.getD_eq_getElem?_getD, h]
theorem chg_ne {e : Int} (he : e ≠ 0) (s f : Bool) (u : Int) (fs fs' : FS) : chg e s f u fs fs' = (e, s, u, fs) := if_pos he
theorem rappend {K : Nat} {fs : FS} (hk : fs.length < K) (hl : fs.length ≤ 100000) (nm b : List UInt8) (r : Int) (s f : Bool) (u : Int) (ht : tot fs ≤ 4194304) (hr0 : 0 ≤ r) (hr : r ≤ 4194304) (hu : 0 ≤ u ∧ u ≤ 9223372036854775807) :
  ∃ res, workflowref50_Disk_Append_v3 K nm b r (leftOf f u) s (RF fs) = some res ∧ m4 res = rc f (appS nm b r s f u fs) := by
 unfold workflowref50_Disk_Append_v3 appS err1
 rw [ready_eq]
 cases s with
 | true => exact ⟨_, by simp; rfl, rfl⟩
 | false =>
  simp only [Bool.false_eq_true, if_false, Option.bind_some, ne_eq, not_true, rnamed_eq]
  cases hb : badn nm with
  | true => exact ⟨_, by simp; rfl, rfl⟩
  | false =>
   simp only [Bool.not_false, if_true, Bool.false_eq_true, if_false, not_true]
   rw [rused_eq hk (by omega) (by omega)]
   simp only [Option.bind_some]
   rw [Eng.wrap_small (by omega) (by omega)]
   by_cases hlen : (b.length : Int) > r - tot fs
   ·rw [if_pos hlen, if_pos hlen]
    exact ⟨_, rfl, rfl⟩
   ·rw [if_neg hlen, if_neg hlen, spent_eq _ _ _ _ _ hu]
    unfold chg
    simp only [ne_eq, not_true, if_false]
    cases hs : spend f u with
    | none => exact ⟨_, by simp; rfl, rfl⟩
    | some u' =>
     simp only [Option.bind_some, Bool.false_eq_true, if_false]
     rw [at_eq hk (by omega)]
     simp only [Option.bind_some]
     have hfl := mfind_len (fs := fs) (nm := nm)
     rcases idx_spec nm fs with ⟨h1, h2⟩ | ⟨i, x, h1, h2, h3, h4⟩
     ·rw [h1]
      simp only
      rw [if_neg (by omega)]
      simp only [Option.bind_some]
      rw [if_pos (by simp), if_pos (by simp; omega)]
      have e : (⟨nm, (([] : List UInt8) ++ []) ++ b, 0⟩ : workflowref50_File) = rf (nm, ⟨(fileOf nm fs).bytes ++ b, (fileOf nm fs).safe⟩) := by rw [fileOf_none h2]; rfl
      rw [e, put_eq hk hl]
      exact ⟨_, rfl, rfl⟩
     ·rw [h1]
      simp only
      have hfx := fileOf_some h3
      rw [hfx] at hfl
      rw [if_pos (by omega), if_pos ⟨by omega, by rw [RF_len]; omega⟩, if_pos (by rw [RF_len, toNat_len]; exact h2)]
      simp only [get_RF h4, Option.bind_some, rf]
      rw [if_pos (by simp; omega), if_pos (by simp; omega)]
      have e : (⟨nm, (([] : List UInt8) ++ x.bytes) ++ b, x.safe⟩ : workflowref50_File) = rf (nm, ⟨(fileOf nm fs).bytes ++ b, (fileOf nm fs).safe⟩) := by rw [hfx]; rfl
      rw [e, put_eq hk hl]
      exact ⟨_, rfl, rfl⟩
theorem rsync {K : Nat} {fs : FS} (hk : fs.length < K) (hl : fs.length ≤ 100000) (nm : List UInt8) (r : Int) (s f : Bool) (u : Int) (hu : 0 ≤ u ∧ u ≤ 9223372036854775807) :
  ∃ res, workflowref50_Disk_Sync_v3 K nm r (leftOf f u) s (RF fs) = some res ∧ m4 res = rc f (chg (err1x s nm fs) s f u fs (mput nm ⟨(fileOf nm fs).bytes, ((fileOf nm fs).bytes.length : Int)⟩ fs)) := by
 unfold workflowref50_Disk_Sync_v3 err1x err1
 rw [change_eq hk hl]
 cases s with
 | true => exact ⟨_, by simp; rfl, rfl⟩
 | false =>
  cases hb : badn nm with
  | true => exact ⟨_, by simp; rfl, rfl⟩
  | false =>
   rcases idx_spec nm fs with ⟨h1, h2⟩ | ⟨i, x, h1, h2, h3, h4⟩
   ·rw [h1, h2]
    exact ⟨_, by simp; rfl, rfl⟩
   ·rw [h1, h3]
    simp only [Bool.false_eq_true, if_false, Option.bind_some, ne_eq, not_true, Option.isSome_some, if_true]
    rw [spent_eq _ _ _ _ _ hu]
    unfold chg
    simp only [ne_eq, not_true, if_false]
    cases hs : spend f u with
    | none => exact ⟨_, by simp; rfl, rfl⟩
    | some u' =>
     simp only [Option.bind_some, Bool.false_eq_true, if_false]
     rw [if_pos ⟨by omega, by rw [RF_len]; omega⟩, if_pos (by rw [RF_len, toNat_len]; exact h2)]
     simp only [get_RF h4, rf, fileOf_some h3]
     have e : (⟨nm, x.bytes, (x.bytes.length : Int)⟩ : workflowref50_File) = rf (nm, ⟨x.bytes, (x.bytes.length : Int)⟩) := rfl
     rw [e, put_eq hk hl]
     exact ⟨_, rfl, rfl⟩
theorem rremove {K : Nat} {fs : FS} (hk : fs.length < K) (hl : fs.length ≤ 100000) (nm : List UInt8) (r : Int) (s f : Bool) (u : Int) (hu : 0 ≤ u ∧ u ≤ 9223372036854775807) :
  ∃ res, workflowref50_Disk_Remove_v3 K nm r (leftOf f u) s (RF fs) = some res ∧ m4 res = rc f (chg (err1x s nm fs) s f u fs (mdel nm fs)) := by
 unfold workflowref50_Disk_Remove_v3 err1x err1
 rw [change_eq hk hl]
 cases s with
 | true => exact ⟨_, by simp; rfl, rfl⟩
 | false =>
  cases hb : badn nm with
  | true => exact ⟨_, by simp; rfl, rfl⟩
  | false =>
   rcases idx_spec nm fs with ⟨h1, h2⟩ | ⟨i, x, h1, h2, h3, h4⟩
   ·rw [h1, h2]
    exact ⟨_, by simp; rfl, rfl⟩
   ·rw [h1, h3]
    simp only [Bool.false_eq_true, if_false, Option.bind_some, ne_eq, not_true, Option.isSome_some, if_true]
    rw [spent_eq _ _ _ _ _ hu]
    unfold chg
    simp only [ne_eq, not_true, if_false]
    cases hs : spend f u with
    | none => exact ⟨_, by simp; rfl, rfl⟩
    | some u' =>
     simp only [Option.bind_some, Bool.false_eq_true, if_false]
     rw [cut_eq hk (by omega)]
     exact ⟨_, rfl, rfl⟩
theorem rrename {K : Nat} {fs : FS} (hk : fs.length < K) (hl : fs.length ≤ 100000) (nm to : List UInt8) (r : Int) (s f : Bool) (u : Int) (hu : 0 ≤ u ∧ u ≤ 9223372036854775807) :
  ∃ res, workflowref50_Disk_Rename_v3 K nm to r (leftOf f u) s (RF fs) = some res ∧ m4 res = rc f (chg (err2x s nm to fs) s f u fs (mput to (fileOf nm fs) (mdel nm fs))) := by
 unfold workflowref50_Disk_Rename_v3 err2x err2
 rw [ready_eq]
 cases s with
 | true => exact ⟨_, by simp; rfl, rfl⟩
 | false =>
  simp only [Bool.false_eq_true, if_false, Option.bind_some, ne_eq, not_true, rnamed_eq]
  cases hb : badn nm with
  | true => exact ⟨_, by simp; rfl, rfl⟩
  | false =>
   cases hb2 : badn to with
   | true => exact ⟨_, by simp; rfl, rfl⟩
   | false =>
    simp only [Bool.not_false, if_true, Bool.false_eq_true, if_false, not_true, or_self]
    rw [at_eq hk (by omega)]
    rcases idx_spec nm fs with ⟨h1, h2⟩ | ⟨i, x, h1, h2, h3, h4⟩
    ·rw [h1, h2]
     exact ⟨_, by simp; rfl, rfl⟩
    ·rw [h1, h3]
     simp only [Option.bind_some, Option.isSome_some, if_true]
     rw [if_neg (by omega), spent_eq _ _ _ _ _ hu]
     unfold chg
     simp only [ne_eq, not_true, if_false]
     cases hs : spend f u with
     | none => exact ⟨_, by simp; rfl, rfl⟩
     | some u' =>
      simp only [Option.bind_some, Bool.false_eq_true, if_false]
      rw [if_pos ⟨by omega, by rw [RF_len]; omega⟩, if_pos (by rw [RF_len, toNat_len]; exact h2), cut_eq hk (by omega)]
      simp only [get_RF h4, rf, fileOf_some h3, Option.bind_some]
      have e : (⟨to, x.bytes, x.safe⟩ : workflowref50_File) = rf (to, x) := rfl
      have hd := len_mdel fs nm
      rw [e, put_eq (fs := mdel nm fs) (by omega) (by omega)]
      exact ⟨_, rfl, rfl⟩
abbrev R5 := (Int × (List UInt8) × Int × Bool × (List workflowref50_File)) ⊕ ((Int × Bool × (List workflowref50_File) × (List workflowref50_File)) ⊕ ((List workflowref50_File) × (List workflowref50_File)))
def m5 (l0 : Int) (s0 : Bool) : R5 → Int × List UInt8 × Int × Bool × List RFile
 | Sum.inl (e, b, l, s, x) => (e, b, l, s, x)
 | Sum.inr (Sum.inl (l, s, _, x)) => (0, [], l, s, x)
 | Sum.inr (Sum.inr (_, x)) => (0, [], l0, s0, x)
def rs (o : Int × List UInt8 × Bool × Bool × Int × FS) : Int × List UInt8 × Int × Bool × List RFile := (o.1, o.2.1, leftOf o.2.2.2.1 o.2.2.2.2.1, o.2.2.1, RF o.2.2.2.2.2)
theorem via4 {l0 : Int} {s0 f : Bool} {c : Int × Bool × Int × FS} {x : Option R4} (h : ∃ res, x = some res ∧ m4 res = rc f c) :
  ∃ res, (Option.bind x (fun a1 => match a1 with | (Sum.inl (a1_0, a1_1, a1_2, a1_3)) => some (Sum.inl (a1_0, ([] : List UInt8), a1_1, a1_2, a1_3)) | (Sum.inr (a1_0, a1_1, a1_2, a1_3)) => some (Sum.inr (Sum.inl (a1_0, a1_1, a1_2, a1_3)))) : Option R5) = some res ∧ m5 l0 s0 res = rs (c.1, [], c.2.1, f, c.2.2.1, c.2.2.2) := by
 obtain ⟨res, rfl, h2⟩ := h
 rcases res with ⟨e, l, s, y⟩ | ⟨l, s, y0, y⟩
 ·refine ⟨_, rfl, ?_⟩
  simp only [m4, rc, Prod.mk.injEq] at h2
  obtain ⟨rfl, rfl, rfl, rfl⟩ := h2
  rfl
 ·refine ⟨_, rfl, ?_⟩
  simp only [m4, rc, Prod.mk.injEq] at h2
  obtain ⟨h3, rfl, rfl, rfl⟩ := h2
  simp only [m5, rs, ← h3]
theorem rread {K : Nat} {fs : FS} (hk : fs.length < K) (hl : fs.length ≤ 100000) (nm : List UInt8) (r l : Int) (s : Bool) (ht : tot fs ≤ 4194304) :
  workflowref50_Disk_Read K (RF fs) r l s nm = some (if err1x s nm fs ≠ 0 then ([], err1x s nm fs) else ((fileOf nm fs).bytes, 0)) := by
 unfold workflowref50_Disk_Read err1x err1
 rw [change_eq hk hl]
 have hfl := mfind_len (fs := fs) (nm := nm)
 cases s with
 | true => simp
 | false =>
  cases hb : badn nm with
  | true => simp
  | false =>
   rcases idx_spec nm fs with ⟨h1, h2⟩ | ⟨i, x, h1, h2, h3, h4⟩
   ·rw [h1, h2]; simp
   ·rw [h1, h3]
    rw [fileOf_some h3] at hfl ⊢
    simp only [Bool.false_eq_true, if_false, Option.bind_some, ne_eq, not_true, Option.isSome_some, if_true]
    rw [if_pos ⟨by omega, by rw [RF_len]; omega⟩]
    simp only [get_RF h4, rf]
    rw [if_pos (by simp; omega)]
    simp
theorem rread3 {K : Nat} {fs : FS} (hk : fs.length < K) (hl : fs.length ≤ 100000) (nm : List UInt8) (r l : Int) (s : Bool) (ht : tot fs ≤ 4194304) :
  workflowref50_Disk_Read_v3 K nm r l s (RF fs) = some (if err1x s nm fs ≠ 0 then ([], err1x s nm fs, RF fs) else ((fileOf nm fs).bytes, 0, RF fs)) := by
 unfold workflowref50_Disk_Read_v3 err1x err1
 rw [change_eq hk hl]
 have hfl := mfind_len (fs := fs) (nm := nm)
 cases s with
 | true => simp
 | false =>
  cases hb : badn nm with
  | true => simp
  | false =>
   rcases idx_spec nm fs with ⟨h1, h2⟩ | ⟨i, x, h1, h2, h3, h4⟩
   ·rw [h1, h2]; simp
   ·rw [h1, h3]
    rw [fileOf_some h3] at hfl ⊢
    simp only [Bool.false_eq_true, if_false, Option.bind_some, ne_eq, not_true, Option.isSome_some, if_true]
    rw [if_pos ⟨by omega, by rw [RF_len]; omega⟩, if_pos (by rw [RF_len, toNat_len]; exact h2)]
    simp only [get_RF h4, rf]
    rw [if_pos (by simp; omega)]
    simp
theorem means_eq {K N : Nat} (hN : N < K) (hN2 : N ≤ 100000) (st : workflowlaw50_Step) (hn : st.N ≤ 9223372036854775807) {r : Int} {s f : Bool} {u : Int} {fs : FS} (h : Inv N fs) (ht : tot fs ≤ 4194304) (hr0 : 0 ≤ r) (hr : r ≤ 4194304) (hu : 0 ≤ u ∧ u ≤ 9223372036854775807) :
  ∃ res, workflowlaw50_means_v3 K st r (leftOf f u) s (RF fs) = some res ∧ m5 (leftOf f u) s res = rs (doesS st r s f u fs) := by
 have hk : fs.length < K := by have := h.n; omega
 have hl : fs.length ≤ 100000 := by have := h.n; omega
 unfold workflowlaw50_means_v3 doesS
 by_cases k0 : st.Kind = 0
 ·simp only [if_pos k0]; exact via4 (rappend hk hl _ _ _ _ _ _ ht hr0 hr hu)
 by_cases k1 : st.Kind = 1
 ·simp only [if_neg k0, if_pos k1]; exact via4 (rsync hk hl _ _ _ _ _ hu)
 by_cases k2 : st.Kind = 2
 ·simp only [if_neg k0, if_neg k1, if_pos k2]; exact via4 (rrename hk hl _ _ _ _ _ _ hu)
 by_cases k3 : st.Kind = 3
 ·simp only [if_neg k0, if_neg k1, if_neg k2, if_pos k3]; exact via4 (rremove hk hl _ _ _ _ _ hu)
 by_cases k4 : st.Kind = 4
 ·simp only [if_neg k0, if_neg k1, if_neg k2, if_neg k3, if_pos k4]
  rw [rread3 hk hl _ _ _ _ ht]
  by_cases e : err1x s st.Name fs ≠ 0
  ·simp only [if_pos e]; exact ⟨_, rfl, rfl⟩
  ·simp only [if_neg e]; exact ⟨_, rfl, rfl⟩
 by_cases k5 : st.Kind = 5
 ·simp only [if_neg k0, if_neg k1, if_neg k2, if_neg k3, if_neg k4, if_pos k5]
  unfold workflowref50_Disk_Fuse_v3
  rw [ready_eq]
  cases s with
  | true => exact ⟨_, by simp; rfl, rfl⟩
  | false =>
   by_cases e2 : st.N < 0
   ·exact ⟨_, by simp [e2]; rfl, by simp [e2, m5, rs]⟩
   ·exact ⟨_, by simp [e2]; rfl, by simp [e2, m5, rs, leftOf]⟩
 by_cases k6 : st.Kind = 6
 ·simp only [if_neg k0, if_neg k1, if_neg k2, if_neg k3, if_neg k4, if_neg k5, if_pos k6]
  unfold workflowref50_Disk_Crash_v3
  rw [none_eq]
  simp only [Option.bind_some]
  by_cases e2 : st.N < 0
  ·simp only [if_pos e2]; exact ⟨_, rfl, rfl⟩
  ·have := rcrash_loop K st.N (by omega) hn fs [] [] K (fun p hp => ⟨(h.f p hp).1, (h.f p hp).2, by have := len_tot hp; omega⟩) hk (by simp; omega) (by simp; omega)
   have this' : workflowref50_Disk_Crash_v3.l25 K st.N (RF fs) K 0 [] = some (RF (crashed st.N fs)) := this
   simp only [if_neg e2]
   rw [this']
   exact ⟨_, rfl, rfl⟩
 ·simp only [if_neg k0, if_neg k1, if_neg k2, if_neg k3, if_neg k4, if_neg k5, if_neg k6]
  unfold workflowref50_Disk_Copy_v3
  rw [none_eq]
  have := rcopy_loop K fs [] [] K (fun p hp => by have := len_tot hp; omega) hk (by simp; omega) (by simp; omega)
  have this' : workflowref50_Disk_Copy_v3.l17 K (RF fs) K 0 [] = some (RF fs) := this
  simp only [Option.bind_some]
  rw [this']
  exact ⟨_, rfl, rfl⟩
theorem names_loop (K : Nat) (l : List (List UInt8)) (hl : l.length ≤ 1000000) : ∀ (k i : Nat), i ≤ l.length → l.length - i < k → workflowlaw50_names.l15 K l l k (i : Int) = some (Out.go ()) := by
 intro k
 induction k with
 | zero => intro i _ h; omega
 | succ k ih =>
  intro i hi hk
  unfold workflowlaw50_names.l15
  by_cases h : i < l.length
  ·rw [if_pos (by omega), if_pos ⟨by omega, by omega⟩, if_pos (by omega), if_neg (by simp), wrap_succ (by omega)]
   exact ih (i + 1) (by omega) (by omega)
  ·rw [if_neg (by omega)]
theorem names_same {K : Nat} {l : List (List UInt8)} (hl : l.length ≤ 1000000) (hk : l.length < K) : workflowlaw50_names K l l = some true := by
 unfold workflowlaw50_names
 rw [if_neg (by simp)]
 have := names_loop K l hl K 0 (by omega) (by omega)
 have this' : workflowlaw50_names.l15 K l l K 0 = some (Out.go ()) := this
 rw [this']
 rfl
theorem read_eq1 {K : Nat} (hK : 100 ≤ K) (nm : List UInt8) (r : Int) (s f : Bool) (u : Int) (fs : FS) (ht : tot fs ≤ 4194304) :
  disk_Disk_Read K r fs s f u nm = some (if err1x s nm fs ≠ 0 then ([], err1x s nm fs) else ((fileOf nm fs).bytes, 0)) := by
 unfold disk_Disk_Read disk_Disk_existing err1x
 rw [if_pos (by simp)]
 simp only [List.append_nil]
 rw [named1 hK]
 have he : (if s = true then (28 : Int) else if badn nm = true then 8 else 0) = err1 s nm := rfl
 rw [he]
 have hf : (mfind nm fs).getD z_disk_file = fileOf nm fs := rfl
 rw [hf]
 by_cases h1 : err1 s nm ≠ 0
 ·simp [h1]
 ·cases hm : mfind nm fs with
  | none =>
   have h1' : err1 s nm = 0 := by simpa using h1
   simp [h1', hm]
  | some x =>
   simp only [h1, if_false, Option.isSome_some, if_true, Option.bind_some, ne_eq, not_true]
   rw [clone_eq (by have := mfind_len (fs := fs) (nm := nm); omega)]
   rfl
theorem same_loop {K : Nat} (hK : 100 ≤ K) {fs : FS} (hk : fs.length < K) (hl : fs.length ≤ 100000) (ht : tot fs ≤ 4194304) (r : Int) (s f : Bool) (u l : Int) (nms : List (List UInt8)) (hn : nms.length ≤ 1000000) : ∀ (k i : Nat), i ≤ nms.length → nms.length - i < k →
  workflowlaw50_same.l17 K r fs s f u (RF fs) r l s nms k (i : Int) = some (Out.go ()) := by
 intro k
 induction k with
 | zero => intro i _ h; omega
 | succ k ih =>
  intro i hi hk'
  unfold workflowlaw50_same.l17
  by_cases h : i < nms.length
  ·rw [if_pos (by omega), if_pos ⟨by omega, by omega⟩, read_eq1 hK _ _ _ _ _ _ ht, rread hk hl _ _ _ _ ht]
   simp only [Option.bind_some]
   rw [if_neg (by simp)]
   unfold workflowlaw50_equal
   simp only [Option.bind_some, decide_true, if_true]
   rw [wrap_succ (by omega)]
   exact ih (i + 1) (by omega) (by omega)
  ·rw [if_neg (by omega)]
theorem same_eq {K N : Nat} (hK : 100 ≤ K) (hN : N < K) (hN2 : N ≤ 100000) {fs : FS} (h : Inv N fs) (ht : tot fs ≤ 4194304) (r : Int) (s f : Bool) (u l : Int) : workflowlaw50_same K r fs s f u (RF fs) r l s = some true := by
 have hk : fs.length < K := by have := h.n; omega
 have hl : fs.length ≤ 100000 := by have := h.n; omega
 unfold workflowlaw50_same
 rw [rnames_eq hk (by omega)]
 simp only [Option.bind_some, dead_eq]
 have hd : workflowref50_Disk_Dead K (RF fs) r l s = some () := rfl
 rw [hd]
 simp only [Option.bind_some, beq_self_eq_true, if_true]
 rw [used_eq (by omega), rused_eq hk (by omega) (by omega)]
 simp only [Option.bind_some]
 rw [if_neg (by simp), names_eq h (by omega)]
 simp only [Option.bind_some]
 rw [names_same (by simp; omega) (by simp; omega)]
 simp only [Option.bind_some, if_true]
 have := same_loop hK hk hl ht r s f u l (fs.map Prod.fst) (by simp; omega) K 0 (by omega) (by simp; omega)
 have this' : workflowlaw50_same.l17 K r fs s f u (RF fs) r l s (fs.map Prod.fst) K 0 = some (Out.go ()) := this
 rw [this']
 rfl
theorem works_loop (r : Int) (hr0 : 0 ≤ r) (hr : r ≤ 4194304) (l : List workflowlaw50_Step) (hl : l.length ≤ 60) (hn : ∀ st ∈ l, st.N ≤ 9223372036854775807) : ∀ (k i : Nat) (s f : Bool) (u : Int) (fs : FS), i ≤ l.length → l.length - i < k →
  Inv i fs → (tot fs : Int) ≤ r → 0 ≤ u ∧ u ≤ 9223372036854775807 → workflowlaw50_DiskWorks.l27 100000 r l k (i : Int) s f u (leftOf f u) s fs (RF fs) = some (Out.go ()) := by
 intro k
 induction k with
 | zero => intro i _ _ _ _ _ h; omega
 | succ k ih =>
  intro i s f u fs hi hk hI ht hu
  unfold workflowlaw50_DiskWorks.l27
  by_cases h : i < l.length
  ·rw [if_pos (by omega)]
   have hm : l.getD i z_workflowlaw50_Step ∈ l := getD_mem h _
   rw [toNat_len]
   rw [if_pos ⟨by omega, by omega⟩, if_pos ⟨by omega, by omega⟩]
   generalize l.getD i z_workflowlaw50_Step = st at hm
   have hS := step_ok (r := r) st (s := s) (f := f) (u := u) hI hu (hn st hm)
   obtain ⟨res, hres, hm5⟩ := means_eq (K := 100000) (N := i) (by omega) (by omega) st (hn st hm) (s := s) (f := f) hI (by omega) hr0 hr hu
   rw [hres]
   have hright : (Option.bind (some res) (fun a7 => match a7 with | (Sum.inl (a7_0, a7_1, a7_2, a7_3, a7_4)) => some (a7_0, a7_1, a7_2, a7_3, a7_4) | (Sum.inr (Sum.inl (a7_0, a7_1, a7_2, a7_3))) => some (0, ([] : List UInt8), a7_0, a7_1, a7_3) | (Sum.inr (Sum.inr (a7_0, a7_1))) => some (0, ([] : List UInt8), leftOf f u, s, a7_1)) : Option (Int × (List UInt8) × Int × Bool × (List workflowref50_File))) = some (rs (doesS st r s f u fs)) := by
    rw [← hm5]
    rcases res with ⟨_, _, _, _, _⟩ | ⟨_, _, _, _⟩ | ⟨_, _⟩ <;> rfl
   have hleft : (Option.bind (workflowlaw50_does_v3 100000 st r s f u fs) (fun a6 => match a6 with | (Sum.inl (a6_0, a6_1, a6_2, a6_3, a6_4, a6_5)) => some (a6_0, a6_1, a6_2, a6_3, a6_4, a6_5) | (Sum.inr (a6_0, a6_1)) => some (0, ([] : List UInt8), s, f, u, a6_1)) : Option (Int × (List UInt8) × Bool × Bool × Int × (List (List UInt8 × disk_file)))) = some (doesS st r s f u fs) := by
    rcases does_eq (K := 100000) (N := i) (by omega) (by omega) (by omega) st hI (by omega) hr0 hr hu with ⟨hc, h1, h2⟩ | h1
    ·rw [h1, h2]; rfl
    ·rw [h1]; rfl
   refine (congrArg (fun o => Option.bind o _) hleft).trans ?_
   simp only [Option.bind_some]
   refine (congrArg (fun o => Option.bind o _) hright).trans ?_
   generalize doesS st r s f u fs = o at hS
   obtain ⟨e, b, s', f', u', fs'⟩ := o
   obtain ⟨s1, s2, s3, s4, s5, s6, s7⟩ := hS
   simp only at s1 s2 s3
   have ht' := s3 ht
   simp only [rs, Option.bind_some]
   rw [if_neg (by simp)]
   unfold workflowlaw50_equal
   simp only [Option.bind_some, decide_true, if_true]
   rw [same_eq (by omega) (N := i + 1) (by omega) (by omega) s1 (by omega)]
   simp only [Option.bind_some, if_true]
   rw [wrap_succ (by omega)]
   exact ih (i + 1) s' f' u' fs' (by omega) (by omega) s1 ht' s2
  ·rw [if_neg (by omega)]
theorem works_law (r : Int) (l : List workflowlaw50_Step) (hf : Fits l) (hn : ∀ st ∈ l, st.N ≤ 9223372036854775807) : workflowlaw50_DiskWorks 100000 r l = some true := by
 unfold workflowlaw50_DiskWorks
 obtain ⟨b, h1, h2⟩ := small_eq (K := 100000) (by omega) hf
 rw [h1]
 cases b with
 | false => simp [lives_ok]
 | true =>
  simp only [Option.bind_some, if_true]
  unfold workflowref50_New
  by_cases h3 : r < 0
  ·unfold disk_New; simp [h3, lives_ok]
  by_cases h4 : r > 4194304
  ·unfold disk_New; simp [h3, h4, lives_ok]
  rw [dnew (by omega) (by omega)]
  simp only [Option.bind_some, if_neg h3, if_neg h4]
  have := works_loop r (by omega) (by omega) l (h2 rfl).1 hn 100000 0 false false 0 [] (by omega) (by have := (h2 rfl).1; omega) (Inv.nil 0) (by simp [tot]; omega) (by omega)
  have this' : workflowlaw50_DiskWorks.l27 100000 r l 100000 0 false false 0 (-1) false [] [] = some (Out.go ()) := this
  rw [this']
  simp [obind, lives_ok]
end Go.Proofs.Ytegkigdobekgjaa
