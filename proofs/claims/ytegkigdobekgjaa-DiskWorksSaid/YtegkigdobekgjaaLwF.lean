/- The law. -/
import Derived.Test.YtegkigdobekgjaaLwE
set_option linter.unusedVariables false
set_option linter.unusedSimpArgs false
set_option maxHeartbeats 2000000
namespace Go.Proofs.Ytegkigdobekgjaa
open Eng
abbrev RFile := workflowref50_File
def rf (p : List UInt8 × disk_file) : RFile := ⟨p.1, p.2.bytes, p.2.safe⟩
def RF (fs : FS) : List RFile := fs.map rf
theorem RF_len (fs : FS) : (RF fs).length = fs.length := by simp [RF]
theorem RF_app (a b : FS) : RF (a ++ b) = RF a ++ RF b := by simp [RF]
theorem RF_get (A B : FS) (p : List UInt8 × disk_file) : (RF (A ++ p :: B)).getD A.length z_workflowref50_File = rf p := by
 simp [RF, List.getD_eq_getElem?_getD]
def leftOf (f : Bool) (u : Int) : Int := if f = true then u else -1
theorem toNat_len {n : Nat} : Int.toNat (n : Int) = n := by omega
theorem none_eq {K : Nat} (l : List RFile) (a b : Int) (c : Bool) : workflowref50_none K l a b c = some () := rfl
theorem ready_eq {K : Nat} (l : List RFile) (a b : Int) (c : Bool) : workflowref50_ready K l a b c = some (if c = true then 28 else 0) := by
 unfold workflowref50_ready
 rw [none_eq]
 cases c <;> rfl
theorem rnamed_eq {K : Nat} (nm : List UInt8) : workflowref50_named K nm = some (!badn nm) := by
 unfold workflowref50_named badn
 by_cases h : nm = []
 ·subst h; rfl
 ·have : 0 < nm.length := List.length_pos_iff.2 h
  rw [if_pos (by omega)]
  simp only [h, decide_false, Bool.false_or]
  by_cases h2 : 64 < nm.length
  ·simp [h2]; omega
  ·simp [h2]; omega
theorem rused_loop (K : Nat) : ∀ (B A : FS) (k n : Nat), B.length < k → n + tot B ≤ 9000000000 → A.length + B.length ≤ 1000000 → workflowref50_Disk_Used.l17 K (RF (A ++ B)) k (n : Int) (A.length : Int) = some ((n + tot B : Nat) : Int)
 | [], A, k, n, hk, hn, hl => by
  obtain ⟨j, rfl⟩ : ∃ j, k = j + 1 := ⟨k - 1, by simp at hk; omega⟩
  unfold workflowref50_Disk_Used.l17
  rw [if_neg (by rw [RF_len]; simp)]
  rfl
 | p :: B, A, k, n, hk, hn, hl => by
  simp only [List.length_cons] at hk hl
  obtain ⟨j, rfl⟩ : ∃ j, k = j + 1 := ⟨k - 1, by omega⟩
  unfold workflowref50_Disk_Used.l17
  rw [tot_cons] at hn ⊢
  have hlen : (RF (A ++ p :: B)).length = A.length + B.length + 1 := by rw [RF_len]; simp; omega
  rw [if_pos (by rw [hlen]; omega), if_pos ⟨by omega, by rw [hlen]; omega⟩]
  simp only [toNat_len, RF_get]
  have e1 : IntKind.i64.wrap ((n : Int) + ((rf p).Data.length : Int)) = ((n + p.2.bytes.length : Nat) : Int) := by
   rw [Eng.wrap_small (by simp only [rf]; omega) (by simp only [rf]; omega)]; simp only [rf]; omega
  have e2 : IntKind.i64.wrap ((A.length : Int) + 1) = ((A ++ [p]).length : Int) := by rw [Eng.wrap_small (by omega) (by omega)]; simp
  have e3 : A ++ p :: B = (A ++ [p]) ++ B := by simp
  rw [e1, e2, e3, rused_loop K B (A ++ [p]) j _ (by omega) (by omega) (by simp; omega)]
  congr 2
  omega
theorem rused_eq {K : Nat} {fs : FS} (hk : fs.length < K) (hl : fs.length ≤ 1000000) (ht : tot fs ≤ 9000000000) (a b : Int) (c : Bool) : workflowref50_Disk_Used K (RF fs) a b c = some (tot fs : Int) := by
 unfold workflowref50_Disk_Used
 rw [none_eq]
 simp only [Option.bind_some]
 have := rused_loop K fs [] K 0 hk (by omega) (by simpa using hl)
 have this' : workflowref50_Disk_Used.l17 K (RF fs) K 0 0 = some ((0 + tot fs : Nat) : Int) := this
 rw [this']
 simp
def idx (nm : List UInt8) : FS → Option Nat
 | [] => none
 | p :: r => if p.1 = nm then some 0 else (idx nm r).map (· + 1)
theorem idx_spec (nm : List UInt8) : ∀ fs : FS, (idx nm fs = none ∧ mfind nm fs = none) ∨ ∃ i x, idx nm fs = some i ∧ i < fs.length ∧ mfind nm fs = some x ∧ fs[i]? = some (nm, x)
 | [] => .inl ⟨rfl, rfl⟩
 | p :: r => by
  unfold idx mfind
  by_cases h : p.1 = nm
  ·subst h
   exact .inr ⟨0, p.2, by simp, by simp, by simp, rfl⟩
  ·rw [if_neg h, if_neg h]
   rcases idx_spec nm r with ⟨h1, h2⟩ | ⟨i, x, h1, h2, h3, h4⟩
   ·exact .inl ⟨by rw [h1]; rfl, h2⟩
   ·exact .inr ⟨i + 1, x, by rw [h1]; rfl, by simp; omega, h3, by simpa using h4⟩
theorem at_loop (K : Nat) (nm : List UInt8) : ∀ (B A : FS) (k : Nat), B.length < k → A.length + B.length ≤ 1000000 →
  workflowref50_Disk_at.l7 K (RF (A ++ B)) nm k (A.length : Int) = some (match idx nm B with | none => Out.go () | some i => Out.done ((A.length + i : Nat) : Int))
 | [], A, k, hk, hl => by
  obtain ⟨j, rfl⟩ : ∃ j, k = j + 1 := ⟨k - 1, by simp at hk; omega⟩
  unfold workflowref50_Disk_at.l7
  rw [if_neg (by rw [RF_len]; simp)]
  rfl
 | p :: B, A, k, hk, hl => by
  simp only [List.length_cons] at hk hl
  obtain ⟨j, rfl⟩ : ∃ j, k = j + 1 := ⟨k - 1, by omega⟩
  unfold workflowref50_Disk_at.l7
  have hlen : (RF (A ++ p :: B)).length = A.length + B.length + 1 := by rw [RF_len]; simp; omega
  rw [if_pos (by rw [hlen]; omega), if_pos ⟨by omega, by rw [hlen]; omega⟩]
  simp only [toNat_len, RF_get]
  unfold idx
  by_cases h : p.1 = nm
  ·rw [if_pos (show (rf p).Name = nm from h), if_pos h]
   rfl
  ·rw [if_neg (show ¬ (rf p).Name = nm from h), if_neg h]
   have e2 : IntKind.i64.wrap ((A.length : Int) + 1) = ((A ++ [p]).length : Int) := by rw [Eng.wrap_small (by omega) (by omega)]; simp
   have e3 : A ++ p :: B = (A ++ [p]) ++ B := by simp
   rw [e2, e3, at_loop K nm B (A ++ [p]) j (by omega) (by simp; omega)]
   cases idx nm B with
   | none => rfl
   | some i => simp; omega
theorem at_eq {K : Nat} {fs : FS} (hk : fs.length < K) (hl : fs.length ≤ 1000000) (a b : Int) (c : Bool) (nm : List UInt8) : workflowref50_Disk_at K (RF fs) a b c nm = some (match idx nm fs with | none => -1 | some i => (i : Int)) := by
 unfold workflowref50_Disk_at
 have := at_loop K nm fs [] K hk (by simpa using hl)
 have this' : workflowref50_Disk_at.l7 K (RF fs) nm K 0 = _ := this
 rw [this']
 cases idx nm fs with
 | none => rfl
 | some i => simp [obind]
theorem cut_loop (K : Nat) (nm : List UInt8) : ∀ (B A C : FS) (k : Nat), B.length < k → A.length + B.length ≤ 1000000 → C.length + B.length ≤ 1000000 →
  workflowref50_Disk_cut_v3.l7 K nm (RF (A ++ B)) k (A.length : Int) (RF C) = some (RF (C ++ mdel nm B))
 | [], A, C, k, hk, hl, hc => by
  obtain ⟨j, rfl⟩ : ∃ j, k = j + 1 := ⟨k - 1, by simp at hk; omega⟩
  unfold workflowref50_Disk_cut_v3.l7
  rw [if_neg (by rw [RF_len]; simp)]
  simp [mdel]
 | p :: B, A, C, k, hk, hl, hc => by
  simp only [List.length_cons] at hk hl hc
  obtain ⟨j, rfl⟩ : ∃ j, k = j + 1 := ⟨k - 1, by omega⟩
  unfold workflowref50_Disk_cut_v3.l7
  have hlen : (RF (A ++ p :: B)).length = A.length + B.length + 1 := by rw [RF_len]; simp; omega
  rw [if_pos (by rw [hlen]; omega), if_pos ⟨by omega, by rw [hlen]; omega⟩]
  simp only [toNat_len, RF_get]
  rw [if_pos (by rw [hlen]; omega)]
  have e2 : IntKind.i64.wrap ((A.length : Int) + 1) = ((A ++ [p]).length : Int) := by rw [Eng.wrap_small (by omega) (by omega)]; simp
  have e3 : A ++ p :: B = (A ++ [p]) ++ B := by simp
  have hC : RF C ++ [rf p] = RF (C ++ [p]) := by simp [RF]
  by_cases h : p.1 = nm
  ·rw [if_neg (show ¬ (rf p).Name ≠ nm from fun e => e h), e2, e3, cut_loop K nm B (A ++ [p]) C j (by omega) (by simp; omega) (by omega)]
   unfold mdel
   rw [List.filter_cons, if_neg (by simp [h])]
  ·rw [if_pos (show (rf p).Name ≠ nm from h), if_pos (by rw [RF_len]; simp; omega), e2, e3, hC, cut_loop K nm B (A ++ [p]) (C ++ [p]) j (by omega) (by simp; omega) (by simp; omega)]
   unfold mdel
   rw [List.filter_cons, if_pos (by simp [h])]
   simp
theorem cut_eq {K : Nat} {fs : FS} (hk : fs.length < K) (hl : fs.length ≤ 1000000) (nm : List UInt8) (a b : Int) (c : Bool) : workflowref50_Disk_cut_v3 K nm a b c (RF fs) = some (RF fs, RF (mdel nm fs)) := by
 unfold workflowref50_Disk_cut_v3
 have := cut_loop K nm fs [] [] K hk (by simpa using hl) (by simpa using hl)
 have this' : workflowref50_Disk_cut_v3.l7 K nm (RF fs) K 0 [] = some (RF (mdel nm fs)) := this
 rw [this']
 rfl
theorem put_rest (K : Nat) (x : RFile) : ∀ (B A : FS) (C : List RFile) (k : Nat), B.length < k → A.length + B.length ≤ 1000000 → C.length + B.length ≤ 1000000 →
  workflowref50_Disk_put_v3.l13 K x (RF (A ++ B)) k true (A.length : Int) C = some (true, C ++ RF B)
 | [], A, C, k, hk, hl, hc => by
  obtain ⟨j, rfl⟩ : ∃ j, k = j + 1 := ⟨k - 1, by simp at hk; omega⟩
  unfold workflowref50_Disk_put_v3.l13
  rw [if_neg (by rw [RF_len]; simp)]
  simp [RF]
 | p :: B, A, C, k, hk, hl, hc => by
  simp only [List.length_cons] at hk hl hc
  obtain ⟨j, rfl⟩ : ∃ j, k = j + 1 := ⟨k - 1, by omega⟩
  unfold workflowref50_Disk_put_v3.l13
  have hlen : (RF (A ++ p :: B)).length = A.length + B.length + 1 := by rw [RF_len]; simp; omega
  rw [if_pos (by rw [hlen]; omega), if_pos rfl, if_pos ⟨by omega, by rw [hlen]; omega⟩]
  simp only [toNat_len, RF_get]
  have e2 : IntKind.i64.wrap ((A.length : Int) + 1) = ((A ++ [p]).length : Int) := by rw [Eng.wrap_small (by omega) (by omega)]; simp
  have e3 : A ++ p :: B = (A ++ [p]) ++ B := by simp
  rw [if_pos (by rw [hlen]; omega), if_pos (by simp; omega), e2, e3, put_rest K x B (A ++ [p]) (C ++ [rf p]) j (by omega) (by simp; omega) (by simp; omega)]
  simp [RF]
theorem put_loop (K : Nat) (q : List UInt8 × disk_file) : ∀ (B A : FS) (C : List RFile) (k : Nat), (∀ p ∈ B, p.1 ≠ q.1) → B.length < k → A.length + B.length ≤ 1000000 → C.length + B.length ≤ 900000 →
  ∃ d out, workflowref50_Disk_put_v3.l13 K (rf q) (RF (A ++ B)) k false (A.length : Int) C = some (d, out) ∧ (if d = true then out else out ++ [rf q]) = C ++ RF (mins q B) ∧ out.length ≤ C.length + B.length + 1
 | [], A, C, k, hq, hk, hl, hc => by
  obtain ⟨j, rfl⟩ : ∃ j, k = j + 1 := ⟨k - 1, by simp at hk; omega⟩
  unfold workflowref50_Disk_put_v3.l13
  rw [if_neg (by rw [RF_len]; simp)]
  exact ⟨false, C, rfl, by simp [mins, RF], by simp⟩
 | p :: B, A, C, k, hq, hk, hl, hc => by
  simp only [List.length_cons] at hk hl hc
  obtain ⟨j, rfl⟩ : ∃ j, k = j + 1 := ⟨k - 1, by omega⟩
  unfold workflowref50_Disk_put_v3.l13
  have hlen : (RF (A ++ p :: B)).length = A.length + B.length + 1 := by rw [RF_len]; simp; omega
  rw [if_pos (by rw [hlen]; omega), if_neg (by simp), if_pos ⟨by omega, by rw [hlen]; omega⟩]
  simp only [toNat_len, RF_get]
  have e2 : IntKind.i64.wrap ((A.length : Int) + 1) = ((A ++ [p]).length : Int) := by rw [Eng.wrap_small (by omega) (by omega)]; simp
  have e3 : A ++ p :: B = (A ++ [p]) ++ B := by simp
  rw [if_pos (by rw [hlen]; omega)]
  have hne := hq p (.head _)
  unfold mins
  have hcond : (!(Op.bytesLess (rf p).Name (rf q).Name || decide ((rf p).Name = (rf q).Name))) = Op.bytesLess q.1 p.1 := by
   show (!(Op.bytesLess p.1 q.1 || decide (p.1 = q.1))) = _
   simp only [hne, decide_false, Bool.or_false]
   cases h : Op.bytesLess p.1 q.1 with
   | true => rw [bl_asymm h]; rfl
   | false => rw [bl_total h hne]; rfl
  rw [hcond]
  by_cases h : Op.bytesLess q.1 p.1 = true
  ·rw [if_pos h, if_pos h, if_pos (by simp; omega), if_pos (by simp; omega), e2, e3, put_rest K (rf q) B (A ++ [p]) _ j (by omega) (by simp; omega) (by simp; omega)]
   exact ⟨true, _, rfl, by simp [RF], by simp [RF_len]; omega⟩
  ·rw [if_neg h, if_neg h, if_pos (by simp; omega), e2, e3]
   obtain ⟨d, out, h1, h2, h3⟩ := put_loop K q B (A ++ [p]) (C ++ [rf p]) j (fun x hx => hq x (.tail _ hx)) (by omega) (by simp; omega) (by simp; omega)
   exact ⟨d, out, h1, by rw [h2]; simp [RF], by simp at h3; simp; omega⟩
theorem put_eq {K : Nat} {fs : FS} (hk : fs.length < K) (hl : fs.length ≤ 100000) (nm : List UInt8) (x : disk_file) (a b : Int) (c : Bool) : workflowref50_Disk_put_v3 K (rf (nm, x)) a b c (RF fs) = some (RF fs, RF (mput nm x fs)) := by
 unfold workflowref50_Disk_put_v3
 have hn : (rf (nm, x)).Name = nm := rfl
 rw [hn, cut_eq hk (by omega)]
 simp only [Option.bind_some]
 have hd := len_mdel fs nm
 obtain ⟨d, out, h1, h2, h3⟩ := put_loop K (nm, x) (mdel nm fs) [] [] K (fun p hp => (mem_mdel.1 hp).2) (by omega) (by simp; omega) (by simp; omega)
 have h1' : workflowref50_Disk_put_v3.l13 K (rf (nm, x)) (RF (mdel nm fs)) K false 0 [] = some (d, out) := h1
 rw [h1']
 simp only [Option.bind_some]
 simp only [List.nil_append, List.length_nil] at h2 h3
 unfold mput
 cases d with
 | true => simp only [if_true] at h2 ⊢; rw [h2]
 | false =>
  simp only [Bool.false_eq_true, if_false] at h2 ⊢
  rw [if_pos (by simp; omega), h2]
theorem rcrash_loop (K : Nat) (keep : Int) (hk0 : 0 ≤ keep) (hkm : keep ≤ 9223372036854775807) : ∀ (B A C : FS) (k : Nat), (∀ p ∈ B, 0 ≤ p.2.safe ∧ p.2.safe ≤ p.2.bytes.length ∧ p.2.bytes.length ≤ 9000000000) → B.length < k → A.length + B.length ≤ 1000000 → C.length + B.length ≤ 1000000 →
  workflowref50_Disk_Crash_v3.l25 K keep (RF (A ++ B)) k (A.length : Int) (RF C) = some (RF (C ++ crashed keep B))
 | [], A, C, k, hB, hk, hl, hc => by
  obtain ⟨j, rfl⟩ : ∃ j, k = j + 1 := ⟨k - 1, by simp at hk; omega⟩
  unfold workflowref50_Disk_Crash_v3.l25
  rw [if_neg (by rw [RF_len]; simp)]
  simp [crashed]
 | p :: B, A, C, k, hB, hk, hl, hc => by
  simp only [List.length_cons] at hk hl hc
  obtain ⟨j, rfl⟩ : ∃ j, k = j + 1 := ⟨k - 1, by omega⟩
  unfold workflowref50_Disk_Crash_v3.l25
  have hlen : (RF (A ++ p :: B)).length = A.length + B.length + 1 := by rw [RF_len]; simp; omega
  rw [if_pos (by rw [hlen]; omega), if_pos ⟨by omega, by rw [hlen]; omega⟩]
  simp only [toNat_len, RF_get]
  rw [if_pos (by rw [hlen]; omega)]
  obtain ⟨n, x⟩ := p
  obtain ⟨h0, h1, h2⟩ := hB (n, x) (.head _)
  simp only at h0 h1 h2
  have e2 : IntKind.i64.wrap ((A.length : Int) + 1) = ((A ++ [(n, x)]).length : Int) := by rw [Eng.wrap_small (by omega) (by omega)]; simp
  have e3 : A ++ (n, x) :: B = (A ++ [(n, x)]) ++ B := by simp
  have e4 : IntKind.i64.wrap ((x.bytes.length : Int) - x.safe) = (x.bytes.length : Int) - x.safe := Eng.wrap_small (by omega) (by omega)
  have hnext : ∀ y : disk_file, y = crashf keep x → workflowref50_Disk_Crash_v3.l25 K keep (RF ((A ++ [(n, x)]) ++ B)) j ((A ++ [(n, x)]).length : Int) (RF C ++ [rf (n, y)]) = some (RF (C ++ crashed keep ((n, x) :: B))) := fun y hy => by
   subst hy
   have hC : RF C ++ [rf (n, crashf keep x)] = RF (C ++ [(n, crashf keep x)]) := by simp [RF]
   rw [hC, rcrash_loop K keep hk0 hkm B (A ++ [(n, x)]) (C ++ [(n, crashf keep x)]) j (fun p hp => hB p (.tail _ hp)) (by omega) (by simp; omega) (by simp; omega)]
   simp [crashed]
  simp only [rf, e4]
  by_cases h : keep < (x.bytes.length : Int) - x.safe
  ·have e5 : IntKind.i64.wrap (x.safe + keep) = x.safe + keep := Eng.wrap_small (by omega) (by omega)
   rw [if_pos h]
   simp only [e5]
   rw [if_pos ⟨by omega, by omega⟩, if_pos (by rw [RF_len]; simp; omega), e2, e3]
   refine hnext ⟨slc x.bytes 0 (x.safe + keep), ((slc x.bytes 0 (x.safe + keep)).length : Int)⟩ ?_
   unfold crashf stay
   rw [if_neg (by omega)]
   congr 1
   rw [slc0]
   simp
   omega
  ·rw [if_neg h, if_pos (by rw [RF_len]; simp; omega), e2, e3]
   refine hnext ⟨x.bytes, (x.bytes.length : Int)⟩ ?_
   have : stay keep x = x.bytes.length := by unfold stay; split <;> omega
   unfold crashf
   rw [this, slc0]
   simp
theorem rcopy_loop (K : Nat) : ∀ (B A C : FS) (k : Nat), (∀ p ∈ B, p.2.bytes.length ≤ 9000000000) → B.length < k → A.length + B.length ≤ 1000000 → C.length + B.length ≤ 1000000 →
  workflowref50_Disk_Copy_v3.l17 K (RF (A ++ B)) k (A.length : Int) (RF C) = some (RF (C ++ B))
 | [], A, C, k, hB, hk, hl, hc => by
  obtain ⟨j, rfl⟩ : ∃ j, k = j + 1 := ⟨k - 1, by simp at hk; omega⟩
  unfold workflowref50_Disk_Copy_v3.l17
  rw [if_neg (by rw [RF_len]; simp)]
  simp
 | p :: B, A, C, k, hB, hk, hl, hc => by
  simp only [List.length_cons] at hk hl hc
  obtain ⟨j, rfl⟩ : ∃ j, k = j + 1 := ⟨k - 1, by omega⟩
  unfold workflowref50_Disk_Copy_v3.l17
  have hlen : (RF (A ++ p :: B)).length = A.length + B.length + 1 := by rw [RF_len]; simp; omega
  rw [if_pos (by rw [hlen]; omega), if_pos ⟨by omega, by rw [hlen]; omega⟩]
  simp only [toNat_len, RF_get]
  have h0 := hB p (.head _)
  rw [if_pos (by rw [hlen]; omega), if_pos (by simp [rf]; omega), if_pos (by rw [RF_len]; simp; omega)]
  have e2 : IntKind.i64.wrap ((A.length : Int) + 1) = ((A ++ [p]).length : Int) := by rw [Eng.wrap_small (by omega) (by omega)]; simp
  have e3 : A ++ p :: B = (A ++ [p]) ++ B := by simp
  have hC : RF C ++ [(⟨(rf p).Name, [] ++ (rf p).Data, (rf p).Safe⟩ : workflowref50_File)] = RF (C ++ [p]) := by simp [RF, rf]
  rw [e2, e3, hC, rcopy_loop K B (A ++ [p]) (C ++ [p]) j (fun q hq => hB q (.tail _ hq)) (by omega) (by simp; omega) (by simp; omega)]
  simp
theorem rnames_loop (K : Nat) : ∀ (B A : FS) (C : List (List UInt8)) (k : Nat), B.length < k → A.length + B.length ≤ 1000000 → C.length + B.length ≤ 1000000 →
  workflowref50_Disk_Names.l17 K (RF (A ++ B)) k (A.length : Int) C = some (C ++ B.map Prod.fst)
 | [], A, C, k, hk, hl, hc => by
  obtain ⟨j, rfl⟩ : ∃ j, k = j + 1 := ⟨k - 1, by simp at hk; omega⟩
  unfold workflowref50_Disk_Names.l17
  rw [if_neg (by rw [RF_len]; simp)]
  simp
 | p :: B, A, C, k, hk, hl, hc => by
  simp only [List.length_cons] at hk hl hc
  obtain ⟨j, rfl⟩ : ∃ j, k = j + 1 := ⟨k - 1, by omega⟩
  unfold workflowref50_Disk_Names.l17
  have hlen : (RF (A ++ p :: B)).length = A.length + B.length + 1 := by rw [RF_len]; simp; omega
  rw [if_pos (by rw [hlen]; omega), if_pos ⟨by omega, by rw [hlen]; omega⟩]
  simp only [toNat_len, RF_get]
  rw [if_pos (by simp; omega)]
  have e2 : IntKind.i64.wrap ((A.length : Int) + 1) = ((A ++ [p]).length : Int) := by rw [Eng.wrap_small (by omega) (by omega)]; simp
  have e3 : A ++ p :: B = (A ++ [p]) ++ B := by simp
  rw [e2, e3, rnames_loop K B (A ++ [p]) (C ++ [(rf p).Name]) j (by omega) (by simp; omega) (by simp; omega)]
  simp [rf]
theorem rnames_eq {K : Nat} {fs : FS} (hk : fs.length < K) (hl : fs.length ≤ 1000000) (a b : Int) (c : Bool) : workflowref50_Disk_Names K (RF fs) a b c = some (fs.map Prod.fst) := by
 unfold workflowref50_Disk_Names
 rw [none_eq]
 simp only [Option.bind_some]
 have := rnames_loop K fs [] [] K hk (by simpa using hl) (by simpa using hl)
 have this' : workflowref50_Disk_Names.l17 K (RF fs) K 0 [] = some (fs.map Prod.fst) := this
 rw [this']
 rfl
end Go.Proofs.Ytegkigdobekgjaa
