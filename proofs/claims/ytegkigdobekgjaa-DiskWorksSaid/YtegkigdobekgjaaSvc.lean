/- slices.Values and slices.Sorted as the abstract machine sees them. -/
import Derived.Test.YtegkigdobekgjaaTy
import Derived.Test.YtegkigdobekgjaaShf
import Derived.Shelf.SlIter.Sorted
import Derived.Shelf.SortM.Plain
import Derived.Shelf.SortM.SortNone
set_option linter.unusedVariables false
set_option maxHeartbeats 2000000
namespace Go.Proofs.Ytegkigdobekgjaa
open Eng Go.RowKit Go.Maps Go.Sort Go.Shelf
open Go.WideMaps (keyOf_string_mk)
open Go.WideShapes (sorted_perm)
theorem sortsA (m : Nat) : AnyZ.SortsIn Try.prog Try.sortedA_ren Fence.wide m :=
 ⟨fun blk off cap ss W hH hblk hsz => callsIn_wide.2 (AnyM.slices_Sort_string Try.sortA blk off cap ss W hH hblk hsz), fun p cap W => callsIn_wide.2 (AnyM.slices_Sort_string_none Try.sortA p cap W)⟩
theorem owns_keys {w : World} {Z : Nat → Prop} {b : Nat} {arr : Array MapEntry} {clock : Nat} {es : List (List UInt8 × disk_file)} (hb : w.heap[b]? = some (.map arr clock)) (h : MR V.E w Z Tag.t_disk_file es arr clock)
  (hlen : es.length ≤ maxLen) (hk : ∀ p ∈ es, p.1.length ≤ maxLen) : ∃ D0 : DataW Unit, w.ownsMap P 9 (fun _ => some (.lit (.bool true), [])) b es.length D0 ∧ (strKeys D0).Perm (es.map Prod.fst) ∧ Maps.size D0 = es.length := by
 obtain ⟨⟨h1, h1'⟩, h2, h3, f, h4, h5⟩ := h
 have hstr : P.underlying 9 = some .string := by kernel_rfl
 have hsz : arr.size = es.length := by have := h4.length_eq; simpa using this
 have hkey : ∀ e ∈ arr.toList, keyOf P 9 e.key = some (.string (f e).1) := fun e he => by
  rw [(h5 e he).1]
  have hm : f e ∈ es := h4.mem_iff.1 (List.mem_map.2 ⟨e, he, rfl⟩)
  exact keyOf_string_mk hstr (s := ⟨(f e).1.toArray⟩) (by have := hk _ hm; show (f e).1.toArray.size ≤ maxLen; simpa using this)
 have hrg : ∀ e ∈ arr.toList, Go.WideElems.rg (H := Unit) P 9 (fun _ => some (.lit (.bool true), [])) e = (.string (f e).1, .lit (.bool true)) := fun e he => by
  simp [Go.WideElems.rg, Go.WideElems.rd, hkey e he]
 refine ⟨_, ⟨arr, clock, hb, ⟨by omega, ⟨h1', h1, ?_⟩, fun e he => ⟨_, by simp [Go.WideElems.rd, hkey e he]; rfl⟩⟩, by omega, rfl⟩, ?_, ?_⟩
 ·have hn : ((arr.toList.map f).map (·.1)).Nodup := (h4.map (·.1)).nodup_iff.2 h2
  rw [List.map_map] at hn
  rw [List.nodup_iff_pairwise_ne, List.pairwise_map] at hn ⊢
  refine hn.imp_of_mem fun ha hb' hne e => hne ?_
  have e1 := (h5 _ ha).1
  have e2 := (h5 _ hb').1
  exact mk_inj (show Value.string ⟨(f _).1.toArray⟩ = Value.string ⟨(f _).1.toArray⟩ by rw [← e1, ← e2, e])
 ·have hp := (sorted_perm (arr.toList.map (Go.WideElems.rg (H := Unit) P 9 (fun _ => some (.lit (.bool true), [])))))
  refine (hp.map (fun p => strOf p.1)).trans ?_
  rw [List.map_map]
  have : arr.toList.map ((fun p => strOf p.1) ∘ Go.WideElems.rg (H := Unit) P 9 (fun _ => some (.lit (.bool true), []))) = (arr.toList.map f).map (·.1) := by
   rw [List.map_map]
   exact List.map_congr_left fun e he => by simp [Function.comp, hrg e he, strOf]
  rw [this]
  exact h4.map _
 ·have := Go.length_read (H := Unit) (P := P) (k := 9) (R0 := fun _ => some (.lit (.bool true), [])) arr
  show List.length _ = _
  omega
theorem slices_SortedKeys.okE (es : List (List UInt8 × disk_file)) (hl : es.length * 16 ≤ 140737488351232) (hk : ∀ p ∈ es, p.1.length ≤ 9223372036854775807) :
  ECall V P 47 [.cv (.fn (.func 60) [] [.ptr 0 0])] [(0, .raw [.rom Tag.t_disk_file es])] [0] (.cv (.own Tag.t_string 100)) [(0, .raw [.rom Tag.t_disk_file es]), (100, .lst Tag.t_string (ssrt (es.map Prod.fst)))] := by
 refine ⟨by kernel_rfl, fun w Z ρ vs hZ hsz hargs hR => ?_⟩
 have hm : (maxLen : Nat) = 9223372036854775807 := by decide
 obtain ⟨v, rfl⟩ : ∃ v, vs = #[v] := by
  match vs, hsz with
  | ⟨[v]⟩, _ => exact ⟨v, rfl⟩
 have hv := hargs 0 _ v rfl rfl
 have hB := hR.blk 0 _ rfl
 obtain ⟨b0, n0, hr, rfl⟩ : ∃ b0 n0, ρ 0 = some (b0, n0) ∧ v = .func (.func 60) #[] #[.pointer (some ⟨b0, 0, none⟩)] := by
  cases hv with | cv hv =>
  cases hv with
  | pure hv => cases hv
  | @fn _ _ _ fs cs h1 h2 h3 h4 =>
   obtain rfl : fs = #[] := by simpa using h1
   obtain ⟨c, rfl⟩ : ∃ c, cs = #[c] := by
    match cs, h2 with
    | ⟨[c]⟩, _ => exact ⟨c, rfl⟩
   have h := h4 0 _ c rfl rfl
   cases h with
   | pure h => cases h
   | ptr h => exact ⟨_, _, h, rfl⟩
 rw [hr] at hB
 obtain ⟨arr0, e0, g1, g2, g3⟩ := hB
 have hlt := (hR.own 0 _ b0 n0 rfl hr).1
 obtain ⟨u, rfl⟩ : ∃ u, arr0 = #[u] := by
  match arr0, g2 with
  | ⟨[c]⟩, _ => exact ⟨c, rfl⟩
 have hu := g3 0 _ u rfl rfl
 cases hu with | pure hu =>
 obtain ⟨b, arr, clock, rfl, hz, hheap, hM⟩ := rom_inv V.E hu
 obtain ⟨D0, hown, hpk, hsize⟩ := owns_keys hheap hM (by omega) (fun p hp => by have := hk p hp; omega)
 have hseq : SeqGives Fence.wide 2 P 60 #[.pointer (some ⟨b0, 0, none⟩)] encStr (fun ss => ss.Perm (strKeys D0)) (Maps.size D0) w :=
  AnyZ.keys_gives (ρ := Try.keysA_ren) { Try.keysA with } Fence.wide _ trivial rfl (by omega) b0 b _ D0 w hlt (by simp [World.cell?, g1]) hown
 have cS := AnyZ.sorted_in Try.sortedA Fence.wide 5 trivial trivial trivial trivial rfl (by omega) (sortsA _) (enters_of Try.func59 (by kernel_rfl) rfl) 60 #[.pointer (some ⟨b0, 0, none⟩)] trivial (enters_of Try.func60 (by kernel_rfl) rfl) _ _ (by rw [hsize]; omega) (by rw [hsize]; omega) w hseq
 change CallsIn _ _ P 47 _ _ _ at cS
 refine (callsIn_wide.1 cS).mono ?_
 rintro e w' ⟨v, ss, rfl, hS, hrow, hnil, hb⟩
 have hsorted : ss.mergeSort (fun x y => decide (x ≤ y)) = ssrt (es.map Prod.fst) := ssrt_eq (hS.trans hpk)
 rw [hsorted] at hrow
 have hlen : ss.length = (ssrt (es.map Prod.fst)).length := ((hS.trans hpk).trans (ssrt_perm _).symm).length_eq
 have hne : ∀ {id blk}, Eng.look id [(0, (.raw [.rom Tag.t_disk_file es] : Blk T)), (100, .lst Tag.t_string (ssrt (es.map Prod.fst)))] = some blk → (id = 0 ∧ blk = .raw [.rom Tag.t_disk_file es]) ∨ (id = 100 ∧ blk = .lst Tag.t_string (ssrt (es.map Prod.fst))) := fun {id blk} h => by
  rw [look_cons] at h
  split at h
  ·rename_i e; cases h; exact .inl ⟨e, rfl⟩
  ·rw [look_cons] at h
   split at h
   ·rename_i e; cases h; exact .inr ⟨e, rfl⟩
   ·cases h
 have hZ' : ∀ k, Z k → w'.heap[k]? = w.heap[k]? := fun k hk => hb.block k (hZ k hk)
 have fin : ∀ (bc : Option (Nat × Nat × Nat)) (hbc : ∀ q c, bc = some (q, c) → w.heap.size ≤ q ∧ q < w'.heap.size) (hB : BR V.E w' Z (fun i => if i = 100 then bc else ρ i) (.lst Tag.t_string (ssrt (es.map Prod.fst))) bc)
   (hv : RA V.E w' Z (fun i => if i = 100 then bc else ρ i) (.cv (.own Tag.t_string 100)) v), ∃ v' Z' ρ', Ending.returned v = .returned v' ∧ EPost V.E w w' Z Z' ρ ρ' [(0, (.raw [.rom Tag.t_disk_file es] : Blk T))] [(0, .raw [.rom Tag.t_disk_file es]), (100, .lst Tag.t_string (ssrt (es.map Prod.fst)))] [0] ∧ RA V.E w' Z' ρ' (.cv (.own Tag.t_string 100)) v' := by
  intro bc hbc hB hv
  refine ⟨v, Z, _, rfl, ⟨⟨hb.os, hb.tape, hb.output, hb.size, fun k hk _ => hb.block k hk, fun _ h => h, fun _ h => .inl h⟩, fun id hid => ?_, ⟨fun id blk q c hl hq => ?_, fun id id' blk blk' q c c' hl hl' hq hq' => ?_, fun id blk hl => ?_⟩, fun id blk q c hl hq => ?_⟩, hv⟩
  ·rw [List.mem_singleton] at hid; subst hid; rfl
  ·rcases hne hl with ⟨rfl, rfl⟩ | ⟨rfl, rfl⟩
   ·have hq : ρ 0 = some (q, c) := hq
    have := hR.own 0 _ q c rfl hq
    exact ⟨Nat.lt_of_lt_of_le this.1 hb.size, this.2⟩
   ·have := hbc q c hq
    exact ⟨this.2, fun hz => by have := hZ q hz; omega⟩
  ·rcases hne hl with ⟨rfl, rfl⟩ | ⟨rfl, rfl⟩ <;> rcases hne hl' with ⟨rfl, rfl⟩ | ⟨rfl, rfl⟩
   ·rfl
   ·have hq : ρ 0 = some (q, c) := hq
    have h1 := (hR.own 0 _ q c rfl hq).1
    have h2 := (hbc q c' hq').1
    omega
   ·have hq' : ρ 0 = some (q, c') := hq'
    have h1 := (hR.own 0 _ q c' rfl hq').1
    have h2 := (hbc q c hq).1
    omega
   ·rfl
  ·rcases hne hl with ⟨rfl, rfl⟩ | ⟨rfl, rfl⟩
   ·have := hR.blk 0 _ rfl
    exact BR.mono (V := V) (fun _ h => h) hZ' (fun q c hq => hb.block q (hR.own 0 _ q c rfl hq).1) this fun id hid => by cases hid
   ·exact hB
  ·rcases hne hl with ⟨rfl, rfl⟩ | ⟨rfl, rfl⟩
   ·exact .inr ⟨_, c, rfl, hq⟩
   ·exact .inl (hbc q c hq).1
 rcases hrow.2 with ⟨rfl, hz0⟩ | ⟨g, cap, cur, rfl, h1, h2, h3, h4, h5, h6⟩
 ·refine fin none (fun _ _ h => by cases h) ?_ (.cv (.ownv (by simp)))
  have : (ssrt (es.map Prod.fst)) = [] := List.eq_nil_of_length_eq_zero (by omega)
  exact this
 ·refine fin (some (g, cap, ss.length)) (fun q c h => by cases h; exact ⟨h1, (Array.getElem?_eq_some_iff.1 h2).1⟩) ?_ (.cv (.own (by simp)))
  refine ⟨hlen, cur, h2, by omega, h4, h5, ?_⟩
  intro i y j c u hy hcc hu
  match j with
  | 0 =>
   have hcu : c = .str y := by simpa [V, E, cod, Codec.str] using hcc.symm
   subst hcu
   have hlt2 : i < ss.length := by have := (List.getElem?_eq_some_iff.1 hy).1; omega
   have : cur[i]? = some (.string ⟨y.toArray⟩) := by
    have e1 : (cur.toList.take (ss.length * 1))[i]? = some (.string ⟨y.toArray⟩) := by rw [h6]; simp [hy, encStr]
    rw [List.getElem?_take, if_pos (by omega)] at e1
    simpa using e1
   have h7 : i * V.E.sz Tag.t_string + 0 = i := by show i * 1 + 0 = i; omega
   rw [h7, this] at hu
   cases hu
   exact .str y
  | j + 1 => simp [V, E, cod, Codec.str] at hcc
end Go.Proofs.Ytegkigdobekgjaa
