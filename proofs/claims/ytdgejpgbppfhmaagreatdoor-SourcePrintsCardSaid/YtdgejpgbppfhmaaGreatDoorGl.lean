/- What the package variables hold. -/
import Derived.Test.YtdgejpgbppfhmaaGreatDoorTy
import Derived.Test.YtdgejpgbppfhmaaGreatDoorRows
import Derived.LaidLaws
import Derived.LaidMore
import Derived.MakeChecks
import Derived.Lib.LaidTab
import Derived.ChangeArms
set_option linter.unusedVariables false
set_option linter.unusedSimpArgs false
set_option maxHeartbeats 4000000
namespace Go.Proofs.YtdgejpgbppfhmaaGreatDoor
open Eng
theorem laid_mem {P : Program} {w : World} : ∀ {l : List (String × DataW Unit)} {ps : List MemPlace}, DataW.LaidVars P w l ps → ∀ n d, (n, d) ∈ l →
  ∃ g t cs fuel p, P.globalNamed n = some g ∧ (P.globals[g]?).map (·.type) = some t ∧ w.var? P n = some cs ∧ DataW.trod (fun _ => ()) P w 0 (fun _ => true) false fuel t cs.toList = some (d, p)
 | [], ps, _, n, d, h => by cases h
 | (n0, d0) :: r, ps, h, n, d, hm => by
  obtain ⟨g, t, cs, fuel, p, q, h1, h2, h3, h4, h5, _⟩ := h
  rcases List.mem_cons.1 hm with e | hm
  ·cases e; exact ⟨g, t, cs, fuel, p, h1, h2, h3, h4⟩
  ·exact laid_mem h5 n d hm
theorem trod_held {P : Program} {w : World} {fuel : Nat} {t : TypeId} {cs : List Value} {tn : String} {d : DataW Unit} {p : List MemPlace} (ht0 : (match P.underlying t with | some (.interface _) => true | _ => false) = true)
  (h : DataW.trod (fun _ => ()) P w 0 (fun _ => true) false fuel t cs = some (.iface tn d, p)) : ∃ te pe, cs = [.iface te pe] := by
 obtain ⟨ms, ht⟩ : ∃ ms, P.underlying t = some (.interface ms) := by
  split at ht0
  ·exact ⟨_, by assumption⟩
  ·cases ht0
 cases fuel with
 | zero => simp [DataW.trod] at h
 | succ fuel =>
  unfold DataW.trod at h
  rw [ht] at h
  split at h
  all_goals first
   | (exact ⟨_, _, rfl⟩)
   | (simp_all; done)
   | (simp_all; exact ⟨_, _, rfl⟩)
theorem var_heap {P : Program} {w : World} {n : String} {g : Nat} {cs : Array Value} (hg : P.globalNamed n = some g) (h : w.var? P n = some cs) : ∃ t fz, w.heap[g]? = some (.cells cs t fz) := by
 unfold World.var? at h
 rw [hg] at h
 simp only [Option.bind_some] at h
 split at h
 ·rename_i c t fz hh; cases h; exact ⟨t, fz, hh⟩
 ·cases h
theorem heap_lt {w : World} {g : Nat} {o : Obj} (h : w.heap[g]? = some o) : g < w.heap.size := (Array.getElem?_eq_some_iff.1 h).1
theorem gok_of {W : World} (h0 : laidMetH P Rows.sourcePrintsRow.laid W) : GOK V W (fun b => b < W.heap.size) := by
 rw [MakeChecks.laidMetH_plain _ _ _ (by kernel_rfl)] at h0
 obtain ⟨ps, h0, _⟩ := h0
 have k0 : 0 < W.heap.size ∧ ∃ cs t fz, W.heap[0]? = some (.cells cs t fz) ∧ cs = (Lib.asciiSpaceTab.map fun z => Value.int .u8 z).toArray := by
  obtain ⟨g, t, cs, fuel, p, h1, h2, h3, h4⟩ := laid_mem h0 "strings.asciiSpace" Rows.laid_strings_asciiSpace (by unfold Rows.sourcePrintsRow; simp)
  obtain rfl := Option.some.inj ((show P.globalNamed "strings.asciiSpace" = some 0 from by kernel_rfl).symm.trans h1)
  obtain rfl := Option.some.inj ((show (P.globals[0]?).map (·.type) = some 132 from by kernel_rfl).symm.trans h2)
  have hc := Lib.cells_of_tab (n := 256) (e := 5) (k := .u8) (zs := Lib.asciiSpaceTab) (by kernel_rfl) (by kernel_rfl) (by kernel_rfl) (by kernel_rfl) (show DataW.trod (fun _ => ()) P W 0 (fun _ => true) false fuel 132 cs.toList = some (Lib.tabData .u8 Lib.asciiSpaceTab, p) from h4.trans (by kernel_rfl))
  obtain ⟨t, fz, hh⟩ := var_heap h1 h3
  exact ⟨heap_lt hh, cs, t, fz, hh, by rw [← hc]⟩
 have k1 : 1 < W.heap.size ∧ ∃ cs t fz, W.heap[1]? = some (.cells cs t fz) ∧ cs = (Lib.pow10Tab.map fun z => Value.int .u64 z).toArray := by
  obtain ⟨g, t, cs, fuel, p, h1, h2, h3, h4⟩ := laid_mem h0 "internal/strconv.uint64pow10" Rows.laid_internal_strconv_uint64pow10 (by unfold Rows.sourcePrintsRow; simp)
  obtain rfl := Option.some.inj ((show P.globalNamed "internal/strconv.uint64pow10" = some 1 from by kernel_rfl).symm.trans h1)
  obtain rfl := Option.some.inj ((show (P.globals[1]?).map (·.type) = some 137 from by kernel_rfl).symm.trans h2)
  have hc := Lib.cells_of_tab (n := 20) (e := 119) (k := .u64) (zs := Lib.pow10Tab) (by kernel_rfl) (by kernel_rfl) (by kernel_rfl) (by kernel_rfl) (show DataW.trod (fun _ => ()) P W 0 (fun _ => true) false fuel 137 cs.toList = some (Lib.tabData .u64 Lib.pow10Tab, p) from h4.trans (by kernel_rfl))
  obtain ⟨t, fz, hh⟩ := var_heap h1 h3
  exact ⟨heap_lt hh, cs, t, fz, hh, by rw [← hc]⟩
 have k6 : 6 < W.heap.size ∧ ∃ cs t fz, W.heap[6]? = some (.cells cs t fz) ∧ ∃ te pe, cs = #[.iface te pe] := by
  obtain ⟨g, t, cs, fuel, p, h1, h2, h3, h4⟩ := laid_mem h0 "strconv.ErrSyntax" Rows.laid_strconv_ErrSyntax (by unfold Rows.sourcePrintsRow; simp)
  obtain rfl := Option.some.inj ((show P.globalNamed "strconv.ErrSyntax" = some 6 from by kernel_rfl).symm.trans h1)
  obtain rfl := Option.some.inj ((show (P.globals[6]?).map (·.type) = some 81 from by kernel_rfl).symm.trans h2)
  obtain ⟨te, pe, hc⟩ := trod_held (by kernel_rfl) h4
  obtain ⟨t, fz, hh⟩ := var_heap h1 h3
  exact ⟨heap_lt hh, cs, t, fz, hh, te, pe, by cases cs; simp_all⟩
 have k7 : 7 < W.heap.size ∧ ∃ cs t fz, W.heap[7]? = some (.cells cs t fz) ∧ ∃ te pe, cs = #[.iface te pe] := by
  obtain ⟨g, t, cs, fuel, p, h1, h2, h3, h4⟩ := laid_mem h0 "strconv.ErrRange" Rows.laid_strconv_ErrRange (by unfold Rows.sourcePrintsRow; simp)
  obtain rfl := Option.some.inj ((show P.globalNamed "strconv.ErrRange" = some 7 from by kernel_rfl).symm.trans h1)
  obtain rfl := Option.some.inj ((show (P.globals[7]?).map (·.type) = some 81 from by kernel_rfl).symm.trans h2)
  obtain ⟨te, pe, hc⟩ := trod_held (by kernel_rfl) h4
  obtain ⟨t, fz, hh⟩ := var_heap h1 h3
  exact ⟨heap_lt hh, cs, t, fz, hh, te, pe, by cases cs; simp_all⟩
 intro p hp
 have hp : p ∈ ([(0, fun cs => cs = (Lib.asciiSpaceTab.map fun z => Value.int .u8 z).toArray), (1, fun cs => cs = (Lib.pow10Tab.map fun z => Value.int .u64 z).toArray), (6, fun cs => ∃ te pe, cs = #[.iface te pe]), (7, fun cs => ∃ te pe, cs = #[.iface te pe])] : List (Nat × (Array Value → Prop))) := hp
 simp only [List.mem_cons, List.not_mem_nil, or_false] at hp
 rcases hp with rfl | rfl | rfl | rfl
 ·exact k0
 ·exact k1
 ·exact k6
 ·exact k7
set_option maxRecDepth 100000 in
theorem door_met (os : Os) (args : Array Value) : laidMetH P Rows.sourcePrintsRow.laid ((World.doorLaid P 86 os).forCall (fun _ _ => 0) ⟨#[], args, []⟩).memory :=
 laidMetH_of_parts3 (fuel := 8) (laidMet_of_run' 8 (by kernel_rfl) (by kernel_rfl)) (by kernel_rfl) (by kernel_rfl)
end Go.Proofs.YtdgejpgbppfhmaaGreatDoor
