/- slices.Values and slices.Sorted as the abstract machine sees them. -/
import Derived.Test.YtmafcdkdcfaajaaGreatTy
import Derived.Test.YtmafcdkdcfaajaaGreatSv
import Derived.Shelf.Slices.In.SortNone
set_option linter.unusedVariables false
set_option maxHeartbeats 1000000
namespace Go.Proofs.YtmafcdkdcfaajaaGreat
open Eng Go.RowKit
theorem slices_Values.ok (p0 : List Int) : PCall V P 98 [.cv (.ro Tag.t_int p0)] (.cv (.fn (.func 103) [] [.pcs [.ro Tag.t_int p0] 0])) := by
 refine ⟨by kernel_rfl, fun w Z vs hZ hsz hargs => ?_⟩
 obtain ⟨v, rfl⟩ : ∃ v, vs = #[v] := by
  match vs, hsz with
  | ⟨[v]⟩, _ => exact ⟨v, rfl⟩
 have hv := hargs 0 _ v rfl rfl
 cases hv with | cv hv =>
 cases hv with | pure hv =>
 obtain ⟨A, len, cap, rfl⟩ : ∃ A len cap, v = .slice A len cap := by
  cases hv with
  | ronil _ A cap => exact ⟨_, _, _, rfl⟩
  | ro _ _ a cap u => exact ⟨_, _, _, rfl⟩
 refine ((callsIn_wide (n := 1)).1 (SV.values_in Fence.wide 1 trivial rfl A len cap w)).mono ?_
 rintro e w' ⟨rfl, rfl⟩
 have ho : Eng.Onto w (w.alloc (.cells #[.slice A len cap] 27)) Z (fun b => Z b ∨ b = w.heap.size) := onto_alloc w Z _
 refine ⟨_, _, rfl, ho, .cv (.fn rfl rfl (fun i c v hc => by simp at hc) (fun i c v hc hu => ?_))⟩
 match i with
 | 0 =>
  simp at hc hu; subst hc; subst hu
  refine .pure ?_
  have h := PR.pcs (E := V.E) (w := w.alloc (.cells #[.slice A len cap] 27)) (Z := fun b => Z b ∨ b = w.heap.size) [.ro Tag.t_int p0] 0 ⟨w.heap.size, 0, none⟩ (fun _ => .slice A len cap) (.inr rfl)
   (fun j c hc => by
    match j with
    | 0 => rw [add_none]; exact cell_of_arr (heap_new w (.cells #[.slice A len cap] 27)) 0
    | j + 1 => simp at hc)
   (fun j c hc => by
    match j with
    | 0 => simp at hc; subst hc; exact hv.mono V.E ho.sub (fun b hb => ho.below.block b (hZ b hb))
    | j + 1 => simp at hc)
  exact h
 | i + 1 => simp at hc
theorem gives_ints (p : Addr) (v : Value) (p0 : List Int) (hl : p0.length * 8 ≤ 140737488351232) (w : World) (Z : Nat → Prop) (hZ : ∀ b, Z b → b < w.heap.size) (hp : Z p.block) (hc : w.cell? p = some v) (hv : PR V.E w Z (.ro Tag.t_int p0) v) (n : Nat) (hn : 1 ≤ n) :
  SV.Gives Fence.wide n 103 #[.pointer (some p)] (fun ys => ys = p0) p0.length w := by
 intro l J W hW hJ hY h0
 have hc' : W.cell? p = some v := (hW.cell (p := p) (hZ _ hp)).trans hc
 cases hv with
 | ronil _ A cap =>
  refine (SV.values1_nil_in Fence.wide n trivial rfl l p A cap J W hc' h0).mono ?_
  rintro e W' ⟨he, hj⟩
  exact ⟨he, _, rfl, hj⟩
 | ro _ _ q cap u hz hcap hcell hrel =>
  have hcs : ∀ j, j < p0.length → w.cell? (q.add j) = some (.int .i64 (p0[j]?.getD 0)) := fun j hj => by
   have h1 := hcell j p0[j] 0 (.lit (.int .i64 p0[j])) (by simp [hj]) rfl
   have h2 := hrel j p0[j] 0 (.lit (.int .i64 p0[j])) (by simp [hj]) rfl
   have h3 := inv_plit V.E h2
   rw [h3] at h1
   have : j * V.E.sz Tag.t_int + 0 = j := by show j * 1 + 0 = j; omega
   rw [this] at h1
   simp only [hj, List.getElem?_eq_getElem, Option.getD_some]
   exact h1
  refine (SV.values1_in Fence.wide n trivial rfl hn l w.heap.size p0.length cap p q (hZ _ hp) p0 hl (hZ _ hz) J (fun _ _ => False) (fun pre x W1 h1 h2 => ?_) W hc'
   (fun j hj => (hW.cell (p := q.add j) (by rw [add_block]; exact hZ _ hz)).trans (hcs j hj)) h0).mono ?_
  ·obtain ⟨fn, tmps, assign, body, hy, hR⟩ := hY pre x W1 h1 h2
   refine ⟨fn, tmps, assign, body, hy, hR.mono ?_⟩
   rintro e W2 ⟨rfl, hj, hk⟩
   refine .inl ⟨rfl, hj, ?_⟩
   have ha := hJ _ _ h1
   have hb := hJ _ _ hj
   exact ⟨hb.os.trans ha.os.symm, hb.tape.trans ha.tape.symm, hb.output.trans ha.output.symm, hk.size, fun k hk => (hb.block k hk).trans (ha.block k hk).symm⟩
  ·rintro e W' ⟨he, ⟨ys, rfl, hj⟩ | ⟨pre, _, hj⟩⟩
   ·exact ⟨he, _, SV.upto_all p0, hj⟩
   ·exact hj.elim
theorem slices_Sorted.okF (p0 : List Int) (hl : p0.length * 8 ≤ 140737488351232) : FCall V P 97 [.cv (.fn (.func 103) [] [.pcs [.ro Tag.t_int p0] 0])] Tag.t_int (isrt p0) := by
 rw [← isrt_eq]
 refine ⟨by kernel_rfl, fun w Z vs hZ hsz hargs => ?_⟩
 obtain ⟨v, rfl⟩ : ∃ v, vs = #[v] := by
  match vs, hsz with
  | ⟨[v]⟩, _ => exact ⟨v, rfl⟩
 have hv := hargs 0 _ v rfl rfl
 have hm : (maxLen : Nat) = 9223372036854775807 := by decide
 obtain ⟨p, x, hv, hp, hc, hx⟩ : ∃ p x, v = .func (.func 103) #[] #[.pointer (some p)] ∧ Z p.block ∧ w.cell? p = some x ∧ PR V.E w Z (.ro Tag.t_int p0) x := by
  cases hv with | cv hv =>
  cases hv with
  | pure hv => cases hv
  | @fn _ _ _ fs cs h1 h2 h3 h4 =>
   obtain rfl : fs = #[] := by simpa using h1
   obtain ⟨c, rfl⟩ : ∃ c, cs = #[c] := by
    match cs, h2 with
    | ⟨[c]⟩, _ => exact ⟨c, rfl⟩
   have h := h4 0 _ c rfl rfl
   have key : ∀ (a : Addr) (u : Nat → Value), Z a.block → w.cell? (a.add 0) = some (u 0) → ∃ p, (Value.pointer (some (a.add 0)) = .pointer (some p)) ∧ Z p.block ∧ w.cell? p = some (u 0) := fun a u hz hcell => ⟨a.add 0, rfl, by rw [add_block]; exact hz, hcell⟩
   cases h with
   | pure h =>
    cases h with
    | pcs _ _ a u hz hcell hrel => exact ⟨a.add 0, u 0, rfl, by rw [add_block]; exact hz, hcell 0 _ rfl, hrel 0 _ rfl⟩
   | pcs _ _ a u hz hcell hrel =>
    have hr := hrel 0 _ rfl
    cases hr with | pure hr => exact ⟨a.add 0, u 0, rfl, by rw [add_block]; exact hz, hcell 0 _ rfl, hr⟩
 subst hv
 have hcalls := SV.sorted_in Fence.wide 5 trivial trivial trivial trivial rfl (by omega)
  ⟨fun blk off cap ss W h1 h2 h3 => callsIn_wide.2 (Tryz.slices_Sort_int blk off cap ss W h1 h2 h3), fun p cap W => callsIn_wide.2 (Any.slices_Sort_int_none Tryz.lays189 p cap W)⟩
  (enters_of Tryz.func102 (by kernel_rfl) rfl) 103 #[.pointer (some p)] trivial (enters_of Tryz.func103 (by kernel_rfl) rfl) (fun ys => ys = p0) p0.length (by omega) (by omega) w (by rintro ss rfl; omega)
  (gives_ints p x p0 hl w Z hZ hp hc hx 2 (by omega))
 refine (callsIn_wide.1 hcalls).mono ?_
 rintro e w' ⟨v, ss, rfl, rfl, hrow, hnil, hb⟩
 refine ⟨v, Z, rfl, ⟨hb, fun _ h => h, fun _ h => .inl h⟩, ?_⟩
 rcases hrow.2 with ⟨rfl, hz⟩ | ⟨g, cap, cur, rfl, h1, h2, h3, h4, h5, h6⟩
 ·refine .inl ⟨rfl, ?_⟩
  have : ss = [] := List.eq_nil_of_length_eq_zero hz
  subst this; simp
 ·refine .inr ⟨g, cap, h1, (Array.getElem?_eq_some_iff.1 h2).1, fun hz => absurd (hZ _ hz) (by omega), by simp, by simp, cur, h2, by simpa using h3, h4, h5, ?_⟩
  intro i y j c u hy hcc hu
  match j with
  | 0 =>
   have hcu : c = .lit (.int .i64 y) := by simpa [V, E, cod, Codec.int] using hcc.symm
   subst hcu
   have : cur[i]? = some (.int .i64 y) := by
    have e1 : (cur.toList.take (ss.length * 1))[i]? = some (.int .i64 y) := by rw [h6]; simp [hy]
    have hlt : i < ss.length := by have := (List.getElem?_eq_some_iff.1 hy).1; simpa using this
    rw [List.getElem?_take, if_pos (by omega)] at e1
    simpa using e1
   have h7 : i * V.E.sz Tag.t_int + 0 = i := by show i * 1 + 0 = i; omega
   rw [h7, this] at hu
   cases hu
   exact .lit rfl
  | j + 1 => simp [V, E, cod, Codec.int] at hcc
end Go.Proofs.YtmafcdkdcfaajaaGreat
