import Derived.Test.YtdgejpgbppfhmaaGreatDoorSvc
set_option linter.unusedVariables false
set_option linter.unusedSimpArgs false
set_option maxHeartbeats 2000000
namespace Go.Proofs.YtdgejpgbppfhmaaGreatDoor
open Eng Go.RowKit
theorem Pp (Γ:Ue):Uc V P 20 100 Γ (Ud (Tryz.f58.body.getD .skip)) (fun e S=>e=.normal∧S=⟨[],[]⟩) ⟨[(3,.cv (.lit .nilIface))],[]⟩:=by
 refine Tm ?_;refine U2 L 200 [] [] [] [3,8] [] (cs:=[]) (S':=⟨[(3,.cv (.lit .nilIface)),(8,.B false)],[]⟩) (by kernel_rfl) trivial ?_;refine V4 (b:=false) (by kernel_rfl) (rfl) ?_;refine Zs [] [] (S':=⟨[],[]⟩) (by kernel_rfl) ?_;exact ⟨rfl,rfl⟩
theorem Qq (Γ:Ue) (p0:Int):Uc V P 20 100 Γ (Ud (Tryz.f58.body.getD .skip)) (fun e S=>e=.normal∧S=⟨[],[(0,.raw [.I 0,.str [],.I 0,.str [],.N]),(1,.raw [.I p0]),(2,.raw [.I 29])]⟩)
  ⟨[(0,.P 0),(1,.P 1),(2,.P 2),(3,.cv (.ifc 59 true [.I p0]))],[(0,.raw [.any,.any,.any,.any,.any]),(1,.raw [.any]),(2,.raw [.any])]⟩:=by
 refine Tm ?_;refine U2 L 200 [] [] [] [0,1,2,3,8] [0,1,2] (cs:=[]) (S':=⟨[(0,.P 0),(1,.P 1),(2,.P 2),(3,.cv (.ifc 59 true [.I p0])),(8,.B true)],[(0,.raw [.any,.any,.any,.any,.any]),(1,.raw [.any]),(2,.raw [.any])]⟩) (by kernel_rfl) trivial ?_;refine Yc (b:=true) (by kernel_rfl) (rfl) ?_;refine Tm ?_;refine U2 L 203 [] [] [] [0,1,2,3,4,5] [0,1,2,208] (cs:=[]) (S':=⟨[(0,.P 0),(1,.P 1),(2,.P 2),(3,.cv (.ifc 59 true [.I p0])),(4,.P 208),(5,.B true)],[(0,.raw [.any,.any,.any,.any,.any]),(1,.raw [.any]),(2,.raw [.any]),(208,.raw [.I p0])]⟩) (by kernel_rfl) trivial ?_;refine Tm ?_;refine Tm ?_;refine U2 L 212 [] [] [] [0,1,2,3,4,15] [0,1,2,208] (cs:=[]) (S':=⟨[(0,.P 0),(1,.P 1),(2,.P 2),(3,.cv (.ifc 59 true [.I p0])),(4,.P 208),(15,.B false)],[(0,.raw [.any,.any,.any,.any,.any]),(1,.raw [.any]),(2,.raw [.any]),(208,.raw [.I p0])]⟩) (by kernel_rfl) trivial ?_;refine V4 (b:=false) (by kernel_rfl) (rfl) ?_;refine Tq ?_;refine Ae3 L mixed 218 [] [] [] [0,1,2] 6 [] [0,1,2] (cs:=[]) (S':=⟨[],[(0,.raw [.I 0,.str [],.I 0,.str [],.N]),(1,.raw [.I p0]),(2,.raw [.I 29])]⟩) (by kernel_rfl) trivial ?_;exact ⟨rfl,rfl⟩
theorem Q2:Tryz.f58.body=some (Tryz.f58.body.getD .skip):=by kernel_rfl
theorem O3:Tryz.f58.body.getD .skip=.seq (X9 (Tryz.f58.body.getD .skip)) (Ud (Tryz.f58.body.getD .skip)):=by kernel_rfl
theorem Oa (p q r:Value) (w:World) (Z:Nat→Prop) (hZ:ZOK V w Z):CallsD P 58 #[p,q,r] .returning w fun e u' w'=>(∃ v,e=.returned v)∧u'=.returning∧∃ Z',Eng.Onto w w' Z Z':=by
 refine callsD_of_wpS Tryz.func58 Q2 fun c₀ cs hu=>?_
 rw [O3];apply wpS_seq;show Code.wpS P (.region 0 #[_,_] false) _ _ _ _;apply wpS_region;simp [wpOpsS,go_sem,recoverD,hu,Tryz.ntmps58,Exit.thenS]
 let Γc:Ue:={ w0:=w,Z0:=Z,D:=fun _ _=>False,st:=[] }
 have ha:Ul V 20 100 Γc ⟨[(3,.cv (.lit .nilIface))],[]⟩ Z (fun _=>none) { tmps:=#[p,q,r]++((Array.replicate 17 undef).setIfInBounds 3 Value.nilIface).setIfInBounds 0 Value.nilIface,defers:=[] } w:={
  defers:=rfl
  size:=by simp
  tmps:=fun t v hv=>by
   rw [T6] at hv;split at hv
   ·rename_i e;cases hv;subst e;have hg:(#[p,q,r]++((Array.replicate 17 undef).setIfInBounds 3 Value.nilIface).setIfInBounds 0 Value.nilIface).getD 3 undef=Value.nilIface:=by simp [Array.getD_eq_getD_getElem?]
    show RA V.E w Z _ _ (Array.getD _ 3 undef);rw [hg];exact .cv (.pure (.lit rfl))
   ·cases hv
  os:=rfl
  tape:=rfl
  output:=rfl
  hsize:=Nat.le_refl _
  old:=fun _ _ _=>rfl
  stm:=fun p hp=>by cases hp
  dlt:=fun _ _ h=>h.elim
  st:=fun p hp=>by cases hp
  Z0:=fun _ h=>h
  Zold:=fun _ h _=>h
  Zlt:=hZ.lt
  glb:=hZ.glb
  own:=fun id blk b c hl=>by cases hl
  inj:=fun id id' blk blk' b c c' hl=>by cases hl
  blk:=fun id blk hl=>by cases hl }
 refine wpS_of_wp (Code.wp_mono (fun e a' w' hq=>?_) (Pp Γc Z _ _ w ha));obtain ⟨S',Z',ρ',⟨rfl,rfl⟩,ha'⟩:=hq;refine ⟨ha'.defers,.returning,?_,.tuple #[],?_,⟨_,rfl⟩,rfl,Z',⟨ha'.os,ha'.tape,ha'.output,ha'.hsize,fun k hk=>ha'.old k hk fun _ h=>h⟩,fun b hb=>ha'.Z0 b hb,fun b hb=>?_⟩
 ·rw [← hu]
 ·simp [results,Tryz.results58]
 ·rcases Nat.lt_or_ge b w.heap.size with hlt | hge
  ·exact .inl (ha'.Zold b hb hlt)
  ·exact .inr ⟨hge,ha'.Zlt b hb⟩
theorem Jq {w:World} {Z:Nat→Prop} {ρ:Nat→Option (Nat×Nat×Nat)} {cs:List (CV T)} {bc:Option (Nat×Nat×Nat)} (h:BR V.E w Z ρ (.raw cs) bc) {ρ':Nat→Option (Nat×Nat×Nat)}:BR V.E w Z ρ' (.raw (List.replicate cs.length .any)) bc:=by
 cases bc with
 | none=>exact h
 | some p =>
  obtain ⟨b,c⟩:=p;obtain ⟨arr,e,h1,h2,h3⟩:=h;refine ⟨arr,e,h1,by simpa using h2,fun i c u hc hu=>?_⟩;have hi:i < cs.length:=by
   have:=(List.getElem?_eq_some_iff.1 hc).1
   simpa using this
  have hc':c=.any:=by
   rw [List.getElem?_replicate,if_pos hi] at hc;exact (Option.some.inj hc).symm
  subst hc';exact .pure (.any (h3 i _ u (List.getElem?_eq_getElem hi) hu).one)
theorem Pj {m:Nat} {Γ:Ue} {S:St T} {Z:Nat→Prop} {ρ:Nat→Option (Nat×Nat×Nat)} {a:Act} {w:World} (ha:Ul V 44 m Γ S Z ρ a w) (hk:Zf S=true) (at0:Int) {b0 b1 b2:Nat} {c0 c1 c2:Nat×Nat}
  (h0:ρ 90=some (b0,c0)) (h1:ρ 91=some (b1,c1)) (h2:ρ 92=some (b2,c2)) :
  CallsD P 58 #[.pointer (some ⟨b0,0,none⟩),.pointer (some ⟨b1,0,none⟩),.pointer (some ⟨b2,0,none⟩)] (.panicking [{ v:=Value.iface 59 (Value.agg #[Value.int .i64 at0]),recovered:=false }]) w fun e u' w' =>
   (∃ v,e=.returned v)∧u'=.panicking [{ v:=Value.iface 59 (Value.agg #[Value.int .i64 at0]),recovered:=true }] ∧
    ∃ Z',Ul V 44 m Γ ⟨[(4,.P 90),(5,.P 91),(6,.P 92)],[(90,.raw [.I 0,.str [],.I 0,.str [],.N]),(91,.raw [.I at0]),(92,.raw [.I 29])]⟩ Z' ρ a w':=by
 unfold Zf at hk;split at hk
 ·rename_i i j k ca cb cc e1 e2 e3 e4 e5 e6;simp only [Bool.and_eq_true] at hk;obtain ⟨⟨⟨⟨⟨k1,k2⟩,k3⟩,k4⟩,k5⟩,k6⟩:=hk;have k1:=Nat.eq_of_beq_eq_true k1;have k2:=Nat.eq_of_beq_eq_true k2;have k3:=Nat.eq_of_beq_eq_true k3;have k4:=Nat.eq_of_beq_eq_true k4;have k5:=Nat.eq_of_beq_eq_true k5;have k6:=Nat.eq_of_beq_eq_true k6;subst k1; subst k2; subst k3;have o0:=ha.own _ _ _ _ e4 h0;have o1:=ha.own _ _ _ _ e5 h1;have o2:=ha.own _ _ _ _ e6 h2;have n01:b0≠b1:=fun e=>by subst e; have:=ha.inj _ _ _ _ _ _ _ e4 e5 h0 h1; omega
  have n02:b0≠b2:=fun e=>by subst e; have:=ha.inj _ _ _ _ _ _ _ e4 e6 h0 h2; omega
  have n12:b1≠b2:=fun e=>by subst e; have:=ha.inj _ _ _ _ _ _ _ e5 e6 h1 h2; omega
  refine callsD_of_wpS Tryz.func58 Q2 fun c₀ cs hu=>?_
  rw [O3];apply wpS_seq;show Code.wpS P (.region 0 #[_,_] false) _ _ _ _;apply wpS_region;simp [wpOpsS,go_sem,recoverD,hu,Tryz.ntmps58,Exit.thenS]
  let pv:Value:=Value.iface 59 (Value.agg #[Value.int IntKind.i64 at0])
  let ρc:Nat→Option (Nat×Nat×Nat):=fun i=>if i < 3 then ρ (90+i) else none
  have r0:ρc 0=some (b0,c0):=h0;have r1:ρc 1=some (b1,c1):=h1;have r2:ρc 2=some (b2,c2):=h2
  let Γc:Ue:={ w0:=w,Z0:=Z,D:=fun id b=>id < 3∧∃ c,ρc id=some (b,c),st:=[(0,ρc 0),(1,ρc 1),(2,ρc 2)] }
  generalize htm:(#[Value.pointer (some { block:=b0,off:=0 }),Value.pointer (some { block:=b1,off:=0 }),Value.pointer (some { block:=b2,off:=0 })] ++
        ((Array.replicate 17 undef).setIfInBounds 3 (Value.iface 59 (Value.agg #[Value.int IntKind.i64 at0]))).setIfInBounds 0 (Value.iface 59 (Value.agg #[Value.int IntKind.i64 at0])):Array Value)=tm
  have t0:tm.getD 0 undef=.pointer (some ⟨b0,0,none⟩):=by rw [← htm]; simp [Array.getD_eq_getD_getElem?]
  have t1:tm.getD 1 undef=.pointer (some ⟨b1,0,none⟩):=by rw [← htm]; simp [Array.getD_eq_getD_getElem?]
  have t2:tm.getD 2 undef=.pointer (some ⟨b2,0,none⟩):=by rw [← htm]; simp [Array.getD_eq_getD_getElem?]
  have t3:tm.getD 3 undef=pv:=by rw [← htm]; simp [Array.getD_eq_getD_getElem?,pv]
  have tsz:tm.size=20:=by rw [← htm]; simp
  have hblk:∀ id blk,Eng.look id [(0,T9.raw [CV.any,.any,.any,.any,.any]),(1,.raw [.any]),(2,.raw [.any])]=some blk→(id=0∧blk=T9.raw (List.replicate 5 (CV.any (T:=T))))∨(id=1∧blk=T9.raw (List.replicate 1 (CV.any (T:=T))))∨(id=2∧blk=T9.raw (List.replicate 1 (CV.any (T:=T)))):=fun id blk hl=>by
   rw [T6] at hl;split at hl
   ·rename_i e; cases hl; exact .inl ⟨e,rfl⟩
   ·rw [T6] at hl;split at hl
    ·rename_i e; cases hl; exact .inr (.inl ⟨e,rfl⟩)
    ·rw [T6] at hl;split at hl
     ·rename_i e; cases hl; exact .inr (.inr ⟨e,rfl⟩)
     ·cases hl
  have hac:Ul V 20 100 Γc ⟨[(0,.P 0),(1,.P 1),(2,.P 2),(3,.cv (.ifc 59 true [.I at0]))],[(0,.raw [.any,.any,.any,.any,.any]),(1,.raw [.any]),(2,.raw [.any])]⟩ Z ρc { tmps:=tm,defers:=[] } w:={
   defers:=rfl
   size:=tsz
   tmps:=fun t v hv=>by
    show RA V.E w Z ρc v (tm.getD t undef);rw [T6] at hv;split at hv
    ·rename_i e; cases hv; subst e; rw [t0]; exact .cv (.ptr r0)
    ·rw [T6] at hv;split at hv
     ·rename_i e; cases hv; subst e; rw [t1]; exact .cv (.ptr r1)
     ·rw [T6] at hv;split at hv
      ·rename_i e; cases hv; subst e; rw [t2]; exact .cv (.ptr r2)
      ·rw [T6] at hv;split at hv
       ·rename_i e; cases hv; subst e; rw [t3];refine .cv (.ifca (us:=#[Value.int IntKind.i64 at0]) rfl fun i c v hc hv=>?_)
        match i with
        | 0=>simp at hc hv; subst hc; subst hv; exact .pure (.lit rfl)
        | i+1=>simp at hc
       ·cases hv
   os:=rfl
   tape:=rfl
   output:=rfl
   hsize:=Nat.le_refl _
   old:=fun _ _ _=>rfl
   stm:=fun p hp=>by
    simp only [Γc,List.mem_cons,List.not_mem_nil,or_false] at hp;rcases hp with rfl | rfl | rfl
    ·exact (by decide:(0:Nat) < 100)
    ·exact (by decide:(1:Nat) < 100)
    ·exact (by decide:(2:Nat) < 100)
   dlt:=fun _ _ h=>Nat.lt_trans h.1 (by decide)
   st:=fun p hp=>by
    simp only [Γc,List.mem_cons,List.not_mem_nil,or_false] at hp;rcases hp with rfl | rfl | rfl <;> rfl
   Z0:=fun _ h=>h
   Zold:=fun _ h _=>h
   Zlt:=ha.Zlt
   glb:=ha.glb
   own:=fun id blk b c hl hr=>by
    rcases hblk id blk hl with ⟨rfl,_⟩ |⟨rfl,_⟩ |⟨rfl,_⟩
    ·have hr':=hr; rw [r0] at hr'; cases hr'; exact ⟨o0.1,o0.2.1,.inr ⟨by decide,_,hr⟩⟩
    ·have hr':=hr; rw [r1] at hr'; cases hr'; exact ⟨o1.1,o1.2.1,.inr ⟨by decide,_,hr⟩⟩
    ·have hr':=hr; rw [r2] at hr'; cases hr'; exact ⟨o2.1,o2.2.1,.inr ⟨by decide,_,hr⟩⟩
   inj:=fun id id' blk blk' b c c' hl hl' hr hr'=>by
    rcases hblk id blk hl with ⟨rfl,_⟩ |⟨rfl,_⟩ |⟨rfl,_⟩ <;> rcases hblk id' blk' hl' with ⟨rfl,_⟩ |⟨rfl,_⟩ |⟨rfl,_⟩ <;>
     first | rfl |(simp only [r0,r1,r2,Option.some.injEq,Prod.mk.injEq] at hr hr'; omega)
   blk:=fun id blk hl=>by
    rcases hblk id blk hl with ⟨rfl,rfl⟩ |⟨rfl,rfl⟩ |⟨rfl,rfl⟩
    ·have:=Jq (ha.blk _ _ e4) (ρ':=ρc); rw [k4,h0] at this; rw [r0]; exact this
    ·have:=Jq (ha.blk _ _ e5) (ρ':=ρc); rw [k5,h1] at this; rw [r1]; exact this
    ·have:=Jq (ha.blk _ _ e6) (ρ':=ρc); rw [k6,h2] at this; rw [r2]; exact this }
  refine wpS_of_wp (Code.wp_mono (fun e a' w' hq=>?_) (Qq Γc at0 Z _ _ w hac));obtain ⟨S',Z',ρ',⟨rfl,rfl⟩,ha'⟩:=hq;refine ⟨ha'.defers,_,rfl,.tuple #[],?_,⟨_,rfl⟩,rfl,Z',?_⟩
  ·simp [results,Tryz.results58]
  ·have q0:ρ' 0=some (b0,c0):=(ha'.st (0,ρc 0) (by simp [Γc])).trans r0;have q1:ρ' 1=some (b1,c1):=(ha'.st (1,ρc 1) (by simp [Γc])).trans r1;have q2:ρ' 2=some (b2,c2):=(ha'.st (2,ρc 2) (by simp [Γc])).trans r2;have hold:∀ b,b < w.heap.size→b≠b0→b≠b1→b≠b2→w'.heap[b]? = w.heap[b]?:=fun b hb g0 g1 g2=>ha'.old b hb fun id ⟨hid,c,hc⟩=>by
    match id,hid with
    | 0,_=>rw [r0] at hc; cases hc; exact g0 rfl
    | 1,_=>rw [r1] at hc; cases hc; exact g1 rfl
    | 2,_=>rw [r2] at hc; cases hc; exact g2 rfl
   have hnz:∀ b,Z b→b≠b0∧b≠b1∧b≠b2:=fun b hb=>⟨fun e=>o0.2.1 (e ▸ hb),fun e=>o1.2.1 (e ▸ hb),fun e=>o2.2.1 (e ▸ hb)⟩
   have hZw:∀ b,Z b→w'.heap[b]? = w.heap[b]?:=fun b hb=>hold b (ha.Zlt b hb) (hnz b hb).1 (hnz b hb).2.1 (hnz b hb).2.2
   have hblk2:∀ id blk,Eng.look id [(90,T9.raw [CV.I 0,.str [],.I 0,.str [],.N]),(91,.raw [.I at0]),(92,.raw [.I 29])]=some blk →
     (id=90∧BR V.E w' Z' ρ' blk (some (b0,c0)))∨(id=91∧BR V.E w' Z' ρ' blk (some (b1,c1)))∨(id=92∧BR V.E w' Z' ρ' blk (some (b2,c2))):=fun id blk hl=>by
    rw [T6] at hl;split at hl
    ·rename_i e; cases hl; have:=ha'.blk 0 _ rfl; rw [q0] at this; exact .inl ⟨e,this⟩
    ·rw [T6] at hl;split at hl
     ·rename_i e; cases hl; have:=ha'.blk 1 _ rfl; rw [q1] at this; exact .inr (.inl ⟨e,this⟩)
     ·rw [T6] at hl;split at hl
      ·rename_i e; cases hl; have:=ha'.blk 2 _ rfl; rw [q2] at this; exact .inr (.inr ⟨e,this⟩)
      ·cases hl
   have hpl:∀ (id:Nat) (blk:T9 T),Eng.look id [(90,T9.raw [CV.I 0,.str [],.I 0,.str [],.N]),(91,.raw [.I at0]),(92,.raw [.I 29])]=some blk→∀ j,blk.names j=false:=fun id blk hl j=>by
    rw [T6] at hl;split at hl
    ·cases hl; rfl
    ·rw [T6] at hl;split at hl
     ·cases hl; rfl
     ·rw [T6] at hl;split at hl
      ·cases hl; rfl
      ·cases hl
   exact {
    defers:=ha.defers
    size:=ha.size
    tmps:=fun t v hv=>by
     have g4:=ha.tmps _ _ e1;have g5:=ha.tmps _ _ e2;have g6:=ha.tmps _ _ e3;have go:∀ t v,RA V.E w Z ρ v (a.tmps.getD t undef)→RA V.E w' Z' ρ v (a.tmps.getD t undef):=fun t v h=>h.mono V.E ha'.Z0 hZw fun _ _=>rfl
     rw [T6] at hv;split at hv
     ·rename_i e; cases hv; subst e; exact go _ _ g4
     ·rw [T6] at hv;split at hv
      ·rename_i e; cases hv; subst e; exact go _ _ g5
      ·rw [T6] at hv;split at hv
       ·rename_i e; cases hv; subst e; exact go _ _ g6
       ·cases hv
    os:=ha'.os.trans ha.os
    tape:=ha'.tape.trans ha.tape
    output:=ha'.output.trans ha.output
    hsize:=Nat.le_trans ha.hsize ha'.hsize
    old:=fun b hb hD=>by
     have hlt:=Nat.lt_of_lt_of_le hb ha.hsize;refine (hold b hlt (fun e=>?_) (fun e=>?_) (fun e=>?_)).trans (ha.old b hb hD)
     ·subst e; rcases o0.2.2 with h | h
      ·omega
      ·exact hD _ h
     ·subst e; rcases o1.2.2 with h | h
      ·omega
      ·exact hD _ h
     ·subst e; rcases o2.2.2 with h | h
      ·omega
      ·exact hD _ h
    stm:=ha.stm
    st:=ha.st
    dlt:=ha.dlt
    Z0:=fun b hb=>ha'.Z0 b (ha.Z0 b hb)
    Zold:=fun b hb hlt=>ha.Zold b (ha'.Zold b hb (Nat.lt_of_lt_of_le hlt ha.hsize)) hlt
    Zlt:=ha'.Zlt
    glb:=ha'.glb
    own:=fun id blk b c hl hr=>by
     have s0:=ha'.own 0 _ _ _ rfl q0;have s1:=ha'.own 1 _ _ _ rfl q1;have s2:=ha'.own 2 _ _ _ rfl q2;rcases hblk2 id blk hl with ⟨rfl,_⟩ |⟨rfl,_⟩ |⟨rfl,_⟩
     ·have hr':=hr; rw [h0] at hr'; cases hr'; exact ⟨s0.1,s0.2.1,o0.2.2⟩
     ·have hr':=hr; rw [h1] at hr'; cases hr'; exact ⟨s1.1,s1.2.1,o1.2.2⟩
     ·have hr':=hr; rw [h2] at hr'; cases hr'; exact ⟨s2.1,s2.2.1,o2.2.2⟩
    inj:=fun id id' blk blk' b c c' hl hl' hr hr'=>by
     rcases hblk2 id blk hl with ⟨rfl,_⟩ |⟨rfl,_⟩ |⟨rfl,_⟩ <;> rcases hblk2 id' blk' hl' with ⟨rfl,_⟩ |⟨rfl,_⟩ |⟨rfl,_⟩ <;>
      first | rfl |(simp only [h0,h1,h2,Option.some.injEq,Prod.mk.injEq] at hr hr'; omega)
    blk:=fun id blk hl=>by
     have hn:=hpl id blk hl;rcases hblk2 id blk hl with ⟨rfl,g⟩ |⟨rfl,g⟩ |⟨rfl,g⟩
     ·rw [h0]; exact BR.mono (fun _ h=>h) (fun _ _=>rfl) (fun _ _ _=>rfl) g fun j hj=>by rw [hn j] at hj; cases hj
     ·rw [h1]; exact BR.mono (fun _ h=>h) (fun _ _=>rfl) (fun _ _ _=>rfl) g fun j hj=>by rw [hn j] at hj; cases hj
     ·rw [h2]; exact BR.mono (fun _ h=>h) (fun _ _=>rfl) (fun _ _ _=>rfl) g fun j hj=>by rw [hn j] at hj; cases hj }
 ·cases hk
theorem Qv:Tryz.f30.body=some (Tryz.f30.body.getD .skip):=by kernel_rfl
theorem Mv:Tryz.f30.body.getD .skip=.seq (X9 (Tryz.f30.body.getD .skip)) (Ud (Tryz.f30.body.getD .skip)):=by kernel_rfl
theorem M6:Ud (Tryz.f30.body.getD .skip)=.seq (X9 (Ud (Tryz.f30.body.getD .skip))) (Ud (Ud (Tryz.f30.body.getD .skip))):=by kernel_rfl
theorem Mz:Ud (Ud (Tryz.f30.body.getD .skip))=.seq (X9 (Ud (Ud (Tryz.f30.body.getD .skip)))) (Ud (Ud (Ud (Tryz.f30.body.getD .skip)))):=by kernel_rfl
theorem Q5:Ud (Ud (Ud (Tryz.f30.body.getD .skip)))=.seq (X9 (Ud (Ud (Ud (Tryz.f30.body.getD .skip))))) (Ud (Ud (Ud (Ud (Tryz.f30.body.getD .skip))))):=by kernel_rfl
abbrev P6 (src:List UInt8) (g:FuncId):St T:=⟨[(0,.cv (.str src)),(1,.cv (.fn (.func g) [] [])),(4,.P 90),(5,.P 91),(6,.P 92)],[(90,.raw [.I 0,.str [],.I 0,.str [],.N]),(91,.raw [.I 0]),(92,.raw [.I 0])]⟩
abbrev Kl (g:FuncId) (l:List Av) (at0 e0:Int):St T:=⟨[(1,.cv (.fn (.func g) [] [])),(4,.P 90),(5,.P 91),(6,.P 92),(7,.cv (.ro Tag.Ap l))],[(90,.raw [.I 0,.str [],.I 0,.str [],.N]),(91,.raw [.I at0]),(92,.raw [.I e0])]⟩
theorem R4 (Γ:Ue) (src:List UInt8) (g:FuncId):Uc V P 44 90 Γ (X9 (Tryz.f30.body.getD .skip)) (fun e S=>e=.normal∧S=P6 src g) ⟨T0 0 [.cv (.str src),.cv (.fn (.func g) [] [])],[]⟩ :=
 U2 L 90 [] [] [] [0,1,4,5,6] [90,91,92] (cs:=[]) (S':=P6 src g) (by kernel_rfl) trivial ⟨rfl,rfl⟩
theorem R5 (Γ:Ue) {src:List UInt8} (g:FuncId) {l:List Av} {at0 e0:Int} (hscan:Tz V P 57 [.cv (.str src)] (.tup [.cv (.ro Tag.Ap l),.I at0,.I e0])) :
  Uc V P 44 90 Γ (X9 (Ud (Tryz.f30.body.getD .skip))) (fun e S=>e=.normal∧S=Kl g l at0 e0) (P6 src g) :=
 U2 L 200 [] [(1,.tup [.cv (.ro Tag.Ap l),.I at0,.I e0])] [] [1,4,5,6,7] [90,91,92] (cs:=[Tz V P 57 [.cv (.str src)] (.tup [.cv (.ro Tag.Ap l),.I at0,.I e0]),True]) (S':=Kl g l at0 e0) (by kernel_rfl) ⟨hscan,trivial⟩ ⟨rfl,rfl⟩
theorem part2 (Γ:Ue) (g:FuncId) (l:List Av) (at0:Int) :
  Uc V P 44 90 Γ (X9 (Ud (Ud (Tryz.f30.body.getD .skip)))) (fun e S=>e=.normal∧S=Kl g l at0 0) (Kl g l at0 0):=by
 refine Tm ?_;refine U2 L 210 [] [] [] [1,4,5,6,7,16] [90,91,92] (cs:=[]) (S':=⟨[(1,.cv (.fn (.func g) [] [])),(4,.P 90),(5,.P 91),(6,.P 92),(7,.cv (.ro Tag.Ap l)),(16,.B (decide ((0:Int)≠0)))],[(90,.raw [.I 0,.str [],.I 0,.str [],.N]),(91,.raw [.I at0]),(92,.raw [.I 0])]⟩) (by kernel_rfl) trivial ?_;refine V4 (b:=decide ((0:Int)≠0)) (by kernel_rfl) (by decide) ?_;refine Zs [1,4,5,6,7] [90,91,92] (S':=Kl g l at0 0) (by kernel_rfl) ?_;exact ⟨rfl,rfl⟩
abbrev R9 (at0 e0:Int):St T:=⟨[(4,.P 90),(5,.P 91),(6,.P 92)],[(90,.raw [.I 0,.str [],.I 0,.str [],.N]),(91,.raw [.I at0]),(92,.raw [.I e0])]⟩
theorem Sq (Γ:Ue) (g:FuncId) (l:List Av) (at0 e0:Int) (he:e0≠0) :
  Uc V P 44 90 Γ (X9 (Ud (Ud (Tryz.f30.body.getD .skip)))) (fun e S=>e=.ret∧S=R9 at0 e0) (Kl g l at0 e0):=by
 refine Tm ?_;refine U2 L 210 [] [] [] [4,5,6,16] [90,91,92] (cs:=[]) (S':=⟨[(4,.P 90),(5,.P 91),(6,.P 92),(16,.B (decide (e0≠0)))],[(90,.raw [.I 0,.str [],.I 0,.str [],.N]),(91,.raw [.I at0]),(92,.raw [.I e0])]⟩) (by kernel_rfl) trivial ?_;refine Yc (b:=decide (e0≠0)) (by kernel_rfl) (decide_eq_true he) ?_;refine Tm ?_;refine hA L mixed 220 [] [] [] [] 15 (cs:=[]) (S':=R9 at0 e0) trivial ?_;refine To ?_;exact ⟨rfl,rfl⟩
theorem Tf {m:Nat} {w w':World} {Z Z':Nat→Prop} {st:List (Nat×Option (Nat×Nat×Nat))} {ds:List Deferred} {S':St T} {ρ':Nat→Option (Nat×Nat×Nat)} {a':Act} {x r:AV T} (ha':Ul V 44 m { w0:=w,Z0:=Z,D:=fun _ _=>False,st:=st,ds:=ds } S' Z' ρ' a' w') (h1:W8 V.E P S' Tryz.f30=some x) (h2:coA x r=r) (hc:r.clean=true) :
  ∃ v,(results Tryz.f30 a'.tmps).run P w'=.ok v w'∧∃ v2 Z2,Ending.returned v=.returned v2∧Eng.Onto w w' Z Z2∧RA V.E w' Z2 (fun _=>none) r v2:=by
 obtain ⟨v,e1,e2⟩:=Y5 h1 ha';have e3:=Xh (y:=r) e2;rw [h2] at e3;refine ⟨v,e1,v,Z',rfl,⟨⟨ha'.os,ha'.tape,ha'.output,ha'.hsize,fun k hk=>ha'.old k hk (fun _ h=>h)⟩,fun b hb=>ha'.Z0 b hb,fun b hb=>?_⟩,e3.mono V.E (fun _ h=>h) (fun _ _=>rfl) fun id hid=>by rw [AV.clean_names hc id] at hid; cases hid⟩;rcases Nat.lt_or_ge b w.heap.size with hlt | hge
 ·exact .inl (ha'.Zold b hb hlt)
 ·exact .inr ⟨hge,ha'.Zlt b hb⟩
theorem Ll {src:List UInt8} {g:FuncId} {l:List Av} {at0 e0:Int} (hscan:Tz V P 57 [.cv (.str src)] (.tup [.cv (.ro Tag.Ap l),.I at0,.I e0])) (he:e0≠0) :
  Tz V P 30 [.cv (.str src),.cv (.fn (.func g) [] [])] (.tup [.agg (Ag Ah),.I at0,.I e0]):=by
 refine ⟨by kernel_rfl,fun w Z vs hZ hsz hargs=>?_⟩;refine calls_of_wp_defers Tryz.func30 Qv ?_;have ha:=Aa1 (m:=90) (fn:=Tryz.f30) (n:=44) rfl rfl hZ hsz hargs;rw [Mv];refine wp_seq (Code.wp_mono (fun e a1 w1 hq=>?_) (R4 _ src g Z _ _ w ha));obtain ⟨S',Z1,ρ1,⟨rfl,rfl⟩,ha1⟩:=hq;show Code.wp P (Ud (Tryz.f30.body.getD .skip)) _ _ _;rw [M6];refine wp_seq (Code.wp_mono (fun e a2 w2 hq=>?_) (R5 _ g hscan Z1 _ _ w1 ha1));obtain ⟨S',Z2,ρ2,⟨rfl,rfl⟩,ha2⟩:=hq;show Code.wp P (Ud (Ud (Tryz.f30.body.getD .skip))) _ _ _;rw [Mz];refine wp_seq (Code.wp_mono (fun e a3 w3 hq=>?_) (Sq _ g l at0 e0 he Z2 _ _ w2 ha2));obtain ⟨S',Z3,ρ3,⟨rfl,rfl⟩,ha3⟩:=hq;show Leaves P Tryz.f30 a3.tmps _ a3.defers .returning w3;rw [show a3.defers=[] from ha3.defers];exact Tf ha3 (x:=.tup [.agg [.I 0,.str [],.I 0,.str [],.N],.I at0,.I e0]) (by kernel_rfl) (by kernel_rfl) (by kernel_rfl)
theorem Lb {src:List UInt8} {g:FuncId} {l:List Av} {at0:Int} {o:Uz T} {N:Aa} {at1 e1:Int} (hscan:Tz V P 57 [.cv (.str src)] (.tup [.cv (.ro Tag.Ap l),.I at0,.I 0]))
  (hrest:∀ Γ:Ue,Uc V P 44 93 Γ (Ud (Ud (Ud (Ud (Tryz.f30.body.getD .skip))))) (Xr P V Tryz.f30 o) ⟨[(1,.cv (.fn (.func g) [] [])),(4,.P 90),(5,.P 91),(6,.P 92),(7,.cv (.ro .Ap l))],[(90,.raw [.I 0,.str [],.I 0,.str [],.N]),(91,.raw [.I at0]),(92,.raw [.I 0])]⟩)
  (hr:o=.ret (.tup [.agg (Ag N),.I at1,.I e1])∨∃ a,o=.pan (Value.iface 59 (Value.agg #[Value.int .i64 a]))∧(N,at1,e1)=(Ah,a,29)) :
  Tz V P 30 [.cv (.str src),.cv (.fn (.func g) [] [])] (.tup [.agg (Ag N),.I at1,.I e1]):=by
 refine ⟨by kernel_rfl,fun w Z vs hZ hsz hargs=>?_⟩;refine calls_of_wp_defers Tryz.func30 Qv ?_;have ha:=Aa1 (m:=90) (fn:=Tryz.f30) (n:=44) rfl rfl hZ hsz hargs;rw [Mv];refine wp_seq (Code.wp_mono (fun e a1 w1 hq=>?_) (R4 _ src g Z _ _ w ha));obtain ⟨S',Z1,ρ1,⟨rfl,rfl⟩,ha1⟩:=hq;show Code.wp P (Ud (Tryz.f30.body.getD .skip)) _ _ _;rw [M6];refine wp_seq (Code.wp_mono (fun e a2 w2 hq=>?_) (R5 _ g hscan Z1 _ _ w1 ha1));obtain ⟨S',Z2,ρ2,⟨rfl,rfl⟩,ha2⟩:=hq;show Code.wp P (Ud (Ud (Tryz.f30.body.getD .skip))) _ _ _;rw [Mz];refine wp_seq (Code.wp_mono (fun e a3 w3 hq=>?_) (part2 _ g l at0 Z2 _ _ w2 ha2));obtain ⟨S',Z3,ρ3,⟨rfl,rfl⟩,ha3⟩:=hq;show Code.wp P (Ud (Ud (Ud (Tryz.f30.body.getD .skip)))) _ _ _;rw [Q5];have ptr:∀ (t id:Nat),Eng.look t (Kl g l at0 0).tmps=some (.P id)→∃ b c,ρ3 id=some (b,c)∧a3.tmps.getD t undef=.pointer (some ⟨b,0,none⟩):=fun t id h=>by
  have:=ha3.tmps t _ h
  generalize a3.tmps.getD t undef=v at this;cases this with | cv h =>
  cases h with
  | pure h=>cases h
  | @ptr _ _ b n hr=>exact ⟨b,n,hr,rfl⟩
 obtain ⟨b0,c0,p0,q0⟩:=ptr 4 90 rfl;obtain ⟨b1,c1,p1,q1⟩:=ptr 5 91 rfl;obtain ⟨b2,c2,p2,q2⟩:=ptr 6 92 rfl;refine wp_seq ?_;show Code.wp P (.region 4 #[_,_] false) _ _ _;refine wp_region_list ?_
 let fv:Value:=.func (.func 58) #[] #[.pointer (some ⟨b0,0,none⟩),.pointer (some ⟨b1,0,none⟩),.pointer (some ⟨b2,0,none⟩)]
 let d:Deferred:={ target:=.fn (.func 58) #[.pointer (some ⟨b0,0,none⟩),.pointer (some ⟨b1,0,none⟩),.pointer (some ⟨b2,0,none⟩)],args:=#[] }
 let a4:=a3.put (some 20) fv
 have h20:a4.tmps.getD 20 undef=fv:=by
  show (a3.put (some 20) fv).tmps.getD 20 undef=fv;rw [Vy,if_pos ⟨rfl,by rw [ha3.size]; decide⟩]
 show wpList P _ _ [_,_] a3 w3;unfold wpList;rw [if_pos (show Region.wanted _ _=true from rfl)];left;unfold Oper.wp
 rw [show (execOp a3.eval { dst:=some 20,op:=Op.makeFunc (Fn.func 58) #[] #[Operand.tmp 4,Operand.tmp 5,Operand.tmp 6],type:=1,pos:= "syntax.go:372",after:=#[],guard:=none }).run P w3=.ok (.value fv) w3 by
  simp [execOp,Instr.makeFunc,Act.eval,q0,q1,q2,fv]]
 show wpList P _ _ [_] a4 w3;unfold wpList;rw [if_pos (show Region.wanted _ _=true from rfl)];left;unfold Oper.wp
 rw [show (execOp a4.eval { dst:=none,op:=Op.defer { callee:=Callee.value (Operand.tmp 20),args:=#[],argTypes:=#[] },type:=0,pos:= "syntax.go:372",after:=#[{ on:=0,ground:=Ground.data }],guard:=none }).run P w3=.ok (.defer d) w3 by
  simp [execOp,resolve,Act.eval,h20,fv,d,Deferred.ofValue]]
 show Code.wp P (Ud (Ud (Ud (Ud (Tryz.f30.body.getD .skip))))) _ { a4 with defers:=d :: a4.defers } w3
 let Γ':Ue:={ w0:=w,Z0:=Z,D:=fun _ _=>False,st:=[(90,ρ3 90),(91,ρ3 91),(92,ρ3 92)],ds:=[d] }
 have hd3:a3.defers=[]:=ha3.defers;have ha4:Ul V 44 93 Γ' (Kl g l at0 0) Z3 ρ3 { a4 with defers:=d :: a4.defers } w3:={
  defers:=by show d ::(a3.put (some 20) fv).defers=[d]; rw [Vm,hd3]
  size:=by show (a3.put (some 20) fv).tmps.size=44; rw [Wr]; exact ha3.size
  tmps:=fun t v hv=>by
   have h:=ha3.tmps t v hv;have ht:t≠20:=fun e=>by subst e; cases hv
   show RA V.E w3 Z3 ρ3 v ((a3.put (some 20) fv).tmps.getD t undef);rw [Vy,if_neg (fun h=>ht h.1)];exact h
  os:=ha3.os
  tape:=ha3.tape
  output:=ha3.output
  hsize:=ha3.hsize
  old:=ha3.old
  stm:=fun p hp=>by
   simp only [Γ',List.mem_cons,List.not_mem_nil,or_false] at hp;rcases hp with rfl | rfl | rfl
   ·exact (by decide:(90:Nat) < 93)
   ·exact (by decide:(91:Nat) < 93)
   ·exact (by decide:(92:Nat) < 93)
  dlt:=fun _ _ h=>h.elim
  st:=fun p hp=>by
   simp only [Γ',List.mem_cons,List.not_mem_nil,or_false] at hp;rcases hp with rfl | rfl | rfl <;> rfl
  Z0:=ha3.Z0
  Zold:=ha3.Zold
  Zlt:=ha3.Zlt
  glb:=ha3.glb
  own:=ha3.own
  inj:=ha3.inj
  blk:=ha3.blk }
 refine Code.wp_mono (fun e a5 w5 hq=>?_) (hrest Γ' Z3 ρ3 _ w3 ha4);obtain ⟨S5,Z5,ρ5,hq,ha5⟩:=hq;have r0:ρ5 90=some (b0,c0):=(ha5.st (90,ρ3 90) (by simp [Γ'])).trans p0;have r1:ρ5 91=some (b1,c1):=(ha5.st (91,ρ3 91) (by simp [Γ'])).trans p1;have r2:ρ5 92=some (b2,c2):=(ha5.st (92,ρ3 92) (by simp [Γ'])).trans p2;have hd5:a5.defers=[d]:=ha5.defers;have hinv:(invoke (.fn (.func 58) #[.pointer (some ⟨b0,0,none⟩),.pointer (some ⟨b1,0,none⟩),.pointer (some ⟨b2,0,none⟩)]) #[]).run P w5=.ok (.enter 58 #[.pointer (some ⟨b0,0,none⟩),.pointer (some ⟨b1,0,none⟩),.pointer (some ⟨b2,0,none⟩)]) w5:=by
  simp only [invoke];rw [Vj (by kernel_rfl)];simp
 have hclean:(AV.tup [.agg (Ag N),.I at1,.I e1]:AV T).clean=true:=by kernel_rfl
 rcases hr with rfl |⟨at2,rfl,hN⟩
 ·obtain ⟨he,x,hx1,hx2⟩:=hq;have key:Leaves P Tryz.f30 a5.tmps (fun e w'=>∃ v Z',e=Ending.returned v∧Eng.Onto w w' Z Z'∧RA V.E w' Z' (fun _=>none) (AV.tup [AV.agg (Ag N),AV.I at1,AV.I e1]) v) a5.defers .returning w5:=by
   rw [hd5];refine leaves_cons (f:=58) (by simp) hinv ?_;refine (Oa _ _ _ w5 Z5 ha5.zok).mono fun e u' w6 he=>?_
   obtain ⟨⟨v,rfl⟩,rfl,Z6,hon⟩:=he;show Leaves P Tryz.f30 a5.tmps _ [] .returning w6;exact Tf (ha5.onto hon) hx1 hx2 hclean
  rcases he with rfl | rfl
  ·exact key
  ·exact key
 ·obtain ⟨rfl,hk⟩:=hq;simp only [Prod.mk.injEq] at hN;obtain ⟨rfl,rfl,rfl⟩:=hN;show Leaves P Tryz.f30 a5.tmps _ a5.defers _ w5;rw [hd5];refine leaves_cons (f:=58) (by simp) hinv ?_;refine (Pj ha5 hk at1 r0 r1 r2).mono fun e u' w6 he=>?_
  obtain ⟨⟨v,rfl⟩,rfl,Z6,ha6⟩:=he;show Leaves P Tryz.f30 a5.tmps _ [] .returning w6;exact Tf ha6 (x:=.tup [.agg [.I 0,.str [],.I 0,.str [],.N],.I at1,.I 29]) (by kernel_rfl) (by kernel_rfl) hclean
end Go.Proofs.YtdgejpgbppfhmaaGreatDoor
