import Derived.Test.YtdgejpgbppfhmaaGreatDoorEngA
import Derived.ProofKit
import Derived.Deep.Slices
import Derived.DataElems
set_option linter.unusedVariables false
set_option linter.unusedSimpArgs false
namespace Go.Proofs.YtdgejpgbppfhmaaGreatDoor.Eng
open Go.RowKit (Below)
section
variable {Tag:Type} {T:Tag→Type} (V:V6 T)
variable {P:Program} {n m:Nat} {Γ:Ue} {S:St T} {Z:Nat→Prop} {ρ:Nat→Option (Nat×Nat×Nat)} {a:Act} {w:World}
def CV.clean:CV T→Bool
 | .ptr _ _ | .own _ _ | .pel _ _ _ _ | .mp _=>false
 | .fn _ f c=>cleanL f && cleanL c
 | .ifc _ _ cs | .rol cs | .pcs cs _=>cleanL cs
 | _=>true
where cleanL:List (CV T)→Bool
 | []=>true
 | c :: cs=>CV.clean c && cleanL cs
mutual
theorem CV.clean_names {c:CV T} (h:c.clean=true) (id:Nat):c.names id=false:=by
 cases c with
 | ptr=>cases h
 | own=>cases h
 | pel=>cases h
 | mp=>cases h
 | fn f x y =>
  simp only [CV.clean,Bool.and_eq_true] at h;simp only [CV.names,CV.cleanL_names h.1 id,CV.cleanL_names h.2 id,Bool.or_self]
 | ifc t b cs=>exact CV.cleanL_names (cs:=cs) h id
 | rol cs=>exact CV.cleanL_names (cs:=cs) h id
 | pcs cs o=>exact CV.cleanL_names (cs:=cs) h id
 | lit v=>rfl
 | str l=>rfl
 | any=>rfl
 | ro t xs=>rfl
 | ron t xs=>rfl
 | rom t xs=>rfl
theorem CV.cleanL_names {cs:List (CV T)} (h:CV.clean.cleanL cs=true) (id:Nat):CV.names.namesL id cs=false:=by
 cases cs with
 | nil=>rfl
 | cons c cs =>
  simp only [CV.clean.cleanL,Bool.and_eq_true] at h;simp only [CV.names.namesL,CV.clean_names h.1 id,CV.cleanL_names h.2 id,Bool.or_self]
end
def AV.clean:AV T→Bool
 | .cv c=>c.clean
 | .agg cs=>CV.clean.cleanL cs
 | .tup vs=>cleanL vs
 | .any=>true
where cleanL:List (AV T)→Bool
 | []=>true
 | c :: cs=>AV.clean c && cleanL cs
mutual
theorem AV.clean_names {c:AV T} (h:c.clean=true) (id:Nat):c.names id=false:=by
 cases c with
 | cv c=>exact CV.clean_names (c:=c) h id
 | agg cs=>exact CV.cleanL_names (cs:=cs) h id
 | tup vs=>exact AV.cleanL_names (cs:=vs) h id
 | any=>rfl
theorem AV.cleanL_names {cs:List (AV T)} (h:AV.clean.cleanL cs=true) (id:Nat):AV.names.namesL id cs=false:=by
 cases cs with
 | nil=>rfl
 | cons c cs =>
  simp only [AV.clean.cleanL,Bool.and_eq_true] at h;simp only [AV.names.namesL,AV.clean_names h.1 id,AV.cleanL_names h.2 id,Bool.or_self]
end
def Abg (E:Uv T) (H:List (Nat×T9 T)) (c:CV T):CV T :=
 match c with
 | .own t id=>match look id H with
  | some (.lst t' xs)=>match E.dec t t' with | .isTrue _=>.ro t' xs | .isFalse _=>c
  | some (.fz t' xs)=>match E.dec t t' with | .isTrue _=>.ro t' xs | .isFalse _=>c
  | _=>c
 | .mp id=>match look id H with
  | some (.mpb t es)=>.rom t es
  | _=>c
 | c=>c
def Zo (E:Uv T) (H:List (Nat×T9 T)) (c:CV T):CV T :=
 match c with
 | .ptr id off=>match look id H with
  | some (.raw cs)=>.pcs (cs.map (Abg E H)) off
  | _=>c
 | c=>Abg E H c
def Zv (E:Uv T) (H:List (Nat×T9 T)) (c:CV T):CV T :=
 match c with
 | .fn f a b=>.fn f (a.map (Zo E H)) (b.map (Zo E H))
 | c=>Zo E H c
def Afi (H:List (Nat×T9 T)):CV T→List Prop
 | _=>[]
def Vv (E:Uv T) (H:List (Nat×T9 T)):AV T→AV T
 | .cv c=>.cv (Zv E H c)
 | .agg cs=>.agg (cs.map (Zv E H))
 | .tup vs=>.tup (lendL vs)
 | .any=>.any
where lendL:List (AV T)→List (AV T)
 | []=>[]
 | v :: vs=>Vv E H v :: lendL vs
def Ws (H:List (Nat×T9 T)):AV T→List Prop
 | .cv c=>Afi H c
 | .agg cs=>cs.flatMap (Afi H)
 | .tup vs=>lendAL vs
 | .any=>[]
where lendAL:List (AV T)→List Prop
 | []=>[]
 | v :: vs=>Ws H v++lendAL vs
def ZL (Z:Nat→Prop) (H:List (Nat×T9 T)) (ρ:Nat→Option (Nat×Nat×Nat)):Nat→Prop:=fun b=>Z b∨∃ id blk c,look id H=some blk∧ρ id=some (b,c)
theorem Aez {H:List (Nat×T9 T)} {t:Tag} {id:Nat} {v:Value} {blk:T9 T} {xs:List (T t)} (h:RC V.E w Z ρ (.own t id) v) (hl:look id H=some blk) (hB:BR V.E w Z ρ (.fz t xs) (ρ id)) :
  RC V.E w (ZL Z H ρ) ρ (.ro t xs) v:=by
 rcases Zk h with ⟨hr,rfl⟩ |⟨b,cap,k,hr,rfl⟩
 ·rw [hr] at hB
  have:xs=[]:=hB
  subst this;exact .pure (.ronil _ _ _)
 ·rw [hr] at hB;obtain ⟨hk,arr,fr,g1,g2,g3,g4,g5⟩:=hB;subst hk;refine .pure (.ro t xs ⟨b,0,none⟩ cap (fun i j=>arr.getD (i * V.E.sz t+j) undef) (.inr ⟨id,_,_,hl,hr⟩) g2 (fun i x j c hx hc=>?_) (fun i x j c hx hc=>?_))
  all_goals
   have hj:j < V.E.sz t:=by rw [← V.E.klen t x]; exact (List.getElem?_eq_some_iff.1 hc).1
   have hi:i < xs.length:=(List.getElem?_eq_some_iff.1 hx).1;have h1:(i+1) * V.E.sz t≤cap * V.E.sz t:=Nat.mul_le_mul_right _ (by omega);rw [Nat.add_mul,Nat.one_mul] at h1;have hlt:i * V.E.sz t+j < arr.size:=by omega
  ·rw [Uo,Nat.zero_add,Ux g1];simp [hlt,Array.getD]
  ·exact (g5 i x j c _ hx hc (by simp [hlt,Array.getD])).mono V.E (fun b hb=>.inl hb) (fun _ _=>rfl)
theorem W9 {H:List (Nat×T9 T)} {c:CV T} {v:Value} (h:RC V.E w Z ρ c v) (hH:∀ id blk,look id H=some blk→BR V.E w Z ρ blk (ρ id)) :
  RC V.E w (ZL Z H ρ) ρ (Abg V.E H c) v:=by
 have hm:RC V.E w (ZL Z H ρ) ρ c v:=h.mono V.E (fun b hb=>.inl hb) (fun _ _=>rfl) (fun _ _=>rfl);unfold Abg;split
 ·rename_i t id;split
  ·rename_i t' xs hl;split
   ·rename_i ht _;subst ht;exact Aez V h hl (hH _ _ hl).fz
   ·exact hm
  ·rename_i t' xs hl;split
   ·rename_i ht _;subst ht;exact Aez V h hl (hH _ _ hl)
   ·exact hm
  ·exact hm
 ·rename_i id;split
  ·rename_i t es hl;have hB:=hH _ _ hl;cases h with
   | pure h=>cases h
   | @mp _ b n hr =>
    rw [hr] at hB;obtain ⟨arr,clock,h1,h2⟩:=hB;exact .pure (Agl V.E (.inr ⟨id,_,_,hl,hr⟩) h1 (h2.mono V.E (fun b hb=>.inl hb) (fun _ _=>rfl)))
  ·exact hm
 ·exact hm
theorem W3 {H:List (Nat×T9 T)} {c:CV T} {v:Value} (h:RC V.E w Z ρ c v) (hH:∀ id blk,look id H=some blk→BR V.E w Z ρ blk (ρ id)) :
  RC V.E w (ZL Z H ρ) ρ (Zo V.E H c) v:=by
 have hm:RC V.E w (ZL Z H ρ) ρ c v:=h.mono V.E (fun b hb=>.inl hb) (fun _ _=>rfl) (fun _ _=>rfl);unfold Zo;split
 ·rename_i id off;split
  ·rename_i cs hl;have hB:=hH _ _ hl;cases h with
   | pure h=>cases h
   | @ptr _ _ b n hr =>
    rw [hr] at hB;obtain ⟨arr,e,g1,g2,g3⟩:=hB;have key:=RC.pcs (E:=V.E) (w:=w) (Z:=ZL Z H ρ) (ρ:=ρ) (cs.map (Abg V.E H)) off ⟨b,0,none⟩ (fun j=>arr.getD j undef) (.inr ⟨id,_,_,hl,hr⟩) (fun j c hc=>by
     have hj:j < arr.size:=by
      rw [g2]
      have:=(List.getElem?_eq_some_iff.1 hc).1
      simpa using this
     rw [Uo,Nat.zero_add,Ux g1];simp [hj,Array.getD]) (fun j c hc=>by
     simp only [List.getElem?_map,Option.map_eq_some_iff] at hc;obtain ⟨d,hd,rfl⟩:=hc;have hj:j < arr.size:=by rw [g2]; exact (List.getElem?_eq_some_iff.1 hd).1
     refine W9 V (g3 j d (arr.getD j undef) hd ?_) hH;simp [hj,Array.getD])
    rw [Uo,Nat.zero_add] at key;exact key
  ·exact hm
 ·exact W9 V h hH
theorem Yy {H:List (Nat×T9 T)} {c:CV T} {v:Value} (h:RC V.E w Z ρ c v) (hp:Us (Afi H c)) (hH:∀ id blk,look id H=some blk→BR V.E w Z ρ blk (ρ id)) :
  RC V.E w (ZL Z H ρ) ρ (Zv V.E H c) v:=by
 unfold Zv;split
 ·rename_i f a b;cases h with
  | pure h=>cases h
  | fn h1 h2 h3 h4 =>
   refine .fn (by simpa using h1) (by simpa using h2) (fun i c v hc hv=>?_) (fun i c v hc hv=>?_)
   ·simp only [List.getElem?_map,Option.map_eq_some_iff] at hc;obtain ⟨d,hd,rfl⟩:=hc;exact W3 V (h3 i d v hd hv) hH
   ·simp only [List.getElem?_map,Option.map_eq_some_iff] at hc;obtain ⟨d,hd,rfl⟩:=hc;exact W3 V (h4 i d v hd hv) hH
 ·exact W3 V h hH
mutual
theorem X3 {H:List (Nat×T9 T)} {x:AV T} {v:Value} (h:RA V.E w Z ρ x v) (hp:Us (Ws H x)) (hH:∀ id blk,look id H=some blk→BR V.E w Z ρ blk (ρ id)) :
  RA V.E w (ZL Z H ρ) ρ (Vv V.E H x) v:=by
 cases x with
 | cv c=>cases h with | cv h=>exact .cv (Yy V h hp hH)
 | agg cs =>
  cases h with | agg h1 h2 =>
  refine .agg (by simpa using h1) fun i c u hc hu=>?_
  simp only [List.getElem?_map,Option.map_eq_some_iff] at hc;obtain ⟨d,hd,rfl⟩:=hc;refine Yy V (h2 i d u hd hu) (Us.of_mem fun p hp'=>hp.mem p ?_) hH;simp only [Ws,List.mem_flatMap];exact ⟨d,List.mem_of_getElem? hd,hp'⟩
 | tup vs =>
  cases h with | tup h1 h2 =>
  have:=Y4 (vs:=vs) hp hH
  refine .tup (by rw [h1,this.1]) fun i c u hc hu=>?_
  obtain ⟨d,hd,hr⟩:=this.2 i c hc;exact hr u (h2 i d u hd hu)
 | any=>exact .any
theorem Y4 {H:List (Nat×T9 T)} {vs:List (AV T)} (hp:Us (Ws.lendAL H vs)) (hH:∀ id blk,look id H=some blk→BR V.E w Z ρ blk (ρ id)) :
  vs.length=(Vv.lendL V.E H vs).length∧∀ (i:Nat) c,(Vv.lendL V.E H vs)[i]? = some c→∃ d,vs[i]? = some d∧∀ u,RA V.E w Z ρ d u→RA V.E w (ZL Z H ρ) ρ c u:=by
 cases vs with
 | nil=>exact ⟨rfl,fun i c hc=>by simp [Vv.lendL] at hc⟩
 | cons v vs =>
  simp only [Ws.lendAL] at hp;obtain ⟨h1,h2⟩:=hp.append;obtain ⟨e1,e2⟩:=Y4 (vs:=vs) h2 hH;refine ⟨by simp [Vv.lendL,e1],fun i c hc=>?_⟩;cases i with
  | zero =>
   simp [Vv.lendL] at hc;subst hc;exact ⟨v,rfl,fun u hu=>X3 hu h1 hH⟩
  | succ i =>
   simp [Vv.lendL] at hc;simpa using e2 i c hc
end
theorem Y8 {E:Uv T} {H:List (Nat×T9 T)} {c:CV T} (h:c.clean=true):Zo E H c=c:=by
 cases c <;> first | rfl | cases h
theorem Wy {E:Uv T} {H:List (Nat×T9 T)}:∀ {cs:List (CV T)},CV.clean.cleanL cs=true→cs.map (Zo E H)=cs
 | [],_=>rfl
 | c :: cs,h=>by
  simp only [CV.clean.cleanL,Bool.and_eq_true] at h;simp only [List.map_cons,Y8 h.1,Wy h.2]
theorem Y7 {E:Uv T} {H:List (Nat×T9 T)} {c:CV T} (h:c.clean=true):Zv E H c=c:=by
 cases c with
 | fn f a b =>
  simp only [CV.clean,Bool.and_eq_true] at h;simp only [Zv,Wy h.1,Wy h.2]
 | _=>exact Y8 (E:=E) (H:=H) h
theorem Yd {E:Uv T} {H:List (Nat×T9 T)}:∀ {cs:List (CV T)},CV.clean.cleanL cs=true→cs.map (Zv E H)=cs
 | [],_=>rfl
 | c :: cs,h=>by
  simp only [CV.clean.cleanL,Bool.and_eq_true] at h;simp only [List.map_cons,Y7 h.1,Yd h.2]
mutual
theorem Aai {E:Uv T} {H:List (Nat×T9 T)} {x:AV T} (h:x.clean=true):Vv E H x=x:=by
 cases x with
 | cv c=>simp only [Vv,Y7 (c:=c) h]
 | agg cs=>simp only [Vv,Yd (cs:=cs) h]
 | tup vs=>simp only [Vv,Y2 (vs:=vs) h]
 | any=>rfl
theorem Y2 {E:Uv T} {H:List (Nat×T9 T)} {vs:List (AV T)} (h:AV.clean.cleanL vs=true):Vv.lendL E H vs=vs:=by
 cases vs with
 | nil=>rfl
 | cons v vs =>
  simp only [AV.clean.cleanL,Bool.and_eq_true] at h;simp only [Vv.lendL,Aai h.1,Y2 h.2]
end
theorem Xv {E:Uv T} {H:List (Nat×T9 T)}:∀ {vs:List (AV T)},AV.clean.cleanL vs=true→vs.map (Vv E H)=vs
 | [],_=>rfl
 | v :: vs,h=>by
  simp only [AV.clean.cleanL,Bool.and_eq_true] at h;simp only [List.map_cons,Aai h.1,Xv h.2]
def CV.flat:CV T→Bool
 | .lit _ | .str _=>true
 | _=>false
def AV.flat:AV T→Bool
 | .cv c=>c.flat
 | .agg cs=>cs.all CV.flat
 | .tup vs=>flatL vs
 | .any=>false
where flatL:List (AV T)→Bool
 | []=>true
 | c :: cs=>AV.flat c && flatL cs
theorem CV.flat_rc {w':World} {Z':Nat→Prop} {ρ':Nat→Option (Nat×Nat×Nat)} {c:CV T} {v:Value} (hf:c.flat=true) (h:RC V.E w Z ρ c v):RC V.E w' Z' ρ' c v:=by
 cases h with
 | pure h =>
  cases h with
  | lit h=>exact .pure (.lit h)
  | str l=>exact .pure (.str l)
  | _=>cases hf
 | _=>cases hf
mutual
theorem AV.flat_ra {w':World} {Z':Nat→Prop} {ρ':Nat→Option (Nat×Nat×Nat)} {x:AV T} {v:Value} (hf:x.flat=true) (h:RA V.E w Z ρ x v):RA V.E w' Z' ρ' x v:=by
 cases x with
 | cv c=>cases h with | cv h=>exact .cv (CV.flat_rc V hf h)
 | agg cs =>
  cases h with | agg h1 h2 =>
  exact .agg h1 fun i c u hc hu=>CV.flat_rc V (List.all_eq_true.1 hf c (List.mem_of_getElem? hc)) (h2 i c u hc hu)
 | tup vs =>
  cases h with | tup h1 h2 =>
  exact .tup h1 fun i c u hc hu=>AV.flatL_ra (vs:=vs) hf i c u hc (h2 i c u hc hu)
 | any=>exact .any
theorem AV.flatL_ra {w':World} {Z':Nat→Prop} {ρ':Nat→Option (Nat×Nat×Nat)} {vs:List (AV T)} (hf:AV.flat.flatL vs=true) (i:Nat) (c:AV T) (u:Value) (hc:vs[i]? = some c) (h:RA V.E w Z ρ c u):RA V.E w' Z' ρ' c u:=by
 cases vs with
 | nil=>simp at hc
 | cons v vs =>
  simp only [AV.flat.flatL,Bool.and_eq_true] at hf;cases i with
  | zero=>simp at hc; subst hc; exact AV.flat_ra hf.1 h
  | succ i=>simp at hc; exact AV.flatL_ra (vs:=vs) hf.2 i c u hc h
end
def U7 (P:Program) (f:FuncId):Bool :=
 match P.funcs[f]? with
 | some fn=>!(fn.name == "runtime.NumGoroutine") && fn.body.isSome
 | none=>false
def Tz (P:Program) (f:FuncId) (args:List (AV T)) (r:AV T):Prop :=
 U7 P f=true∧∀ (w:World) (Z:Nat→Prop) (vs:Array Value),ZOK V w Z→vs.size=args.length →
  (∀ (i:Nat) x v,args[i]? = some x→vs[i]? = some v→RA V.E w Z (fun _=>none) x v) →
  Calls P f vs w fun e w'=>∃ v Z',e=.returned v∧Onto w w' Z Z'∧RA V.E w' Z' (fun _=>none) r v
theorem Vj {f:FuncId} (h:U7 P f=true) (args:Array Value):(callFunc f args).run P w=.ok (.enter f args) w:=by
 unfold U7 at h;split at h
 ·rename_i fn hf;simp only [Bool.and_eq_true,Bool.not_eq_true'] at h;have hb:fn.body.isNone=false:=by cases hfb:fn.body <;> simp_all
  unfold callFunc;simp only [Sem.run_bind,program,Sem.run,Result.andThen,hf,h.1,Bool.false_eq_true,if_false,hb];rfl
 ·cases h
theorem Ul.claim (h:Ul V n m Γ S Z ρ a w) {id:Nat} (hm:m≤id) (hn:S.named id=false) {bc:Option (Nat×Nat×Nat)}
  (hbc:∀ b c,bc=some (b,c)→b < w.heap.size∧¬ Z b∧(Γ.w0.heap.size≤b∨Γ.D id b)∧∀ i blk c',i≠id→look i S.heap=some blk→ρ i=some (b,c')→False) {B:T9 T} (hB:BR V.E w Z (Uy ρ id bc) B bc) :
  Ul V n m Γ (S.new id B) Z (Uy ρ id bc) a w:=by
 have hρ:∀ i,i≠id→Uy ρ id bc i=ρ i:=fun i hi=>by unfold Uy; rw [if_neg hi]
 have hlook:∀ i blk,look i (S.new id B).heap=some blk→(i=id∧blk=B)∨(i≠id∧look i S.heap=some blk):=fun i blk hl=>by
  simp only [St.new] at hl;rw [T6] at hl;by_cases hi:i=id
  ·rw [if_pos hi] at hl; cases hl; exact .inl ⟨hi,rfl⟩
  ·rw [if_neg hi,Uj,if_neg hi] at hl; exact .inr ⟨hi,hl⟩
 exact {
  defers:=h.defers
  size:=h.size
  tmps:=fun t v hv=>(h.tmps t v hv).mono V.E (fun _ h=>h) (fun _ _=>rfl) fun i hi=>hρ i fun e=>by
   subst e; rw [Xy hn hv] at hi; cases hi
  os:=h.os
  tape:=h.tape
  output:=h.output
  hsize:=h.hsize
  old:=h.old
  stm:=h.stm
  dlt:=h.dlt
  st:=fun p hp=>by
   rw [← h.st p hp];exact hρ p.1 fun e=>by have:=h.stm p hp; omega
  Z0:=h.Z0
  Zold:=h.Zold
  Zlt:=h.Zlt
  glb:=h.glb
  own:=fun i blk b1 c1 hl hr=>by
   rcases hlook i blk hl with ⟨rfl,rfl⟩ |⟨hi,hl'⟩
   ·unfold Uy at hr;rw [if_pos rfl] at hr;obtain ⟨h1,h2,h3,_⟩:=hbc b1 c1 hr;exact ⟨h1,h2,h3⟩
   ·rw [hρ i hi] at hr;exact h.own i blk b1 c1 hl' hr
  inj:=fun i i' blk blk' b1 c1 c2 hl hl' hr hr'=>by
   rcases hlook i blk hl with ⟨e,rfl⟩ |⟨hi,hl1⟩
   ·rcases hlook i' blk' hl' with ⟨e',rfl⟩ |⟨hi',hl1'⟩
    ·exact e.trans e'.symm
    ·exfalso;subst e;unfold Uy at hr;rw [if_pos rfl] at hr;rw [hρ i' hi'] at hr';exact (hbc b1 c1 hr).2.2.2 i' blk' c2 hi' hl1' hr'
   ·rcases hlook i' blk' hl' with ⟨e',rfl⟩ |⟨hi',hl1'⟩
    ·exfalso;subst e';unfold Uy at hr';rw [if_pos rfl] at hr';rw [hρ i hi] at hr;exact (hbc b1 c2 hr').2.2.2 i blk c1 hi hl1 hr
    ·rw [hρ i hi] at hr;rw [hρ i' hi'] at hr';exact h.inj i i' blk blk' b1 c1 c2 hl1 hl1' hr hr'
  blk:=fun i blk hl=>by
   rcases hlook i blk hl with ⟨rfl,rfl⟩ |⟨hi,hl'⟩
   ·unfold Uy;rw [if_pos rfl];exact hB
   ·rw [hρ i hi];refine BR.mono (fun _ h=>h) (fun _ _=>rfl) (fun b1 c1 hbc'=>rfl) (h.blk i blk hl') fun j hj=>hρ j fun e=>?_
    subst e; rw [X2 hn hl'] at hj; cases hj }
def Yz (P:Program) (f:FuncId) (args:List (AV T)) (t:Tag) (xs:List (T t)):Prop :=
 U7 P f=true∧∀ (w:World) (Z:Nat→Prop) (vs:Array Value),ZOK V w Z→vs.size=args.length →
  (∀ (i:Nat) x v,args[i]? = some x→vs[i]? = some v→RA V.E w Z (fun _=>none) x v) →
  Calls P f vs w fun e w'=>∃ v Z',e=.returned v∧Onto w w' Z Z'∧((v=.slice none 0 0∧xs=[]) ∨
   ∃ b cap,w.heap.size≤b∧b < w'.heap.size∧¬ Z' b∧v=.slice (some ⟨b,0,none⟩) xs.length cap∧BR V.E w' Z' (fun _=>none) (.lst t xs) (some (b,cap,xs.length)))
def Zm (get:Operand→Option (AV T)):List Operand→Option (List (AV T))
 | []=>some []
 | x :: xs=>match get x,Zm get xs with | some v,some vs=>some (v :: vs) | _,_=>none
theorem Vt {E:Uv T} {get:Operand→Option (AV T)} (hg:∀ x v,get x=some v→RA E w Z ρ v (a.eval x)):∀ (xs:List Operand) (vs:List (AV T)),Zm get xs=some vs →
  xs.length=vs.length∧∀ (i:Nat) c u,vs[i]? = some c→(xs.map a.eval)[i]? = some u→RA E w Z ρ c u
 | [],vs,h=>by cases h; exact ⟨rfl,fun i c u hc=>by simp at hc⟩
 | x :: xs,vs,h=>by
  unfold Zm at h;split at h
  ·rename_i v vs' hv hvs;cases h;obtain ⟨h1,h2⟩:=Vt hg xs vs' hvs;refine ⟨by simp [h1],fun i d u hd hu=>?_⟩;cases i with
   | zero=>simp at hd hu; subst hd; subst hu; exact hg _ _ hv
   | succ i=>exact h2 i d u (by simpa using hd) (by simpa using hu)
  ·cases h
def Abp (P:Program) (S:St T) (r:AV T) (o:Oper):Option (List Prop) :=
 match o.op with
 | .call c=>match c.callee with
  | .value f=>match S.get f,Zm S.get c.args.toList with
   | some (.cv (.fn (.func fid) fs caps)),some args =>
    let all:=fs.map AV.cv++(args++caps.map AV.cv)
    let all':=all.map (Vv V.E S.heap)
    bif AV.clean.cleanL all' && r.clean && (AV.clean.cleanL all || r.flat) then some [Tz V P fid all' r,Us (all.flatMap (Ws S.heap))] else none
   | _,_=>none
  | _=>none
 | _=>none
theorem Yb {r:AV T} {o:Oper} {cs:List Prop} (h:Abp V P S r o=some cs) (hcs:Us cs) (ha:Ul V n m Γ S Z ρ a w) {next:Act→World→Prop} {Q:Exit→Act→World→Prop}
  (hK:∀ v w' Z',Onto w w' Z Z'→RA V.E w' Z' ρ r v→next (a.put o.dst v) w'):o.wp P a w next Q:=by
 unfold Abp at h;split at h
 ·rename_i c hop;split at h
  ·rename_i f hcal;split at h
   ·rename_i fid fs caps args hf hargs;dsimp only at h;generalize hall:fs.map AV.cv++(args++caps.map AV.cv)=all at h;cases hb:(AV.clean.cleanL (all.map (Vv V.E S.heap)) && r.clean && (AV.clean.cleanL all || r.flat)) with
    | false=>rw [hb] at h; cases h
    | true =>
     rw [hb] at h;cases h;simp only [Bool.and_eq_true,Bool.or_eq_true] at hb;obtain ⟨⟨hb1,hb2⟩,hb3⟩:=hb;obtain ⟨hP,hl⟩:=hcs;replace hl:Us (all.flatMap (Ws S.heap)):=hl;have hfv:=ha.get f _ hf;generalize heval:a.eval f=fv at hfv;cases hfv with | cv hfv =>
     cases hfv with
     | pure hfv=>cases hfv
     | @fn _ _ _ fvs cvs h1 h2 h3 h4 =>
      obtain ⟨g1,g2⟩:=Vt (w:=w) (Z:=Z) (ρ:=ρ) (a:=a) ha.get _ _ hargs;have hsz:(fvs++(c.args.map a.eval++cvs)).size=all.length:=by
       rw [← hall]; simp at g1; simp [h1,h2,g1]
      have hrel:∀ (i:Nat) x v,all[i]? = some x→(fvs++(c.args.map a.eval++cvs))[i]? = some v→RA V.E w Z ρ x v:=by
       intro i x v hx hv;rw [← hall] at hx;by_cases hi:i < fs.length
       ·rw [List.getElem?_append_left (by simpa using hi)] at hx;rw [Array.getElem?_append_left (by omega)] at hv;simp only [List.getElem?_map,Option.map_eq_some_iff] at hx;obtain ⟨d,hd,rfl⟩:=hx;exact .cv (h3 i d v hd hv)
       ·rw [List.getElem?_append_right (by simp; omega)] at hx;rw [Array.getElem?_append_right (by omega)] at hv;simp only [List.length_map] at hx;rw [h1] at hv;have hal:c.args.size=args.length:=by simpa using g1
        by_cases hi2:i - fs.length < args.length
        ·rw [List.getElem?_append_left hi2] at hx;rw [Array.getElem?_append_left (by simp; omega)] at hv;refine g2 _ x v hx ?_;rw [← Array.toList_map,Array.getElem?_toList]; exact hv
        ·rw [List.getElem?_append_right (by omega)] at hx;rw [Array.getElem?_append_right (by simp; omega)] at hv;simp only [List.getElem?_map,Option.map_eq_some_iff] at hx;obtain ⟨d,hd,rfl⟩:=hx;refine .cv (h4 _ d v hd ?_);rw [← hv]; congr 1; simp; omega
      have hrun:(execOp a.eval o).run P w=.ok (.enter fid (fvs++(c.args.map a.eval++cvs))) w:=by
       unfold execOp;rw [hop];simp only [resolve,hcal,heval,Deferred.ofValue,Sem.run_bind,Sem.run_pure,Result.andThen,invoke];rw [Vj hP.1,Array.append_assoc]
      have hlall:∀ (i:Nat) x v,(all.map (Vv V.E S.heap))[i]? = some x→(fvs++(c.args.map a.eval++cvs))[i]? = some v→RA V.E w (ZL Z S.heap ρ) (fun _=>none) x v:=by
       intro i x v hx hv;simp only [List.getElem?_map,Option.map_eq_some_iff] at hx;obtain ⟨d,hd,rfl⟩:=hx;have hd':=X3 V (hrel i d v hd hv) (Us.of_mem fun p hp=>hl.mem p (List.mem_flatMap.2 ⟨d,List.mem_of_getElem? hd,hp⟩)) ha.blk;refine hd'.mono V.E (fun _ h=>h) (fun _ _=>rfl) fun id hid=>?_
       have:=AV.namesL_false (AV.cleanL_names hb1 id) (i:=i) (c:=Vv V.E S.heap d) (by simp [hd])
       rw [this] at hid; cases hid
      have hZL:∀ b,ZL Z S.heap ρ b→b < w.heap.size:=fun b hb=>by
       rcases hb with hb |⟨id,blk,c,e1,e2⟩
       ·exact ha.Zlt b hb
       ·exact (ha.own id blk b c e1 e2).1
      unfold Oper.wp;rw [hrun];show Calls P fid _ w _;rcases hb3 with hclean | hflat
      ·-- nothing is lent
       have hsame:∀ (i:Nat) x v,all[i]? = some x→(fvs++(c.args.map a.eval++cvs))[i]? = some v→RA V.E w Z (fun _=>none) x v:=by
        intro i x v hx hv;refine (hrel i x v hx hv).mono V.E (fun _ h=>h) (fun _ _=>rfl) fun id hid=>?_
        rw [AV.namesL_false (AV.cleanL_names hclean id) hx] at hid; cases hid
       have hmap:all.map (Vv V.E S.heap)=all:=Xv hclean;rw [hmap] at hP;refine (hP.2 w Z _ ha.zok hsz hsame).mono fun e w' he=>?_
       obtain ⟨v,Z',rfl,ho,hr⟩:=he;exact hK v w' Z' ho (hr.mono V.E (fun _ h=>h) (fun _ _=>rfl) fun id hid=>by rw [AV.clean_names hb2 id] at hid; cases hid)
      ·refine (hP.2 w (ZL Z S.heap ρ) _ ⟨hZL,ha.glb.mono (fun _ h=>.inl h) (fun _ _=>rfl)⟩ (by simpa using hsz) hlall).mono fun e w' he=>?_
       obtain ⟨v,Z',rfl,ho,hr⟩:=he;exact hK v w' Z ⟨ho.below,fun _ h=>h,fun b hb=>.inl hb⟩ (AV.flat_ra V hflat hr)
   ·cases h
  ·cases h
 ·cases h
def Zl (P:Program) (S:St T) (t:Tag) (xs:List (T t)) (o:Oper):Option (List Prop) :=
 match o.op with
 | .call c=>match c.callee with
  | .value f=>match S.get f,Zm S.get c.args.toList with
   | some (.cv (.fn (.func fid) fs caps)),some args =>
    let all:=fs.map AV.cv++(args++caps.map AV.cv)
    bif AV.clean.cleanL all then some [Yz V P fid all t xs] else
     bif AV.clean.cleanL (all.map (Vv V.E S.heap)) && (Ws.lendAL S.heap all).isEmpty then some [Yz V P fid (all.map (Vv V.E S.heap)) t xs,∀ x,∀ c∈V.E.k t x,c.flat=true] else none
   | _,_=>none
  | _=>none
 | _=>none
theorem PR.flat {E:Uv T} {w':World} {Z':Nat→Prop} {c:CV T} {v:Value} (hf:c.flat=true) (h:PR E w Z c v):PR E w' Z' c v:=by
 cases h with
 | lit h=>exact .lit h
 | str l=>exact .str l
 | _=>cases hf
theorem BR.flatl {E:Uv T} {Z Z':Nat→Prop} {t:Tag} {xs:List (T t)} (hf:∀ x,∀ c∈E.k t x,c.flat=true) {ρ ρ':Nat→Option (Nat×Nat×Nat)} {bc:Option (Nat×Nat×Nat)} (h:BR E w Z ρ (.lst t xs) bc):BR E w Z' ρ' (.lst t xs) bc:=by
 cases bc with
 | none=>exact h
 | some p =>
  obtain ⟨h1,arr,h2,h3,h4,h5,h6⟩:=h;exact ⟨h1,arr,h2,h3,h4,h5,fun i x j c u hx hc hu=>PR.flat (hf x c (List.mem_of_getElem? hc)) (h6 i x j c u hx hc hu)⟩
theorem Xu {t:Tag} {xs:List (T t)} {o:Oper} {cs:List Prop} (h:Zl V P S t xs o=some cs) (hcs:Us cs) (ha:Ul V n m Γ S Z ρ a w) {next:Act→World→Prop} {Q:Exit→Act→World→Prop}
  (hK:∀ v w' Z',Onto w w' Z Z'→((v=.slice none 0 0∧xs=[]) ∨
   ∃ b cap,w.heap.size≤b∧b < w'.heap.size∧¬ Z' b∧v=.slice (some ⟨b,0,none⟩) xs.length cap∧BR V.E w' Z' (fun _=>none) (.lst t xs) (some (b,cap,xs.length)))→next (a.put o.dst v) w'):o.wp P a w next Q:=by
 unfold Zl at h;split at h
 ·rename_i c hop;split at h
  ·rename_i f hcal;split at h
   ·rename_i fid fs caps args hf hargs;dsimp only at h;generalize hall:fs.map AV.cv++(args++caps.map AV.cv)=all at h;have hcal0:U7 P fid=true:=by
     revert h;cases AV.clean.cleanL all with
     | true=>intro h; cases h; exact (show Yz V P fid all t xs from hcs).1
     | false =>
      cases (AV.clean.cleanL (all.map (Vv V.E S.heap)) && (Ws.lendAL S.heap all).isEmpty) with
      | true=>intro h; cases h; exact (show Yz V P fid _ t xs from hcs.1).1
      | false=>intro h; cases h
    have hfv:=ha.get f _ hf;generalize heval:a.eval f=fv at hfv;cases hfv with | cv hfv =>
    cases hfv with
    | pure hfv=>cases hfv
    | @fn _ _ _ fvs cvs h1 h2 h3 h4 =>
     obtain ⟨g1,g2⟩:=Vt (w:=w) (Z:=Z) (ρ:=ρ) (a:=a) ha.get _ _ hargs;have hsz:(fvs++(c.args.map a.eval++cvs)).size=all.length:=by
      rw [← hall]; simp at g1; simp [h1,h2,g1]
     have hrel:∀ (i:Nat) x v,all[i]? = some x→(fvs++(c.args.map a.eval++cvs))[i]? = some v→RA V.E w Z ρ x v:=by
      intro i x v hx hv;rw [← hall] at hx;by_cases hi:i < fs.length
      ·rw [List.getElem?_append_left (by simpa using hi)] at hx;rw [Array.getElem?_append_left (by omega)] at hv;simp only [List.getElem?_map,Option.map_eq_some_iff] at hx;obtain ⟨d,hd,rfl⟩:=hx;exact .cv (h3 i d v hd hv)
      ·rw [List.getElem?_append_right (by simp; omega)] at hx;rw [Array.getElem?_append_right (by omega)] at hv;simp only [List.length_map] at hx;rw [h1] at hv;have hal:c.args.size=args.length:=by simpa using g1
       by_cases hi2:i - fs.length < args.length
       ·rw [List.getElem?_append_left hi2] at hx;rw [Array.getElem?_append_left (by simp; omega)] at hv;refine g2 _ x v hx ?_;rw [← Array.toList_map,Array.getElem?_toList]; exact hv
       ·rw [List.getElem?_append_right (by omega)] at hx;rw [Array.getElem?_append_right (by simp; omega)] at hv;simp only [List.getElem?_map,Option.map_eq_some_iff] at hx;obtain ⟨d,hd,rfl⟩:=hx;refine .cv (h4 _ d v hd ?_);rw [← hv]; congr 1; simp; omega
     have hrun:(execOp a.eval o).run P w=.ok (.enter fid (fvs++(c.args.map a.eval++cvs))) w:=by
      unfold execOp;rw [hop];simp only [resolve,hcal,heval,Deferred.ofValue,Sem.run_bind,Sem.run_pure,Result.andThen,invoke];rw [Vj hcal0,Array.append_assoc]
     unfold Oper.wp;rw [hrun];show Calls P fid _ w _;cases hclean:(AV.clean.cleanL all) with
     | true =>
      rw [hclean] at h;cases h;have hP:Yz V P fid all t xs:=hcs;have hsame:∀ (i:Nat) x v,all[i]? = some x→(fvs++(c.args.map a.eval++cvs))[i]? = some v→RA V.E w Z (fun _=>none) x v:=by
       intro i x v hx hv;refine (hrel i x v hx hv).mono V.E (fun _ h=>h) (fun _ _=>rfl) fun id hid=>?_
       rw [AV.namesL_false (AV.cleanL_names hclean id) hx] at hid; cases hid
      refine (hP.2 w Z _ ha.zok hsz hsame).mono fun e w' he=>?_
      obtain ⟨v,Z',rfl,ho,hr⟩:=he;exact hK v w' Z' ho hr
     | false =>
      rw [hclean] at h;cases hcl:(AV.clean.cleanL (all.map (Vv V.E S.heap)) && (Ws.lendAL S.heap all).isEmpty) with
      | false=>rw [hcl] at h; cases h
      | true =>
       rw [hcl] at h;cases h;obtain ⟨hP,hflat⟩:=hcs;replace hP:Yz V P fid (all.map (Vv V.E S.heap)) t xs:=hP;replace hflat:∀ x,∀ c∈V.E.k t x,c.flat=true:=hflat;simp only [Bool.and_eq_true,List.isEmpty_iff] at hcl;have hlA:∀ {vs:List (AV T)},Ws.lendAL S.heap vs=[]→∀ (i:Nat) d,vs[i]? = some d→Ws S.heap d=[]:=by
        intro vs
        induction vs with
        | nil=>intro _ i d hd; simp at hd
        | cons y ys ih =>
         intro he i d hd;simp only [Ws.lendAL,List.append_eq_nil_iff] at he;cases i with
         | zero=>simp at hd; subst hd; exact he.1
         | succ i=>exact ih he.2 i d (by simpa using hd)
       have hlall:∀ (i:Nat) x v,(all.map (Vv V.E S.heap))[i]? = some x→(fvs++(c.args.map a.eval++cvs))[i]? = some v→RA V.E w (ZL Z S.heap ρ) (fun _=>none) x v:=by
        intro i x v hx hv;have hx0:=hx;simp only [List.getElem?_map,Option.map_eq_some_iff] at hx;obtain ⟨d,hd,rfl⟩:=hx;have hd':=X3 V (hrel i d v hd hv) (by rw [hlA hcl.2 i d hd]; exact trivial) ha.blk;refine hd'.mono V.E (fun _ h=>h) (fun _ _=>rfl) fun id hid=>?_
        rw [AV.namesL_false (AV.cleanL_names hcl.1 id) hx0] at hid; cases hid
       have hZL:∀ b,ZL Z S.heap ρ b→b < w.heap.size:=fun b hb=>by
        rcases hb with hb |⟨id,blk,c,e1,e2⟩
        ·exact ha.Zlt b hb
        ·exact (ha.own id blk b c e1 e2).1
       refine (hP.2 w (ZL Z S.heap ρ) _ ⟨hZL,ha.glb.mono (fun _ h=>.inl h) (fun _ _=>rfl)⟩ (by simpa using hsz) hlall).mono fun e w' he=>?_
       obtain ⟨v,Z',rfl,ho,hr⟩:=he;refine hK v w' Z ⟨ho.below,fun _ h=>h,fun b hb=>.inl hb⟩ ?_;rcases hr with hr |⟨b,cap,h1,h2,h3,h4,hB⟩
       ·exact .inl hr
       ·exact .inr ⟨b,cap,h1,h2,fun hz=>by have:=ha.Zlt b hz; omega,h4,hB.flatl hflat⟩
   ·cases h
  ·cases h
 ·cases h
def Adu (c d:CV T):CV T :=
 match d with
 | .ro t _=>(match c with
  | .lit (.slice none 0 0)=>.ro t []
  | .ron t xs=>.ro t xs
  | c=>c)
 | _=>c
def Aer:List (CV T)→List (CV T)→List (CV T)
 | c :: cs,d :: ds=>Adu c d :: Aer cs ds
 | cs,_=>cs
def coC (c d:CV T):CV T :=
 match c,d with
 | .pcs cs o,.pcs ds _=>.pcs (Aer cs ds) o
 | c,d=>Adu c d
def coL:List (CV T)→List (CV T)→List (CV T)
 | c :: cs,d :: ds=>coC c d :: coL cs ds
 | cs,_=>cs
def coA:AV T→AV T→AV T
 | .cv c,.cv d=>.cv (coC c d)
 | .agg cs,.agg ds=>.agg (coL cs ds)
 | .tup vs,.tup us=>.tup (coAL vs us)
 | v,_=>v
where coAL:List (AV T)→List (AV T)→List (AV T)
 | c :: cs,d :: ds=>coA c d :: coAL cs ds
 | cs,_=>cs
theorem Aaf {E:Uv T} {c d:CV T} {v:Value} (h:RC E w Z ρ c v):RC E w Z ρ (Adu c d) v:=by
 unfold Adu;split
 ·split
  ·cases h with
   | pure h=>cases h with
    | lit=>exact .pure (.ronil _ _ _)
  ·cases h with
   | pure h=>cases h
   | ron h=>exact .pure h
  ·exact h
 ·exact h
theorem Af2 {E:Uv T} {c d:CV T} {v:Value} (h:PR E w Z c v):PR E w Z (Adu c d) v:=by
 unfold Adu;split
 ·split
  ·cases h with
   | lit=>exact .ronil _ _ _
  ·cases h
  ·exact h
 ·exact h
theorem W5:∀ (cs ds:List (CV T)) (i:Nat) (c:CV T),(Aer cs ds)[i]? = some c→∃ c',cs[i]? = some c'∧(c=c'∨∃ d,c=Adu c' d)
 | [],ds,i,c,h=>by unfold Aer at h; simp at h
 | x :: cs,[],i,c,h=>by unfold Aer at h; exact ⟨c,h,.inl rfl⟩
 | x :: cs,y :: ds,i,c,h=>by
  unfold Aer at h;cases i with
  | zero=>simp at h; subst h; exact ⟨x,rfl,.inr ⟨y,rfl⟩⟩
  | succ i=>exact W5 cs ds i c (by simpa using h)
theorem Aa8 {E:Uv T} {c d:CV T} {v:Value} (h:RC E w Z ρ c v):RC E w Z ρ (coC c d) v:=by
 unfold coC;split
 ·rename_i cs o ds o';cases h with
  | pure h=>cases h with
   | pcs _ _ a u hz hcell hrel =>
    refine .pure (.pcs _ o a u hz (fun j c hc=>?_) (fun j c hc=>?_))
    ·obtain ⟨c',h1,_⟩:=W5 _ _ _ _ hc;exact hcell j c' h1
    ·obtain ⟨c',h1,h2⟩:=W5 _ _ _ _ hc;rcases h2 with rfl |⟨d,rfl⟩
     ·exact hrel j _ h1
     ·exact Af2 (hrel j c' h1)
  | pcs _ _ a u hz hcell hrel =>
   refine .pcs _ o a u hz (fun j c hc=>?_) (fun j c hc=>?_)
   ·obtain ⟨c',h1,_⟩:=W5 _ _ _ _ hc;exact hcell j c' h1
   ·obtain ⟨c',h1,h2⟩:=W5 _ _ _ _ hc;rcases h2 with rfl |⟨d,rfl⟩
    ·exact hrel j _ h1
    ·exact Aaf (hrel j c' h1)
 ·exact Aaf h
theorem Yp {E:Uv T}:∀ (cs ds:List (CV T)),(coL cs ds).length=cs.length∧∀ (i:Nat) c v,(coL cs ds)[i]? = some c→(∀ c',cs[i]? = some c'→RC E w Z ρ c' v)→RC E w Z ρ c v
 | [],ds=>by unfold coL; exact ⟨rfl,fun i c v hc=>by simp at hc⟩
 | c :: cs,[]=>by unfold coL; exact ⟨rfl,fun i d v hc h=>h d hc⟩
 | c :: cs,d :: ds=>by
  unfold coL;obtain ⟨h1,h2⟩:=Yp (E:=E) cs ds;refine ⟨by simp [h1],fun i e v he h=>?_⟩;cases i with
  | zero=>simp at he; subst he; exact Aa8 (h c rfl)
  | succ i=>exact h2 i e v (by simpa using he) fun c' hc'=>h c' (by simpa using hc')
mutual
theorem Xh {E:Uv T} {x y:AV T} {v:Value} (h:RA E w Z ρ x v):RA E w Z ρ (coA x y) v:=by
 cases x with
 | cv c=>cases y with
  | cv d=>unfold coA; cases h with | cv h=>exact .cv (Aa8 h)
  | _=>exact h
 | agg cs=>cases y with
  | agg ds =>
   unfold coA;cases h with | agg h1 h2 =>
   obtain ⟨g1,g2⟩:=Yp (E:=E) (w:=w) (Z:=Z) (ρ:=ρ) cs ds;exact .agg (h1.trans g1.symm) fun i c v hc hv=>g2 i c v hc fun c' hc'=>h2 i c' v hc' hv
  | _=>exact h
 | tup vs=>cases y with
  | tup us =>
   unfold coA;cases h with | tup h1 h2 =>
   obtain ⟨g1,g2⟩:=Aad (E:=E) vs us;exact .tup (h1.trans g1.symm) fun i c v hc hv=>g2 i c v hc fun c' hc'=>h2 i c' v hc' hv
  | _=>exact h
 | any=>cases y <;> exact h
theorem Aad {E:Uv T} (cs ds:List (AV T)):(coA.coAL cs ds).length=cs.length∧∀ (i:Nat) c v,(coA.coAL cs ds)[i]? = some c→(∀ c',cs[i]? = some c'→RA E w Z ρ c' v)→RA E w Z ρ c v:=by
 cases cs with
 | nil=>unfold coA.coAL; exact ⟨rfl,fun i c v hc=>by simp at hc⟩
 | cons c cs=>cases ds with
  | nil=>unfold coA.coAL; exact ⟨rfl,fun i d v hc h=>h d hc⟩
  | cons d ds =>
   unfold coA.coAL;obtain ⟨h1,h2⟩:=Aad (E:=E) cs ds;refine ⟨by simp [h1],fun i e v he h=>?_⟩;cases i with
   | zero=>simp at he; subst he; exact Xh (h c rfl)
   | succ i=>exact h2 i e v (by simpa using he) fun c' hc'=>h c' (by simpa using hc')
end
def coB:T9 T→T9 T→T9 T
 | .raw cs,.raw ds=>.raw (coL cs ds)
 | .itr t l _,.itr _ _ none=>.itr t l none
 | b,_=>b
def coT:List (Nat×AV T)→List (Nat×AV T)→List (Nat×AV T)
 |(t,v) :: r,(s,u) :: q=>(t,bif Nat.beq t s then coA v u else v) :: coT r q
 | r,_=>r
def coH:List (Nat×T9 T)→List (Nat×T9 T)→List (Nat×T9 T)
 |(t,v) :: r,(s,u) :: q=>(t,bif Nat.beq t s then coB v u else v) :: coH r q
 | r,_=>r
def St.co (S S':St T):St T:=⟨coT S.tmps S'.tmps,coH S.heap S'.heap⟩
theorem Ac5 {t:Nat}:∀ {l q:List (Nat×AV T)} {v:AV T},look t (coT l q)=some v→∃ v0 u,look t l=some v0∧(v=v0∨v=coA v0 u)
 | [],q,v,h=>by unfold coT at h; cases h
 |(s,x) :: l,[],v,h=>⟨v,.any,h,.inl rfl⟩
 |(s,x) :: l,(s',u) :: q,v,h=>by
  unfold coT at h;rw [T6] at h ⊢;split at h
  ·rename_i he;rw [if_pos he];cases h;refine ⟨x,u,rfl,?_⟩;cases Nat.beq s s' with
   | true=>exact .inr rfl
   | false=>exact .inl rfl
  ·rename_i he;rw [if_neg he];exact Ac5 h
theorem Xe {t:Nat}:∀ {l q:List (Nat×T9 T)} {v:T9 T},look t (coH l q)=some v→∃ v0 u,look t l=some v0∧(v=v0∨v=coB v0 u)
 | [],q,v,h=>by unfold coH at h; cases h
 |(s,x) :: l,[],v,h=>⟨v,.raw [],h,.inl rfl⟩
 |(s,x) :: l,(s',u) :: q,v,h=>by
  unfold coH at h;rw [T6] at h ⊢;split at h
  ·rename_i he;rw [if_pos he];cases h;refine ⟨x,u,rfl,?_⟩;cases Nat.beq s s' with
   | true=>exact .inr rfl
   | false=>exact .inl rfl
  ·rename_i he;rw [if_neg he];exact Xe h
theorem Aey {E:Uv T} {b u:T9 T} {bc:Option (Nat×Nat×Nat)} (h:BR E w Z ρ b bc):BR E w Z ρ (coB b u) bc:=by
 unfold coB;split
 ·rename_i cs ds;cases bc with
  | none=>exact h
  | some p =>
   obtain ⟨b,c⟩:=p;obtain ⟨arr,e,h1,h2,h3⟩:=h;obtain ⟨g1,g2⟩:=Yp (E:=E) (w:=w) (Z:=Z) (ρ:=ρ) cs ds;exact ⟨arr,e,h1,h2.trans g1.symm,fun i c u hc hu=>g2 i c u hc fun c' hc'=>h3 i c' u hc' hu⟩
 ·cases bc with
  | none=>exact h
  | some p =>
   obtain ⟨b,c⟩:=p;obtain ⟨m,since,seen,arr,h1,h2,h3,h4,h5,h6,h7,_⟩:=h;exact ⟨m,since,seen,arr,h1,h2,h3,h4,h5,h6,h7,fun p hp=>by cases hp⟩
 ·exact h
theorem Ul.co (h:Ul V n m Γ S Z ρ a w) (S':St T):Ul V n m Γ (S.co S') Z ρ a w :=
 { h with
  tmps:=fun t v hv=>by
   obtain ⟨v0,u,h1,h2⟩:=Ac5 hv;rcases h2 with rfl | rfl
   ·exact h.tmps t _ h1
   ·exact Xh (h.tmps t _ h1)
  own:=fun id blk b c hl hr=>by
   obtain ⟨v0,u,h1,_⟩:=Xe hl;exact h.own id v0 b c h1 hr
  inj:=fun i i' blk blk' b c c' hl hl' hr hr'=>by
   obtain ⟨v0,u,h1,_⟩:=Xe hl;obtain ⟨v1,u1,g1,_⟩:=Xe hl';exact h.inj i i' v0 v1 b c c' h1 g1 hr hr'
  blk:=fun id blk hl=>by
   obtain ⟨v0,u,h1,h2⟩:=Xe hl;rcases h2 with rfl | rfl
   ·exact h.blk id _ h1
   ·exact Aey (h.blk id _ h1) }
end
end Go.Proofs.YtdgejpgbppfhmaaGreatDoor.Eng
namespace Go.Proofs.YtdgejpgbppfhmaaGreatDoor.Eng
open Go.RowKit (Below)
section
variable {Tag:Type} {T:Tag→Type}
def CV.ren (f:Nat→Nat):CV T→CV T
 | .ptr i o=>.ptr (f i) o
 | .own t i=>.own t (f i)
 | .pel t i k o=>.pel t (f i) k o
 | .mp i=>.mp (f i)
 | .fn g a b=>.fn g (renL f a) (renL f b)
 | .ifc t b cs=>.ifc t b (renL f cs)
 | .rol cs=>.rol (renL f cs)
 | .pcs cs o=>.pcs (renL f cs) o
 | .lit v=>.lit v
 | .str l=>.str l
 | .any=>.any
 | .ro t xs=>.ro t xs
 | .ron t xs=>.ron t xs
 | .rom t xs=>.rom t xs
where renL (f:Nat→Nat):List (CV T)→List (CV T)
 | []=>[]
 | c :: cs=>CV.ren f c :: renL f cs
theorem U6 (f:Nat→Nat):∀ (cs:List (CV T)) (i:Nat),(CV.ren.renL f cs)[i]? =(cs[i]?).map (CV.ren f)
 | [],i=>by simp [CV.ren.renL]
 | c :: cs,0=>by simp [CV.ren.renL]
 | c :: cs,i+1=>by simp [CV.ren.renL,U6 f cs i]
theorem Vu (f:Nat→Nat):∀ (cs:List (CV T)),(CV.ren.renL f cs).length=cs.length
 | []=>rfl
 | c :: cs=>by simp [CV.ren.renL,Vu f cs]
variable {E:Uv T} {w:World} {Z:Nat→Prop} {ρ:Nat→Option (Nat×Nat×Nat)}
theorem PR.ren {f:Nat→Nat} {c:CV T} {v:Value} (h:PR E w Z c v):PR E w Z (c.ren f) v:=by
 induction h with
 | lit h=>exact .lit h
 | str l=>exact .str l
 | any h=>exact .any h
 | ronil t A cap=>exact .ronil t A cap
 | ro t xs a cap u hz hcap hcell hrel ih=>exact .ro t xs a cap u hz hcap hcell hrel
 | rom t es b arr clock g u hz hheap hM hnd hp hkey hval hone hrel ih=>exact .rom t es b arr clock g u hz hheap hM hnd hp hkey hval hone hrel
 | pcs cs off a u hz hcell hrel ih =>
  refine .pcs _ off a u hz (fun j c hc=>?_) (fun j c hc=>?_)
  ·rw [U6,Option.map_eq_some_iff] at hc;obtain ⟨d,hd,rfl⟩:=hc;exact hcell j d hd
  ·rw [U6,Option.map_eq_some_iff] at hc;obtain ⟨d,hd,rfl⟩:=hc;exact ih j d hd
theorem RC.ren {f:Nat→Nat} {c:CV T} {v:Value} (h:RC E w Z (fun i=>ρ (f i)) c v):RC E w Z ρ (c.ren f) v:=by
 generalize hg:(fun i=>ρ (f i))=g at h
 induction h with
 | pure h=>exact .pure h.ren
 | ptr h=>subst hg; exact .ptr h
 | own h=>subst hg; exact .own h
 | ownv h=>subst hg; exact .ownv h
 | pel h=>subst hg; exact .pel h
 | mp h=>subst hg; exact .mp h
 | fn h1 h2 h3 h4 ih3 ih4 =>
  refine .fn (by rw [Vu]; exact h1) (by rw [Vu]; exact h2) (fun i c v hc hv=>?_) (fun i c v hc hv=>?_)
  ·rw [U6,Option.map_eq_some_iff] at hc;obtain ⟨d,hd,rfl⟩:=hc;exact ih3 i d v hd hv
  ·rw [U6,Option.map_eq_some_iff] at hc;obtain ⟨d,hd,rfl⟩:=hc;exact ih4 i d v hd hv
 | ifc1 h h1 ih=>exact .ifc1 ih h1
 | ifca h1 h2 ih =>
  refine .ifca (by rw [Vu]; exact h1) (fun i c v hc hv=>?_);rw [U6,Option.map_eq_some_iff] at hc;obtain ⟨d,hd,rfl⟩:=hc;exact ih i d v hd hv
 | @rol cs a cap u hz hcap hcell hrel ih =>
  have:=RC.rol (E:=E) (w:=w) (Z:=Z) (ρ:=ρ) (cs:=CV.ren.renL f cs) (a:=a) (cap:=cap) u hz (by rw [Vu]; exact hcap) (fun j c hc=>by
   rw [U6,Option.map_eq_some_iff] at hc;obtain ⟨d,hd,rfl⟩:=hc;exact hcell j d hd) (fun j c hc=>by
   rw [U6,Option.map_eq_some_iff] at hc;obtain ⟨d,hd,rfl⟩:=hc;exact ih j d hd)
  rw [Vu] at this;exact this
 | pcs cs off a u hz hcell hrel ih =>
  refine .pcs _ off a u hz (fun j c hc=>?_) (fun j c hc=>?_)
  ·rw [U6,Option.map_eq_some_iff] at hc;obtain ⟨d,hd,rfl⟩:=hc;exact hcell j d hd
  ·rw [U6,Option.map_eq_some_iff] at hc;obtain ⟨d,hd,rfl⟩:=hc;exact ih j d hd
 | ron h=>exact .ron h
def AV.ren (f:Nat→Nat):AV T→AV T
 | .cv c=>.cv (c.ren f)
 | .agg cs=>.agg (CV.ren.renL f cs)
 | .tup vs=>.tup (renL f vs)
 | .any=>.any
where renL (f:Nat→Nat):List (AV T)→List (AV T)
 | []=>[]
 | c :: cs=>AV.ren f c :: renL f cs
theorem Xl (f:Nat→Nat):∀ (cs:List (AV T)) (i:Nat),(AV.ren.renL f cs)[i]? =(cs[i]?).map (AV.ren f)
 | [],i=>by simp [AV.ren.renL]
 | c :: cs,0=>by simp [AV.ren.renL]
 | c :: cs,i+1=>by simp [AV.ren.renL,Xl f cs i]
theorem Xk (f:Nat→Nat):∀ (cs:List (AV T)),(AV.ren.renL f cs).length=cs.length
 | []=>rfl
 | c :: cs=>by simp [AV.ren.renL,Xk f cs]
theorem RA.ren {f:Nat→Nat} {c:AV T} {v:Value} (h:RA E w Z (fun i=>ρ (f i)) c v):RA E w Z ρ (c.ren f) v:=by
 generalize hg:(fun i=>ρ (f i))=g at h
 induction h with
 | cv h=>subst hg; exact .cv h.ren
 | agg h1 h2 =>
  subst hg;refine .agg (by rw [Vu]; exact h1) (fun i c v hc hv=>?_);rw [U6,Option.map_eq_some_iff] at hc;obtain ⟨d,hd,rfl⟩:=hc;exact (h2 i d v hd hv).ren
 | tup h1 h2 ih =>
  refine .tup (by rw [Xk]; exact h1) (fun i c v hc hv=>?_);rw [Xl,Option.map_eq_some_iff] at hc;obtain ⟨d,hd,rfl⟩:=hc;exact ih i d v hd hv
 | any=>exact .any
def T9.ren (f:Nat→Nat):T9 T→T9 T
 | .raw cs=>.raw (CV.ren.renL f cs)
 | .lst t xs=>.lst t xs
 | .mpb t es=>.mpb t es
 | .itr t l c=>.itr t l c
 | .zr t l=>.zr t l
 | .fz t xs=>.fz t xs
theorem BR.ren {f:Nat→Nat} {b:T9 T} {bc:Option (Nat×Nat×Nat)} (h:BR E w Z (fun i=>ρ (f i)) b bc):BR E w Z ρ (b.ren f) bc:=by
 cases b with
 | raw cs =>
  cases bc with
  | none=>exact h
  | some p =>
   obtain ⟨arr,e,h1,h2,h3⟩:=h;refine ⟨arr,e,h1,by rw [Vu]; exact h2,fun i c u hc hu=>?_⟩;rw [U6,Option.map_eq_some_iff] at hc;obtain ⟨d,hd,rfl⟩:=hc;exact (h3 i d u hd hu).ren
 | lst t xs=>cases bc <;> exact h
 | mpb t es=>cases bc <;> exact h
 | itr t l c=>cases bc <;> exact h
 | zr t l=>cases bc <;> exact h
 | fz t xs=>cases bc <;> exact h
def CV.inB (p:Nat→Bool):CV T→Bool
 | .ptr i _ | .own _ i | .pel _ i _ _ | .mp i=>p i
 | .fn _ a b=>inL p a && inL p b
 | .ifc _ _ cs | .rol cs | .pcs cs _=>inL p cs
 | _=>true
where inL (p:Nat→Bool):List (CV T)→Bool
 | []=>true
 | c :: cs=>CV.inB p c && inL p cs
mutual
theorem CV.inB_names {p:Nat→Bool} {c:CV T} (h:c.inB p=true) {id:Nat} (hn:c.names id=true):p id=true:=by
 cases c with
 | ptr i o=>simp only [CV.names,beq_iff_eq] at hn; subst hn; exact h
 | own t i=>simp only [CV.names,beq_iff_eq] at hn; subst hn; exact h
 | pel t i k o=>simp only [CV.names,beq_iff_eq] at hn; subst hn; exact h
 | mp i=>simp only [CV.names,beq_iff_eq] at hn; subst hn; exact h
 | fn g a b =>
  simp only [CV.inB,Bool.and_eq_true] at h;simp only [CV.names,Bool.or_eq_true] at hn;exact hn.elim (CV.inL_names h.1) (CV.inL_names h.2)
 | ifc t b cs=>exact CV.inL_names (cs:=cs) h hn
 | rol cs=>exact CV.inL_names (cs:=cs) h hn
 | pcs cs o=>exact CV.inL_names (cs:=cs) h hn
 | lit v=>cases hn
 | str l=>cases hn
 | any=>cases hn
 | ro t xs=>cases hn
 | ron t xs=>cases hn
 | rom t xs=>cases hn
theorem CV.inL_names {p:Nat→Bool} {cs:List (CV T)} (h:CV.inB.inL p cs=true) {id:Nat} (hn:CV.names.namesL id cs=true):p id=true:=by
 cases cs with
 | nil=>cases hn
 | cons c cs =>
  simp only [CV.inB.inL,Bool.and_eq_true] at h;simp only [CV.names.namesL,Bool.or_eq_true] at hn;exact hn.elim (CV.inB_names h.1) (CV.inL_names h.2)
end
def AV.inB (p:Nat→Bool):AV T→Bool
 | .cv c=>c.inB p
 | .agg cs=>CV.inB.inL p cs
 | .tup vs=>inL p vs
 | .any=>true
where inL (p:Nat→Bool):List (AV T)→Bool
 | []=>true
 | c :: cs=>AV.inB p c && inL p cs
mutual
theorem AV.inB_names {p:Nat→Bool} {c:AV T} (h:c.inB p=true) {id:Nat} (hn:c.names id=true):p id=true:=by
 cases c with
 | cv c=>exact CV.inB_names (c:=c) h hn
 | agg cs=>exact CV.inL_names (cs:=cs) h hn
 | tup vs=>exact AV.inL_names (cs:=vs) h hn
 | any=>cases hn
theorem AV.inL_names {p:Nat→Bool} {cs:List (AV T)} (h:AV.inB.inL p cs=true) {id:Nat} (hn:AV.names.namesL id cs=true):p id=true:=by
 cases cs with
 | nil=>cases hn
 | cons c cs =>
  simp only [AV.inB.inL,Bool.and_eq_true] at h;simp only [AV.names.namesL,Bool.or_eq_true] at hn;exact hn.elim (AV.inB_names h.1) (AV.inL_names h.2)
end
def T9.inB (p:Nat→Bool):T9 T→Bool
 | .raw cs=>CV.inB.inL p cs
 | _=>true
theorem T9.inB_names {p:Nat→Bool} {b:T9 T} (h:b.inB p=true) {id:Nat} (hn:b.names id=true):p id=true:=by
 cases b with
 | raw cs=>exact CV.inL_names (cs:=cs) h hn
 | lst t xs=>cases hn
 | mpb t es=>cases hn
 | itr t l c=>cases hn
 | zr t l=>cases hn
 | fz t xs=>cases hn
def CV.only (p:Nat→Bool) (c:CV T):CV T:=bif c.inB p then c else .any
def AV.only (p:Nat→Bool):AV T→AV T
 | .cv c=>.cv (c.only p)
 | .agg cs=>.agg (cs.map (·.only p))
 | .tup vs=>bif AV.inB.inL p vs then .tup vs else .any
 | .any=>.any
def T9.only (p:Nat→Bool):T9 T→T9 T
 | .raw cs=>.raw (cs.map (·.only p))
 | b=>b
def St.only (p:Nat→Bool) (S:St T):St T:={ S with tmps:=S.tmps.map fun q=>(q.1,q.2.only p),heap:=S.heap.map fun q=>(q.1,q.2.only p) }
theorem CV.only_inB (p:Nat→Bool) (c:CV T):(c.only p).inB p=true:=by
 unfold CV.only;cases h:c.inB p with
 | true=>exact h
 | false=>rfl
theorem Yw (p:Nat→Bool):∀ cs:List (CV T),CV.inB.inL p (cs.map (·.only p))=true
 | []=>rfl
 | c :: cs=>by simp only [List.map_cons,CV.inB.inL,CV.only_inB,Yw p cs,Bool.and_self]
theorem AV.only_inB (p:Nat→Bool) (v:AV T):(v.only p).inB p=true:=by
 cases v with
 | cv c=>exact CV.only_inB p c
 | agg cs=>exact Yw p cs
 | tup vs =>
  simp only [AV.only];cases h:AV.inB.inL p vs with
  | true=>exact h
  | false=>rfl
 | any=>rfl
theorem T9.only_inB (p:Nat→Bool) (b:T9 T):(b.only p).inB p=true:=by
 cases b with
 | raw cs=>exact Yw p cs
 | lst t xs=>rfl
 | mpb t es=>rfl
 | itr t l c=>rfl
 | zr t l=>rfl
 | fz t xs=>rfl
theorem CV.only_rc {p:Nat→Bool} {c:CV T} {v:Value} (h:RC E w Z ρ c v):RC E w Z ρ (c.only p) v:=by
 unfold CV.only;cases c.inB p with
 | true=>exact h
 | false=>exact .pure (.any h.one)
theorem RL.only {p:Nat→Bool} {arr:Array Value} {cs:List (CV T)} (h:RL E w Z ρ arr cs):RL E w Z ρ arr (cs.map (·.only p)) :=
 ⟨by simpa using h.1,fun i c u hc hu=>by
  simp only [List.getElem?_map,Option.map_eq_some_iff] at hc;obtain ⟨d,hd,rfl⟩:=hc;exact CV.only_rc (h.2 i d u hd hu)⟩
theorem AV.only_ra {p:Nat→Bool} {x:AV T} {v:Value} (h:RA E w Z ρ x v):RA E w Z ρ (x.only p) v:=by
 cases h with
 | cv h=>exact .cv (CV.only_rc h)
 | agg h1 h2=>have:=RL.only (E:=E) (p:=p) ⟨h1,h2⟩; exact .agg this.1 this.2
 | tup h1 h2 =>
  simp only [AV.only];cases AV.inB.inL p _ with
  | true=>exact .tup h1 h2
  | false=>exact .any
 | any=>exact .any
theorem T9.only_br {p:Nat→Bool} {b:T9 T} {bc:Option (Nat×Nat×Nat)} (h:BR E w Z ρ b bc):BR E w Z ρ (b.only p) bc:=by
 cases b with
 | raw cs =>
  cases bc with
  | none=>exact h
  | some q =>
   obtain ⟨arr,e,h1,h2,h3⟩:=h;have h4:=RL.only (E:=E) (p:=p) (w:=w) (Z:=Z) (ρ:=ρ) ⟨h2,h3⟩;exact ⟨arr,e,h1,h4.1,h4.2⟩
 | lst t xs=>exact h
 | mpb t es=>exact h
 | itr t l c=>exact h
 | zr t l=>exact h
 | fz t xs=>exact h
variable {V:V6 T} {P:Program} {n m:Nat} {Γ:Ue} {S:St T} {a:Act}
theorem Ul.only (h:Ul V n m Γ S Z ρ a w) (p:Nat→Bool):Ul V n m Γ (S.only p) Z ρ a w:=by
 have hl:∀ i blk,look i (S.only p).heap=some blk→∃ b0,look i S.heap=some b0∧blk=b0.only p:=fun i blk hl=>by
  simp only [St.only] at hl;rw [Vc,Option.map_eq_some_iff] at hl;obtain ⟨b0,h1,h2⟩:=hl;exact ⟨b0,h1,h2.symm⟩
 exact { h with
  tmps:=fun t v hv=>by
   simp only [St.only] at hv;rw [Vc,Option.map_eq_some_iff] at hv;obtain ⟨v0,h1,rfl⟩:=hv;exact AV.only_ra (h.tmps t v0 h1)
  own:=fun i blk b c hb hr=>by obtain ⟨b0,h1,_⟩:=hl i blk hb; exact h.own i b0 b c h1 hr
  inj:=fun i i' blk blk' b c c' h1 h2 h3 h4=>by
   obtain ⟨b0,e1,_⟩:=hl i blk h1;obtain ⟨b1,e2,_⟩:=hl i' blk' h2;exact h.inj i i' b0 b1 b c c' e1 e2 h3 h4
  blk:=fun i blk hb=>by
   obtain ⟨b0,e1,rfl⟩:=hl i blk hb;exact T9.only_br (h.blk i b0 e1) }
end
end Go.Proofs.YtdgejpgbppfhmaaGreatDoor.Eng
namespace Go.Proofs.YtdgejpgbppfhmaaGreatDoor.Eng
open Go.RowKit (Below)
section
variable {Tag:Type} {T:Tag→Type}
structure Ae2 (E:Uv T) (w:World) (Z:Nat→Prop) (ρ:Nat→Option (Nat×Nat×Nat)) (H:List (Nat×T9 T)):Prop where
 own:∀ id blk b c,look id H=some blk→ρ id=some (b,c)→b < w.heap.size∧¬ Z b
 inj:∀ id id' blk blk' b c c',look id H=some blk→look id' H=some blk'→ρ id=some (b,c)→ρ id'=some (b,c')→id=id'
 blk:∀ id blk,look id H=some blk→BR E w Z ρ blk (ρ id)
structure Afj (w w':World) (Z Z':Nat→Prop) (D:Nat→Prop):Prop where
 os:w'.os=w.os
 tape:w'.tape=w.tape
 output:w'.output=w.output
 size:w.heap.size≤w'.heap.size
 block:∀ b,b < w.heap.size→¬ D b→w'.heap[b]? = w.heap[b]?
 sub:∀ b,Z b→Z' b
 fresh:∀ b,Z' b→Z b∨(w.heap.size≤b∧b < w'.heap.size)
def inH (ρ:Nat→Option (Nat×Nat×Nat)) (H:List (Nat×T9 T)) (b:Nat):Prop:=∃ id blk c,look id H=some blk∧ρ id=some (b,c)
structure Afc (E:Uv T) (w w':World) (Z Z':Nat→Prop) (ρ ρ':Nat→Option (Nat×Nat×Nat)) (H H':List (Nat×T9 T)) (fx:List Nat):Prop where
 onto:Afj w w' Z Z' (inH ρ H)
 fx:∀ id,id∈fx→ρ' id=ρ id
 rel:Ae2 E w' Z' ρ' H'
 from_:∀ id blk b c,look id H'=some blk→ρ' id=some (b,c)→w.heap.size≤b∨∃ blk0 c0,look id H=some blk0∧ρ id=some (b,c0)
def T1 (V:V6 T) (P:Program) (f:FuncId) (args:List (AV T)) (H:List (Nat×T9 T)) (fx:List Nat) (r:AV T) (H':List (Nat×T9 T)):Prop :=
 U7 P f=true∧∀ (w:World) (Z:Nat→Prop) (ρ:Nat→Option (Nat×Nat×Nat)) (vs:Array Value),ZOK V w Z→vs.size=args.length →
  (∀ (i:Nat) x v,args[i]? = some x→vs[i]? = some v→RA V.E w Z ρ x v)→Ae2 V.E w Z ρ H →
  Calls P f vs w fun e w'=>∃ v Z' ρ',e=.returned v∧Afc V.E w w' Z Z' ρ ρ' H H' fx∧RA V.E w' Z' ρ' r v
structure Ut (T:Tag→Type) where
 hids:List Nat
 fx:List Nat
 r:AV T
 H':List (Nat×T9 T)
 σ:List (Nat×Nat)
 fr:List Nat:=[]
def Uf (x:Nat):List Nat→Bool
 | []=>false
 | y :: r=>Nat.beq x y || Uf x r
theorem U9 {x:Nat}:∀ {l:List Nat},Uf x l=true→x∈l
 | [],h=>by cases h
 | y :: r,h=>by
  simp only [Uf,Bool.or_eq_true] at h;rcases h with h | h
  ·rw [Nat.eq_of_beq_eq_true h]; exact .head _
  ·exact .tail _ (U9 h)
theorem V5 {x:Nat}:∀ {l:List Nat},x∈l→Uf x l=true
 | y :: r,h=>by
  simp only [Uf,Bool.or_eq_true];cases h with
  | head=>exact .inl (Nat.beq_refl x)
  | tail _ h=>exact .inr (V5 h)
def Vi:List Nat→Bool
 | []=>true
 | x :: r=>!Uf x r && Vi r
theorem Vz:∀ {l:List Nat},Vi l=true→l.Nodup
 | [],_=>List.nodup_nil
 | x :: r,h=>by
  simp only [Vi,Bool.and_eq_true,Bool.not_eq_true'] at h;exact List.nodup_cons.2 ⟨fun hm=>Bool.noConfusion (h.1.symm.trans (V5 hm)),Vz h.2⟩
def Ab6 {α:Type}:List Nat→List (Nat×α)→List (Nat×α)
 | [],l=>l
 | i :: is,l=>del i (Ab6 is l)
theorem Yq {α:Type} (t:Nat):∀ (is:List Nat) (l:List (Nat×α)),look t (Ab6 is l)=if t∈is then none else look t l
 | [],l=>by simp [Ab6]
 | i :: is,l=>by
  simp only [Ab6];rw [Uj,Yq t is l];by_cases h:t=i
  ·simp [h]
  ·by_cases h2:t∈is <;> simp [h,h2]
def Ut.f (e:Ut T) (i:Nat):Nat:=(look i e.σ).getD i
def inv (j:Nat):List (Nat×Nat)→Option Nat
 | []=>none
 |(i,k) :: r=>bif Nat.beq j k then some i else inv j r
theorem Wp {j i:Nat}:∀ {l:List (Nat×Nat)},inv j l=some i→(i,j)∈l
 | [],h=>by cases h
 |(a,k) :: r,h=>by
  unfold inv at h;cases hb:Nat.beq j k with
  | true=>rw [hb] at h; cases h; rw [Nat.eq_of_beq_eq_true hb]; exact .head _
  | false=>rw [hb] at h; exact .tail _ (Wp h)
theorem Z8 {j:Nat}:∀ {l:List (Nat×Nat)},inv j l=none→∀ i,(i,j) ∉ l
 | [],_,i,h=>by cases h
 |(a,k) :: r,h,i,hm=>by
  unfold inv at h;cases hb:Nat.beq j k with
  | true=>rw [hb] at h; cases h
  | false =>
   rw [hb] at h;cases hm with
   | head=>rw [Nat.beq_refl] at hb; cases hb
   | tail _ hm=>exact Z8 h i hm
theorem Wn {α:Type} {t:Nat} {v:α}:∀ {l:List (Nat×α)},look t l=some v→(t,v)∈l
 |(s,u) :: r,h=>by
  unfold look at h;cases hb:Nat.beq s t with
  | true=>rw [hb] at h; cases h; rw [← Nat.eq_of_beq_eq_true hb]; exact .head _
  | false=>rw [hb] at h; exact .tail _ (Wn h)
theorem Ya {α:Type} {t:Nat} {v:α}:∀ {l:List (Nat×α)},(l.map (·.1)).Nodup→(t,v)∈l→look t l=some v
 |(s,u) :: r,hn,h=>by
  simp only [List.map_cons,List.nodup_cons] at hn;unfold look;cases h with
  | head=>simp [Nat.beq_refl]
  | tail _ h =>
   cases hb:Nat.beq s t with
   | true =>
    have:=Nat.eq_of_beq_eq_true hb
    subst this;exact absurd (List.mem_map.2 ⟨_,h,rfl⟩) hn.1
   | false=>exact Ya hn.2 h
def Afo (f:Nat→Nat) (H:List (Nat×T9 T)):List (Nat×T9 T):=H.map fun p=>(f p.1,p.2.ren f)
def Ut.ok (e:Ut T) (m:Nat):Bool :=
 Vi (e.σ.map (·.1)) && Vi (e.σ.map (·.2)) && Vi e.hids && Vi (e.H'.map (·.1)) &&
 e.hids.all (fun p=>Uf p (e.σ.map (·.1))) && e.H'.all (fun p=>Uf p.1 (e.σ.map (·.1)) && p.2.inB (fun i=>Uf i (e.σ.map (·.1)))) &&
 e.r.inB (fun i=>Uf i (e.σ.map (·.1))) &&
 e.σ.all (fun p=>Uf p.1 e.fx || Nat.ble m p.2)
def Ut.moved (e:Ut T):List Nat:=(e.σ.filter fun p=>!Uf p.1 e.fx).map (·.2)
def Ut.after (e:Ut T) (S:St T):St T :=
 let S1:=S.only fun i=>!Uf i e.moved
 ⟨S1.tmps,Afo e.f e.H'++Ab6 (e.σ.map (·.2)) S1.heap⟩
theorem Yj {α:Type} (t:Nat):∀ (l r:List (Nat×α)),look t (l++r)=(look t l).or (look t r)
 | [],r=>by simp [look]
 |(s,v) :: l,r=>by
  simp only [List.cons_append,look];cases Nat.beq s t with
  | true=>rfl
  | false=>exact Yj t l r
variable {V:V6 T} {P:Program} {n m:Nat} {Γ:Ue} {S:St T} {Z:Nat→Prop} {ρ:Nat→Option (Nat×Nat×Nat)} {a:Act} {w:World}
theorem Ut.f_mem {e:Ut T} (hk:Vi (e.σ.map (·.1))=true) {i j:Nat} (h:(i,j)∈e.σ):e.f i=j:=by
 unfold Ut.f; rw [Ya (Vz hk) h]; rfl
theorem Ut.inv_f {e:Ut T} (hk:Vi (e.σ.map (·.1))=true) (hv:Vi (e.σ.map (·.2))=true) {i:Nat} (hi:Uf i (e.σ.map (·.1))=true):inv (e.f i) e.σ=some i:=by
 obtain ⟨⟨i',j⟩,hm,rfl⟩:=List.mem_map.1 (U9 hi);rw [Ut.f_mem hk hm];cases h:inv j e.σ with
 | none=>exact absurd hm (Z8 h i')
 | some k =>
  have hm2:=Wp h
  have:(k,j)=(i',j):=by
   have hnd:=Vz hv;have key:∀ (l:List (Nat×Nat)),(l.map (·.2)).Nodup→∀ x y:Nat×Nat,x∈l→y∈l→x.2=y.2→x=y:=by
    intro l
    induction l with
    | nil=>intro _ x y hx; cases hx
    | cons p r ih =>
     intro hn x y hx hy e;simp only [List.map_cons,List.nodup_cons] at hn;cases hx with
     | head=>cases hy with
      | head=>rfl
      | tail _ hy=>exact absurd (List.mem_map.2 ⟨_,hy,e.symm⟩) hn.1
     | tail _ hx=>cases hy with
      | head=>exact absurd (List.mem_map.2 ⟨_,hx,e⟩) hn.1
      | tail _ hy=>exact ih hn.2 x y hx hy e
   exact key e.σ hnd _ _ hm2 hm rfl
  have:=congrArg Prod.fst this
  simp only at this;rw [this]
theorem Aa5 {f:Nat→Nat} {H:List (Nat×T9 T)} {j:Nat} {blk:T9 T} (h:look j (Afo f H)=some blk):∃ i b0,(i,b0)∈H∧f i=j∧blk=b0.ren f:=by
 have:=Wn h
 unfold Afo at this;obtain ⟨⟨i,b0⟩,hm,he⟩:=List.mem_map.1 this;simp only [Prod.mk.injEq] at he;exact ⟨i,b0,hm,he.1,he.2.symm⟩
theorem Ul.eff (ha:Ul V n m Γ S Z ρ a w) {e:Ut T} (hok:e.ok m=true) {H:List (Nat×T9 T)} (hids:∀ i blk,look i H=some blk→i∈e.hids) (hH:∀ i blk,look i H=some blk→∃ b0,look (e.f i) S.heap=some b0)
  {w':World} {Z':Nat→Prop} {ρ':Nat→Option (Nat×Nat×Nat)} (hp:Afc V.E w w' Z Z' (fun i=>ρ (e.f i)) ρ' H e.H' e.fx) {v:Value} (hr:RA V.E w' Z' ρ' e.r v) :
  ∃ ρ2,Ul V n m Γ (e.after S) Z' ρ2 a w'∧RA V.E w' Z' ρ2 (e.r.ren e.f) v:=by
 unfold Ut.ok at hok;simp only [Bool.and_eq_true,List.all_eq_true,Bool.or_eq_true] at hok;obtain ⟨⟨⟨⟨⟨⟨⟨k1,k2⟩,k3⟩,k4⟩,k5⟩,k6⟩,k7⟩,k8⟩:=hok
 let ρ2:Nat→Option (Nat×Nat×Nat):=fun j=>match inv j e.σ with | some i=>ρ' i | none=>ρ j
 have hρf:∀ i,Uf i (e.σ.map (·.1))=true→ρ2 (e.f i)=ρ' i:=fun i hi=>by
  show (match inv (e.f i) e.σ with | some i=>ρ' i | none=>ρ (e.f i))=ρ' i;rw [Ut.inv_f k1 k2 hi]
 have hρn:∀ j,inv j e.σ=none→ρ2 j=ρ j:=fun j hj=>by
  show (match inv j e.σ with | some i=>ρ' i | none=>ρ j)=ρ j;rw [hj]
 have hstay:∀ j,(!Uf j e.moved)=true→ρ2 j=ρ j:=fun j hj=>by
  cases hi:inv j e.σ with
  | none=>exact hρn j hi
  | some i =>
   have hm:=Wp hi;have hfx:Uf i e.fx=true:=by
    cases hh:Uf i e.fx with
    | true=>rfl
    | false =>
     have:j∈e.moved:=List.mem_map.2 ⟨(i,j),List.mem_filter.2 ⟨hm,by simp [hh]⟩,rfl⟩
     rw [V5 this] at hj; cases hj
   have hf:=Ut.f_mem k1 hm;have h1:=hρf i (V5 (List.mem_map.2 ⟨_,hm,rfl⟩));rw [hf] at h1;rw [h1,hp.fx i (U9 hfx),hf]
 have hZw:∀ b,Z b→w'.heap[b]? = w.heap[b]?:=fun b hb=>hp.onto.block b (ha.Zlt b hb) fun ⟨i,blk,c,h1,h2⟩=>by obtain ⟨b0,h0⟩:=hH i blk h1; exact (ha.own _ _ b c h0 h2).2.1 hb
 have hres:RA V.E w' Z' ρ2 (e.r.ren e.f) v:=(hr.mono V.E (fun _ h=>h) (fun _ _=>rfl) fun id hid=>hρf id (AV.inB_names k7 hid)).ren;have hlook:∀ j blk,look j (e.after S).heap=some blk→(∃ i b0,look i e.H'=some b0∧Uf i (e.σ.map (·.1))=true∧e.f i=j∧blk=b0.ren e.f) ∨
   (inv j e.σ=none∧∃ b0,look j S.heap=some b0∧blk=b0.only (fun i=>!Uf i e.moved)):=fun j blk hl=>by
  unfold Ut.after at hl;simp only [St.only] at hl;rw [Yj] at hl;cases hh:look j (Afo e.f e.H') with
  | some b1 =>
   rw [hh] at hl;cases hl;obtain ⟨i,b0,h1,h2,h3⟩:=Aa5 hh;have hk:=k6 (i,b0) h1;exact .inl ⟨i,b0,Ya (Vz k4) h1,hk.1,h2,h3⟩
  | none =>
   rw [hh] at hl;simp only [Option.none_or] at hl;rw [Yq] at hl;split at hl
   ·cases hl
   ·rename_i hn;rw [Vc,Option.map_eq_some_iff] at hl;obtain ⟨b0,h1,h2⟩:=hl;refine .inr ⟨?_,b0,h1,h2.symm⟩;cases hi:inv j e.σ with
    | none=>rfl
    | some i=>exact absurd (List.mem_map.2 ⟨_,Wp hi,rfl⟩) hn
 have hbH:∀ i b0 b c,look i e.H'=some b0→ρ' i=some (b,c)→w.heap.size≤b∨∃ blk0 c0,look (e.f i) S.heap=some blk0∧ρ (e.f i)=some (b,c0):=fun i b0 b c h1 h2=>by
  rcases hp.from_ i b0 b c h1 h2 with h |⟨blk0,c0,h3,h4⟩
  ·exact .inl h
  ·obtain ⟨b1,h5⟩:=hH i blk0 h3;exact .inr ⟨b1,c0,h5,h4⟩
 refine ⟨ρ2,?_,hres⟩;exact {
  defers:=ha.defers
  size:=ha.size
  tmps:=fun t x hx=>by
   unfold Ut.after at hx;simp only [St.only] at hx;rw [Vc,Option.map_eq_some_iff] at hx;obtain ⟨x0,h1,rfl⟩:=hx;refine (AV.only_ra (ha.tmps t x0 h1)).mono V.E hp.onto.sub hZw fun id hid=>hstay id ?_
   exact AV.inB_names (AV.only_inB (fun i=>!Uf i e.moved) x0) hid
  os:=hp.onto.os.trans ha.os
  tape:=hp.onto.tape.trans ha.tape
  output:=hp.onto.output.trans ha.output
  hsize:=Nat.le_trans ha.hsize hp.onto.size
  old:=fun b hb hD=>by
   refine (hp.onto.block b (Nat.lt_of_lt_of_le hb ha.hsize) ?_).trans (ha.old b hb hD);rintro ⟨i,blk,c,h1,h2⟩;obtain ⟨b0,h0⟩:=hH i blk h1;rcases (ha.own _ _ b c h0 h2).2.2 with h | h
   ·omega
   ·exact hD _ h
  stm:=ha.stm
  st:=fun p hpm=>by
   rw [← ha.st p hpm];refine hstay p.1 ?_;cases hh:Uf p.1 e.moved with
   | false=>rfl
   | true =>
    obtain ⟨⟨i,j⟩,hm,hj⟩:=List.mem_map.1 (U9 hh);simp only at hj;subst hj;rw [List.mem_filter] at hm;have hlt:=ha.stm p hpm;rcases k8 _ hm.1 with h | h
    ·simp [h] at hm
    ·have:=Nat.le_of_ble_eq_true h; simp only at this; omega
  dlt:=ha.dlt
  Z0:=fun b hb=>hp.onto.sub b (ha.Z0 b hb)
  Zold:=fun b hb hlt=>by
   rcases hp.onto.fresh b hb with h | h
   ·exact ha.Zold b h hlt
   ·have:=ha.hsize; omega
  glb:=ha.glb.mono hp.onto.sub hZw
  Zlt:=fun b hb=>by
   rcases hp.onto.fresh b hb with h | h
   ·exact Nat.lt_of_lt_of_le (ha.Zlt b h) hp.onto.size
   ·exact h.2
  own:=fun j blk b c hl hρ=>by
   rcases hlook j blk hl with ⟨i,b0,h1,h2,rfl,rfl⟩ |⟨h1,b0,h2,rfl⟩
   ·rw [hρf i h2] at hρ;obtain ⟨g1,g2⟩:=hp.rel.own i b0 b c h1 hρ;refine ⟨g1,g2,?_⟩;rcases hbH i b0 b c h1 hρ with h |⟨blk0,c0,h3,h4⟩
    ·exact .inl (Nat.le_trans ha.hsize h)
    ·exact (ha.own _ _ b c0 h3 h4).2.2
   ·rw [hρn j h1] at hρ;obtain ⟨g1,g2,g3⟩:=ha.own j b0 b c h2 hρ;refine ⟨Nat.lt_of_lt_of_le g1 hp.onto.size,fun hz=>?_,g3⟩;rcases hp.onto.fresh b hz with h | h
    ·exact g2 h
    ·omega
  inj:=fun j j' blk blk' b c c' hl hl' hρ hρ'=>by
   have one:∀ i b0 j b1 c c',look i e.H'=some b0→ρ' i=some (b,c)→inv j e.σ=none→look j S.heap=some b1→ρ j=some (b,c')→Uf i (e.σ.map (·.1))=true→False:=fun i b0 j b1 c c' h1 h2 h3 h4 h5 h6=>by
    rcases hbH i b0 b c h1 h2 with h |⟨blk0,c0,h7,h8⟩
    ·have:=(ha.own j b1 b c' h4 h5).1; omega
    ·have:=ha.inj _ _ _ _ b _ _ h7 h4 h8 h5
     rw [← this,Ut.inv_f k1 k2 h6] at h3;cases h3
   rcases hlook j blk hl with ⟨i,b0,h1,h2,rfl,rfl⟩ |⟨h1,b0,h2,rfl⟩
   ·rw [hρf i h2] at hρ;rcases hlook j' blk' hl' with ⟨i',b0',h1',h2',rfl,rfl⟩ |⟨h1',b0',h2',rfl⟩
    ·rw [hρf i' h2'] at hρ';rw [hp.rel.inj i i' b0 b0' b c c' h1 h1' hρ hρ']
    ·rw [hρn j' h1'] at hρ';exact (one i b0 j' b0' c c' h1 hρ h1' h2' hρ' h2).elim
   ·rw [hρn j h1] at hρ;rcases hlook j' blk' hl' with ⟨i',b0',h1',h2',rfl,rfl⟩ |⟨h1',b0',h2',rfl⟩
    ·rw [hρf i' h2'] at hρ';exact (one i' b0' j b0 c' c h1' hρ' h1 h2 hρ h2').elim
    ·rw [hρn j' h1'] at hρ';exact ha.inj j j' b0 b0' b c c' h2 h2' hρ hρ'
  blk:=fun j blk hl=>by
   rcases hlook j blk hl with ⟨i,b0,h1,h2,rfl,rfl⟩ |⟨h1,b0,h2,rfl⟩
   ·rw [hρf i h2];have h3:=hp.rel.blk i b0 h1;have h4:=k6 (i,b0) (Wn h1);exact (h3.mono (fun _ h=>h) (fun _ _=>rfl) (fun _ _ _=>rfl) (ρ':=fun i=>ρ2 (e.f i)) fun id hid=>hρf id (T9.inB_names h4.2 hid)).ren
   ·rw [hρn j h1];refine BR.mono hp.onto.sub hZw (fun b c hbc=>hp.onto.block b (ha.own j b0 b c h2 hbc).1 ?_) (T9.only_br (ha.blk j b0 h2)) fun id hid=>hstay id (T9.inB_names (T9.only_inB (fun i=>!Uf i e.moved) b0) hid)
    rintro ⟨i,blk,c0,h3,h4⟩;obtain ⟨b1,h6⟩:=hH i blk h3
    have:=ha.inj _ _ _ _ b _ _ h6 h2 h4 hbc
    have h5:=k5 i (hids i blk h3);rw [← this,Ut.inv_f k1 k2 h5] at h1;cases h1 }
def U4 {α:Type}:List Nat→List (Nat×α)→List (Nat×α)
 | [],_=>[]
 | t :: ts,l=>match look t l with
  | some v=>(t,v) :: U4 ts l
  | none=>U4 ts l
theorem Um {α:Type} (t:Nat):∀ (ts:List Nat) (l:List (Nat×α)) (v:α),look t (U4 ts l)=some v→look t l=some v
 | [],l,v,h=>by cases h
 | s :: ts,l,v,h=>by
  unfold U4 at h;split at h
  ·rename_i u hu;rw [T6] at h;split at h
   ·subst_vars; cases h; exact hu
   ·exact Um t ts l v h
  ·exact Um t ts l v h
def Ut.g (e:Ut T) (j:Nat):Nat:=(inv j e.σ).getD j
def Acp (g:Nat→Nat) (f:Nat→Nat) (H:List (Nat×T9 T)):List Nat→Option (List (Nat×T9 T))
 | []=>some []
 | i :: is=>match look (f i) H,Acp g f H is with
  | some b,some r=>some ((i,b.ren g) :: r)
  | _,_=>none
theorem X0 {g f:Nat→Nat} {H:List (Nat×T9 T)}:∀ {is:List Nat} {R:List (Nat×T9 T)},Acp g f H is=some R→∀ i blk,look i R=some blk→i∈is∧∃ b0,look (f i) H=some b0∧blk=b0.ren g
 | [],R,h,i,blk,hl=>by cases h; cases hl
 | j :: is,R,h,i,blk,hl=>by
  unfold Acp at h;split at h
  ·rename_i b r hb hr;cases h;rw [T6] at hl;split at hl
   ·rename_i e;cases hl;subst e;exact ⟨.head _,b,hb,rfl⟩
   ·obtain ⟨h1,h2⟩:=X0 hr i blk hl;exact ⟨.tail _ h1,h2⟩
  ·cases h
def CV.frz (E:Uv T) (id:Nat) (blk:T9 T) (c:CV T):CV T:=(Abg E [(id,blk)] c).only fun i=>!Nat.beq i id
def AV.frz (E:Uv T) (id:Nat) (blk:T9 T):AV T→AV T
 | .cv c=>.cv (c.frz E id blk)
 | .agg cs=>.agg (cs.map (·.frz E id blk))
 | .tup vs=>.tup (frzL vs)
 | .any=>.any
where frzL:List (AV T)→List (AV T)
 | []=>[]
 | v :: vs=>AV.frz E id blk v :: frzL vs
def T9.frz (E:Uv T) (id:Nat) (blk:T9 T):T9 T→T9 T
 | .raw cs=>.raw (cs.map (·.frz E id blk))
 | b=>b
def St.frz (E:Uv T) (id:Nat) (blk:T9 T) (S:St T):St T:=⟨S.tmps.map fun p=>(p.1,p.2.frz E id blk),(del id S.heap).map fun p=>(p.1,T9.frz E id blk p.2)⟩
theorem CV.frz_rc {E:Uv T} {id:Nat} {blk:T9 T} {c:CV T} {v:Value} (h:RC E w Z ρ c v) (hb:BR E w Z ρ blk (ρ id)):RC E w (ZL Z [(id,blk)] ρ) ρ (c.frz E id blk) v:=by
 refine CV.only_rc (W9 (V:={ E:=E,isB:=fun _=>false,toB:=fun _ _=>0 }) h fun i b hl=>?_);rw [T6] at hl;split at hl
 ·cases hl; subst_vars; exact hb
 ·cases hl
theorem RL.frz {E:Uv T} {id:Nat} {blk:T9 T} {arr:Array Value} {cs:List (CV T)} (h:RL E w Z ρ arr cs) (hb:BR E w Z ρ blk (ρ id)):RL E w (ZL Z [(id,blk)] ρ) ρ arr (cs.map (·.frz E id blk)) :=
 ⟨by simpa using h.1,fun i c u hc hu=>by
  simp only [List.getElem?_map,Option.map_eq_some_iff] at hc;obtain ⟨d,hd,rfl⟩:=hc;exact CV.frz_rc (h.2 i d u hd hu) hb⟩
theorem Acm {E:Uv T} {id:Nat} {blk:T9 T}:∀ (vs:List (AV T)) (i:Nat),(AV.frz.frzL E id blk vs)[i]? =(vs[i]?).map (AV.frz E id blk)
 | [],i=>by simp [AV.frz.frzL]
 | c :: cs,0=>by simp [AV.frz.frzL]
 | c :: cs,i+1=>by simp [AV.frz.frzL,Acm cs i]
theorem Ada {E:Uv T} {id:Nat} {blk:T9 T}:∀ (vs:List (AV T)),(AV.frz.frzL E id blk vs).length=vs.length
 | []=>rfl
 | c :: cs=>by simp [AV.frz.frzL,Ada cs]
theorem AV.frz_ra {E:Uv T} {id:Nat} {blk:T9 T} {x:AV T} {v:Value} (h:RA E w Z ρ x v) (hb:BR E w Z ρ blk (ρ id)):RA E w (ZL Z [(id,blk)] ρ) ρ (x.frz E id blk) v:=by
 induction h with
 | cv h=>exact .cv (CV.frz_rc h hb)
 | agg h1 h2=>have:=RL.frz (E:=E) ⟨h1,h2⟩ hb; exact .agg this.1 this.2
 | tup h1 h2 ih =>
  refine .tup (by rw [Ada]; exact h1) fun i c v hc hv=>?_
  rw [Acm,Option.map_eq_some_iff] at hc;obtain ⟨d,hd,rfl⟩:=hc;exact ih i d v hd hv
 | any=>exact .any
theorem Ul.frz (ha:Ul V n m Γ S Z ρ a w) {id:Nat} {blk0:T9 T} (hl:Eng.look id S.heap=some blk0) (hid:100≤id):Ul V n m Γ (S.frz V.E id blk0) (ZL Z [(id,blk0)] ρ) ρ a w:=by
 have hb:=ha.blk id _ hl;have hZ:∀ b,ZL Z [(id,blk0)] ρ b→Z b∨∃ c,ρ id=some (b,c):=fun b hb=>by
  rcases hb with hb |⟨i,blk,c,h1,h2⟩
  ·exact .inl hb
  ·rw [T6] at h1;split at h1
   ·subst_vars; exact .inr ⟨c,h2⟩
   ·cases h1
 have hlook:∀ i blk,Eng.look i (S.frz V.E id blk0).heap=some blk→i≠id∧∃ b0,Eng.look i S.heap=some b0∧blk=T9.frz V.E id blk0 b0:=fun i blk h=>by
  simp only [St.frz] at h;rw [Vc,Option.map_eq_some_iff] at h;obtain ⟨b0,h1,h2⟩:=h;rw [Uj] at h1;split at h1
  ·cases h1
  ·exact ⟨by assumption,b0,h1,h2.symm⟩
 have hfr:∀ b c,ρ id=some (b,c)→Γ.w0.heap.size≤b∧b < w.heap.size:=fun b c h=>by
  obtain ⟨g1,g2,g3⟩:=ha.own id _ b c hl h;rcases g3 with g3 | g3
  ·exact ⟨g3,g1⟩
  ·have:=ha.dlt _ _ g3; omega
 exact { ha with
  tmps:=fun s x hx=>by
   simp only [St.frz] at hx;rw [Vc,Option.map_eq_some_iff] at hx;obtain ⟨x0,h1,rfl⟩:=hx;exact AV.frz_ra (ha.tmps s x0 h1) hb
  Z0:=fun b hb=>.inl (ha.Z0 b hb)
  Zold:=fun b hb hlt=>by
   rcases hZ b hb with h |⟨c,h⟩
   ·exact ha.Zold b h hlt
   ·have:=(hfr b c h).1; omega
  glb:=ha.glb.mono (fun _ h=>.inl h) (fun _ _=>rfl)
  Zlt:=fun b hb=>by
   rcases hZ b hb with h |⟨c,h⟩
   ·exact ha.Zlt b h
   ·exact (hfr b c h).2
  own:=fun i blk b c h hr=>by
   obtain ⟨hne,b0,h1,_⟩:=hlook i blk h;obtain ⟨g1,g2,g3⟩:=ha.own i b0 b c h1 hr;refine ⟨g1,fun hz=>?_,g3⟩;rcases hZ b hz with h2 |⟨c',h2⟩
   ·exact g2 h2
   ·exact hne (ha.inj i id b0 _ b c c' h1 hl hr h2)
  inj:=fun i i' blk blk' b c c' h h' hr hr'=>by
   obtain ⟨_,b0,h1,_⟩:=hlook i blk h;obtain ⟨_,b0',h1',_⟩:=hlook i' blk' h';exact ha.inj i i' b0 b0' b c c' h1 h1' hr hr'
  blk:=fun i blk h=>by
   obtain ⟨_,b0,h1,rfl⟩:=hlook i blk h;have h2:=ha.blk i b0 h1;cases b0 with
   | raw cs =>
    revert h2;cases ρ i with
    | none=>exact fun h=>h
    | some p =>
     intro h2;obtain ⟨arr,e,e1,e2,e3⟩:=h2
     have:=RL.frz (E:=V.E) (id:=id) (blk:=blk0) (w:=w) (Z:=Z) (ρ:=ρ) ⟨e2,e3⟩ hb
     exact ⟨arr,e,e1,this.1,this.2⟩
   | lst t' ys=>exact BR.mono (B:=.lst t' ys) (fun _ h=>.inl h) (fun _ _=>rfl) (fun _ _ _=>rfl) h2 fun _ _=>rfl
   | fz t' ys=>exact BR.mono (B:=.fz t' ys) (fun _ h=>.inl h) (fun _ _=>rfl) (fun _ _ _=>rfl) h2 fun _ _=>rfl
   | mpb k es=>exact BR.mono (B:=.mpb k es) (fun _ h=>.inl h) (fun _ _=>rfl) (fun _ _ _=>rfl) h2 fun _ _=>rfl
   | itr k l c=>exact BR.mono (B:=.itr k l c) (fun _ h=>.inl h) (fun _ _=>rfl) (fun _ _ _=>rfl) h2 fun _ _=>rfl
   | zr k l=>exact BR.mono (B:=.zr k l) (fun _ h=>.inl h) (fun _ _=>rfl) (fun _ _ _=>rfl) h2 fun _ _=>rfl }
def Aal (E:Uv T):List Nat→St T→Option (St T)
 | [],S=>some S
 | i :: is,S=>match look i S.heap with
  | some b=>bif Nat.ble 100 i then Aal E is (S.frz E i b) else none
  | none=>none
theorem Wv {V:V6 T}:∀ {is:List Nat} {S S':St T} {Z:Nat→Prop},Aal V.E is S=some S'→Ul V n m Γ S Z ρ a w→∃ Z',Ul V n m Γ S' Z' ρ a w
 | [],S,S',Z,h,ha=>by cases h; exact ⟨Z,ha⟩
 | i :: is,S,S',Z,h,ha=>by
  unfold Aal at h;split at h
  ·rename_i b hb;cases hi:Nat.ble 100 i with
   | false=>rw [hi] at h; cases h
   | true =>
    rw [hi] at h;exact Wv h (ha.frz hb (Nat.le_of_ble_eq_true hi))
  ·cases h
def Aae (V:V6 T) (P:Program) (m:Nat) (S:St T) (e:Ut T) (o:Oper):Option (List Prop×St T) :=
 match o.op with
 | .call c=>match c.callee with
  | .value f=>match S.get f,Zm S.get c.args.toList,Acp e.g e.f S.heap e.hids with
   | some (.cv (.fn (.func fid) fs caps)),some args,some H =>
    let all:=fs.map AV.cv++(args++caps.map AV.cv)
    let vals:=e.σ.map (·.2)
    bif e.ok m && AV.inB.inL (fun j=>Uf j vals) all && e.hids.all (fun i=>match look (e.f i) S.heap with | some b=>b.inB (fun j=>Uf j vals) | none=>false) then
     some ([T1 V P fid (AV.ren.renL e.g all) H e.fx e.r e.H'],(e.after S).put o.dst (e.r.ren e.f)) else none
   | _,_,_=>none
  | _=>none
 | _=>none
theorem Ut.f_g {e:Ut T} (hk:Vi (e.σ.map (·.1))=true) {j:Nat} (h:Uf j (e.σ.map (·.2))=true):e.f (e.g j)=j:=by
 unfold Ut.g;cases hi:inv j e.σ with
 | none =>
  obtain ⟨⟨i,j'⟩,hm,rfl⟩:=List.mem_map.1 (U9 h);exact absurd hm (Z8 hi i)
 | some i=>exact Ut.f_mem hk (Wp hi)
theorem AV.inL_get {p:Nat→Bool}:∀ {cs:List (AV T)},AV.inB.inL p cs=true→∀ {i:Nat} {c:AV T},cs[i]? = some c→c.inB p=true
 | [],_,i,c,h=>by simp at h
 | d :: ds,h,i,c,hc=>by
  simp only [AV.inB.inL,Bool.and_eq_true] at h;cases i with
  | zero=>simp at hc; subst hc; exact h.1
  | succ i=>exact AV.inL_get h.2 (by simpa using hc)
theorem Zy {e:Ut T} {o:Oper} {cs:List Prop} {S':St T} (h:Aae V P m S e o=some (cs,S')) (hcs:Us cs) (hd:Xw n o.dst=true) (ha:Ul V n m Γ S Z ρ a w) {next:Act→World→Prop} {Q:Exit→Act→World→Prop}
  (hK:∀ a' w' Z' ρ',Ul V n m Γ S' Z' ρ' a' w'→next a' w'):o.wp P a w next Q:=by
 unfold Aae at h;split at h
 ·rename_i c hop;split at h
  ·rename_i f hcal;split at h
   ·rename_i fid fs caps args H hf hargs hpick;dsimp only at h;generalize hall:fs.map AV.cv++(args++caps.map AV.cv)=all at h;cases hb:(e.ok m && AV.inB.inL (fun j=>Uf j (e.σ.map (·.2))) all && e.hids.all (fun i=>match look (e.f i) S.heap with | some b=>b.inB (fun j=>Uf j (e.σ.map (·.2))) | none=>false)) with
    | false=>rw [hb] at h; cases h
    | true =>
     rw [hb] at h;cases h;simp only [Bool.and_eq_true] at hb;obtain ⟨⟨hb1,hb2⟩,hb3⟩:=hb;have hP:T1 V P fid (AV.ren.renL e.g all) H e.fx e.r e.H':=hcs;have hpl:=X0 hpick;have hfv:=ha.get f _ hf;generalize heval:a.eval f=fv at hfv;cases hfv with | cv hfv =>
     cases hfv with
     | pure hfv=>cases hfv
     | @fn _ _ _ fvs cvs h1 h2 h3 h4 =>
      obtain ⟨g1,g2⟩:=Vt (w:=w) (Z:=Z) (ρ:=ρ) (a:=a) ha.get _ _ hargs;have hsz:(fvs++(c.args.map a.eval++cvs)).size=all.length:=by
       rw [← hall]; simp at g1; simp [h1,h2,g1]
      have hrel:∀ (i:Nat) x v,all[i]? = some x→(fvs++(c.args.map a.eval++cvs))[i]? = some v→RA V.E w Z ρ x v:=by
       intro i x v hx hv;rw [← hall] at hx;by_cases hi:i < fs.length
       ·rw [List.getElem?_append_left (by simpa using hi)] at hx;rw [Array.getElem?_append_left (by omega)] at hv;simp only [List.getElem?_map,Option.map_eq_some_iff] at hx;obtain ⟨d,hd,rfl⟩:=hx;exact .cv (h3 i d v hd hv)
       ·rw [List.getElem?_append_right (by simp; omega)] at hx;rw [Array.getElem?_append_right (by omega)] at hv;simp only [List.length_map] at hx;rw [h1] at hv;have hal:c.args.size=args.length:=by simpa using g1
        by_cases hi2:i - fs.length < args.length
        ·rw [List.getElem?_append_left hi2] at hx;rw [Array.getElem?_append_left (by simp; omega)] at hv;refine g2 _ x v hx ?_;rw [← Array.toList_map,Array.getElem?_toList]; exact hv
        ·rw [List.getElem?_append_right (by omega)] at hx;rw [Array.getElem?_append_right (by simp; omega)] at hv;simp only [List.getElem?_map,Option.map_eq_some_iff] at hx;obtain ⟨d,hd,rfl⟩:=hx;refine .cv (h4 _ d v hd ?_);rw [← hv]; congr 1; simp; omega
      have hrun:(execOp a.eval o).run P w=.ok (.enter fid (fvs++(c.args.map a.eval++cvs))) w:=by
       unfold execOp;rw [hop];simp only [resolve,hcal,heval,Deferred.ofValue,Sem.run_bind,Sem.run_pure,Result.andThen,invoke];rw [Vj hP.1,Array.append_assoc]
      have hok:=hb1;unfold Ut.ok at hok;simp only [Bool.and_eq_true,List.all_eq_true,Bool.or_eq_true] at hok;obtain ⟨⟨⟨⟨⟨⟨⟨k1,k2⟩,k3⟩,k4⟩,k5⟩,k6⟩,k7⟩,k8⟩:=hok;have hfg:∀ j,Uf j (e.σ.map (·.2))=true→ρ (e.f (e.g j))=ρ j:=fun j hj=>by rw [Ut.f_g k1 hj]
      have hrel2:∀ (i:Nat) x v,(AV.ren.renL e.g all)[i]? = some x→(fvs++(c.args.map a.eval++cvs))[i]? = some v→RA V.E w Z (fun i=>ρ (e.f i)) x v:=by
       intro i x v hx hv;rw [Xl,Option.map_eq_some_iff] at hx;obtain ⟨y,hy,rfl⟩:=hx;exact RA.ren (ρ:=fun i=>ρ (e.f i)) (f:=e.g) ((hrel i y v hy hv).mono V.E (fun _ h=>h) (fun _ _=>rfl) (ρ':=fun j=>ρ (e.f (e.g j))) fun id hid=>hfg id (AV.inB_names (AV.inL_get hb2 hy) hid))
      have hHR:Ae2 V.E w Z (fun i=>ρ (e.f i)) H:={
       own:=fun i blk b c hl hr=>by
        obtain ⟨_,b0,e0,_⟩:=hpl i blk hl;obtain ⟨e1,e2,_⟩:=ha.own _ _ b c e0 hr; exact ⟨e1,e2⟩
       inj:=fun i i' blk blk' b c c' hl hl' hr hr'=>by
        obtain ⟨m1,b0,e0,_⟩:=hpl i blk hl;obtain ⟨m2,b0',e0',_⟩:=hpl i' blk' hl'
        have:=ha.inj _ _ _ _ b c c' e0 e0' hr hr'
        have e1:=Ut.inv_f k1 k2 (k5 _ m1);have e2:=Ut.inv_f k1 k2 (k5 _ m2);rw [this,e2] at e1;exact (Option.some.inj e1).symm
       blk:=fun i blk hl=>by
        obtain ⟨m1,b0,e0,rfl⟩:=hpl i blk hl;have hc:b0.inB (fun j=>Uf j (e.σ.map (·.2)))=true:=by
         have:=List.all_eq_true.1 hb3 i m1
         rw [e0] at this;exact this
        exact BR.ren (ρ:=fun i=>ρ (e.f i)) (f:=e.g) (BR.mono (fun _ h=>h) (fun _ _=>rfl) (fun _ _ _=>rfl) (ha.blk _ _ e0) (ρ':=fun j=>ρ (e.f (e.g j))) fun id hid=>hfg id (T9.inB_names hc hid)) }
      unfold Oper.wp;rw [hrun];show Calls P fid _ w _;refine (hP.2 w Z (fun i=>ρ (e.f i)) _ ha.zok (by rw [hsz,Xk]) hrel2 hHR).mono fun en w' he=>?_
      obtain ⟨v,Z',ρ',rfl,hp,hr⟩:=he;obtain ⟨ρ2,hA,hr2⟩:=ha.eff hb1 (fun i blk hl=>(hpl i blk hl).1) (fun i blk hl=>by obtain ⟨_,b0,e0,_⟩:=hpl i blk hl; exact ⟨b0,e0⟩) hp hr;exact hK _ _ Z' ρ2 (hA.put hd hr2)
   ·cases h
  ·cases h
 ·cases h
def Abt (V:V6 T) (P:Program) (m:Nat) (S:St T) (e:Ut T) (o:Oper):Option (List Prop×St T) :=
 match Aal V.E e.fr S with
 | some S1=>Aae V P m S1 e o
 | none=>none
theorem Aav {e:Ut T} {o:Oper} {cs:List Prop} {S':St T} (h:Abt V P m S e o=some (cs,S')) (hcs:Us cs) (hd:Xw n o.dst=true) (ha:Ul V n m Γ S Z ρ a w) {next:Act→World→Prop} {Q:Exit→Act→World→Prop}
  (hK:∀ a' w' Z' ρ',Ul V n m Γ S' Z' ρ' a' w'→next a' w'):o.wp P a w next Q:=by
 unfold Abt at h;split at h
 ·rename_i S1 h1;obtain ⟨Z1,ha1⟩:=Wv h1 ha;exact Zy h hcs hd ha1 hK
 ·cases h
end
end Go.Proofs.YtdgejpgbppfhmaaGreatDoor.Eng
namespace Go.Proofs.YtdgejpgbppfhmaaGreatDoor.Eng
open Go.RowKit (Below)
section
variable {Tag:Type} {T:Tag→Type} (V:V6 T)
variable {P:Program} {n m:Nat} {Γ:Ue} {S:St T} {Z:Nat→Prop} {ρ:Nat→Option (Nat×Nat×Nat)} {a:Act} {w:World}
def evG (ops:Array Oper) (o:Oper) (S:St T):Option Bool :=
 match o.guard with
 | none=>some true
 | some (j,want)=>match (ops[j]?).bind (·.dst) with
  | some d=>match look d S.tmps with
   | some (.cv (.lit (.bool b)))=>some (b == want)
   | some (.tup [])=>some false
   | _=>none
  | none=>none
theorem Vq {ops:Array Oper} {o:Oper} {g:Bool} (h:evG ops o S=some g) (ha:Ul V n m Γ S Z ρ a w):Region.wanted o (yielded ops a.tmps)=g:=by
 unfold evG at h;unfold Region.wanted;split at h
 ·rename_i hg; rw [hg]; cases h; rfl
 ·rename_i j want hg;rw [hg];dsimp only;split at h
  ·rename_i d hd;unfold yielded;rw [hd];simp only [Option.bind_some];split at h
   ·rename_i b hl;cases h;have e:=Ua V.E (ha.tmps d _ hl)
    have:a.tmps[d]? = some (.bool b):=by
     rw [Array.getD_eq_getD_getElem?] at e;cases hh:a.tmps[d]? with
     | none=>rw [hh] at e; simp [undef] at e
     | some v=>rw [hh] at e; simp at e; rw [e]
    rw [this];cases b <;> cases want <;> rfl
   ·rename_i hl;cases h;have e:=ha.tmps d _ hl;generalize hv:a.tmps.getD d undef=v at e;cases e with | tup h1 h2 =>
    rename_i us
    have:us = #[]:=Array.eq_empty_of_size_eq_zero h1
    subst this;cases hh:a.tmps[d]? with
    | none=>rfl
    | some v=>rw [Array.getD_eq_getD_getElem?,hh] at hv; simp at hv; rw [hv]; rfl
   ·cases h
  ·cases h
def Afk (E:Uv T) (t:Tag):AV T→Option (List Prop×T t)
 | .agg cs=>bif E.isAgg t && Nat.beq cs.length (E.sz t) then E.un t cs else none
 | .cv c=>bif !E.isAgg t && Nat.beq (E.sz t) 1 then E.un t [c] else none
 | _=>none
theorem Acq (L:V.E.Law V.isB V.toB) {t:Tag} {x:AV T} {ps:List Prop} {y:T t} {u:Value} (h:Afk V.E t x=some (ps,y)) (hps:Us ps) (hx:RA V.E w Z ρ x u):VR V.E w Z t y u:=by
 unfold Afk at h;split at h
 ·rename_i cs;cases hb:(V.E.isAgg t && Nat.beq cs.length (V.E.sz t)) with
  | false=>rw [hb] at h; cases h
  | true =>
   rw [hb] at h;simp only [Bool.and_eq_true] at hb;cases hx with | agg h1 h2 =>
   refine .inl ⟨hb.1,_,rfl,by rw [h1]; exact Nat.eq_of_beq_eq_true hb.2,fun j c u hc hu=>?_⟩;obtain ⟨d,hd,hr⟩:=L.un _ _ _ _ h hps j c hc;exact hr _ _ ρ _ (h2 j d u hd hu)
 ·rename_i c;cases hb:(!V.E.isAgg t && Nat.beq (V.E.sz t) 1) with
  | false=>rw [hb] at h; cases h
  | true =>
   rw [hb] at h;simp only [Bool.and_eq_true,Bool.not_eq_true'] at hb;cases hx with | cv hx =>
   have hl:=V.E.klen t y;rw [Nat.eq_of_beq_eq_true hb.2] at hl
   match hk:V.E.k t y,hl with
   | [c'],_ =>
    refine .inr ⟨hb.1,c',hk,?_⟩;obtain ⟨d,hd,hr⟩:=L.un _ _ _ _ h hps 0 c' (by rw [hk]; rfl);simp at hd;subst hd;exact hr _ _ ρ _ hx
 ·cases h
def Ac1 (P:Program) (n m:Nat) (nid:Nat) (ops:Array Oper) (dec:Option Bool) (ora:Option (AV T)) (eff:Option (Ut T)) (o:Oper) (S:St T):Option (List Prop×St T) :=
 bif !Xw n o.dst then none else
 match evG ops o S with
 | none=>none
 | some false=>some ([],S.put o.dst (.tup []))
 | some true =>
  match eff with
  | some e=>Abt V P m S e o
  | none =>
  match ora with
  | some (.cv (.ron tg xs))=>match Zl V P S tg xs o with
   | some cs=>bif Nat.ble m nid && !S.named nid then some (cs,(S.new nid (.lst tg xs)).put o.dst (.cv (.own tg nid))) else none
   | none=>none
  | some r=>match Abp V P S r o with
   | some cs=>some (cs,S.put o.dst r)
   | none=>none
  | none =>
   match evV V P S.heap S.get o with
   | some (cs,r)=>match dec with
    | none=>some (cs,S.put o.dst r)
    | some b=>match r with
     | .cv (.lit (.bool x))=>some (cs++[x=b],S.put o.dst (.cv (.lit (.bool b))))
     | _=>none
   | none=>match evA V P nid S.get o with
    | some (ps,r,none)=>some (ps,S.put o.dst r)
    | some (ps,r,some B)=>bif Nat.ble m nid && !S.named nid then some (ps,(S.new nid B).put o.dst r) else none
    | none=>match o.op with
     | .store t x v=>match S.get x,S.get v with
      | some x,some v=>match Wg V P S t x v with
       | some (cs,S')=>some (cs,S'.put o.dst (.tup []))
       | none=>none
      | _,_=>none
     | .convert s d x=>match S.get x with
      | some x=>match evFz V.E P S.heap s d x with
       | some (cs,X,blk,r)=>some (cs,(S.new X blk).put o.dst r)
       | none=>none
      | none=>none
     | .call c=>match c.callee with
      | .builtin .append=>match c.args.toList,c.argTypes.toList with
       | [s,x],[t,t']=>match S.get s,S.get x with
        | some s,some x=>bif Nat.beq t t' then (match Ae0 V P m S nid t s x with
         | some (cs,r,S')=>some (cs,S'.put o.dst r)
         | none=>none) else (match x with
         | .cv (.str l)=>match Adm V P m S nid t t' s l with
          | some (cs,r,S')=>some (cs,S'.put o.dst r)
          | none=>none
         | _=>none)
        | _,_=>none
       | _,_=>none
      | .builtin .delete=>match c.args.toList,c.argTypes.toList with
       | [x,k],[t,kt]=>match S.get x,S.get k with
        | some (.cv (.mp id)),some (.cv (.str k))=>match look id S.heap,P.underlying t,P.underlying kt with
         | some (.mpb tg es),some (.map kt' _),some .string=>bif Nat.beq kt kt' then some ([],(S.new id (.mpb tg (Xp k es))).put o.dst (.tup [])) else none
         | _,_,_=>none
        | _,_=>none
       | _,_=>none
      | _=>none
     | .mapUpdate t x k v=>match S.get x,S.get k,S.get v with
      | some (.cv (.mp id)),some (.cv (.str k)),some v=>match look id S.heap,P.underlying t with
       | some (.mpb tg es),some (.map kt _)=>match P.underlying kt,Afk V.E tg v with
        | some .string,some (ps,y)=>some ([Us ps],(S.new id (.mpb tg (Aek k y es))).put o.dst (.tup []))
        | _,_=>none
       | _,_=>none
      | _,_,_=>none
     | _=>none
theorem Afe {id:Nat} {u:Value} (h:RA V.E w Z ρ (.cv (.mp id)) u):∃ b n,ρ id=some (b,n)∧u=.map (some b):=by
 cases h with | cv h =>
 cases h with
 | pure h=>cases h
 | mp hr=>exact ⟨_,_,hr,rfl⟩
theorem Abk (ha:Ul V n m Γ S Z ρ a w) {id b:Nat} {c:Nat×Nat} {tg:Tag} {es es':List (List UInt8×T tg)} {arr arr':Array MapEntry} {clock clock':Nat} (hl:look id S.heap=some (.mpb tg es)) (hr:ρ id=some (b,c))
  (hb:w.heap[b]? = some (.map arr clock)) (hM:MR V.E w Z tg es' arr' clock'):Ul V n m Γ (S.new id (.mpb tg es')) Z ρ a { w with heap:=w.heap.setIfInBounds b (.map arr' clock') }:=by
 have hlt:=(ha.own id _ b c hl hr).1;have hnz:=(ha.own id _ b c hl hr).2.1;have hg:=Acr w b (.map arr' clock')
 have:=Ul.rebase (id:=id) (bc:=ρ id) ha (.inl rfl) (old:=some b) (fun k hk=>by cases hk; exact ⟨_,_,hl,hr⟩) hg
  (fun b' c' hbc=>by rw [hr] at hbc; cases hbc; exact ⟨Nat.lt_of_lt_of_le hlt hg.size,.inr rfl⟩) (B:=.mpb tg es') (by
   rw [hr];exact ⟨arr',clock',(MapKept.heap_set hb).1,hM.mono V.E (fun _ h=>h) fun b' hb'=>hg.block b' (ha.Zlt b' hb') (fun e=>hnz (by cases e; exact hb'))⟩)
 rw [Wt] at this;exact this
theorem U8 {o:Oper} {v:Value} {w':World} (h:(execOp a.eval o).run P w=.ok (.value v) w') {K:Act→World→Prop} {Q:Exit→Act→World→Prop} (hK:K (a.put o.dst v) w'):o.wp P a w K Q:=by
 unfold Oper.wp; rw [h]; exact hK
theorem Xf (L:V.E.Law V.isB V.toB) {nid:Nat} {ops:Array Oper} {dec:Option Bool} {ora:Option (AV T)} {eff:Option (Ut T)} {o:Oper} {cs:List Prop} {S':St T}
  (h:Ac1 V P n m nid ops dec ora eff o S=some (cs,S')) (hcs:Us cs) (ha:Ul V n m Γ S Z ρ a w) {K:Act→World→Prop} {Q:Exit→Act→World→Prop}
  (hK:∀ a' w' Z' ρ',Ul V n m Γ S' Z' ρ' a' w'→K a' w'):if Region.wanted o (yielded ops a.tmps)=true then o.wp P a w K Q else K (a.put o.dst undef) w:=by
 unfold Ac1 at h;cases hd:Xw n o.dst with
 | false=>rw [hd] at h; cases h
 | true =>
 rw [hd] at h;simp only [Bool.not_true,cond_false] at h;split at h
 ·cases h
 ·rename_i hg;rw [Vq V hg ha];cases h;simp only [Bool.false_eq_true,if_false];exact hK _ _ Z ρ (ha.put hd (.tup (us:=#[]) rfl fun i c v hc=>by simp at hc))
 ·rename_i hg;rw [Vq V hg ha];simp only [if_true];split at h
  ·rename_i e;exact Aav h hcs hd ha hK
  split at h
  ·-- a call that returns a slice of one's own
   rename_i tg xs;split at h
   ·rename_i cs0 hc;cases hb:(Nat.ble m nid && !S.named nid) with
    | false=>rw [hb] at h; cases h
    | true =>
     rw [hb] at h;cases h;simp only [Bool.and_eq_true,Bool.not_eq_true'] at hb;have hm:=Nat.le_of_ble_eq_true hb.1;refine Xu V hc hcs ha fun v w' Z' ho hr=>?_
     have ha':=ha.onto ho;rcases hr with ⟨rfl,rfl⟩ |⟨b,cap,h1,h2,h3,rfl,hB⟩
     ·have hn:=ha'.claim V (id:=nid) (bc:=none) hm hb.2 (fun _ _ h=>by cases h) (B:=.lst tg []) rfl;exact hK _ _ Z' _ (hn.put hd (.cv (.ownv (by unfold Uy; rw [if_pos rfl]))))
     ·have hn:=ha'.claim V (id:=nid) (bc:=some (b,cap,xs.length)) hm hb.2 (fun b' c' he=>by
       cases he;refine ⟨h2,h3,.inl (Nat.le_trans ha.hsize h1),fun i blk c' hi hl hr=>?_⟩
       have:=(ha.own i blk b c' hl hr).1
       omega) (B:=.lst tg xs) hB
      exact hK _ _ Z' _ (hn.put hd (.cv (.own (by unfold Uy; rw [if_pos rfl]))))
   ·cases h
  ·-- a call
   split at h
   ·rename_i cs0 hc;cases h;exact Yb V hc hcs ha fun v w' Z' ho hr=>hK _ _ Z' ρ ((ha.onto ho).put hd hr)
   ·cases h
  ·split at h
   ·rename_i cs0 r hv;split at h
    ·cases h;obtain ⟨v,e1,e2⟩:=Xg V L hv hcs ha.glb ha.get ha.blk;exact U8 e1 (hK _ _ Z ρ (ha.put hd e2))
    ·rename_i b;split at h
     ·rename_i x;cases h;obtain ⟨h1,h2⟩:=hcs.append;obtain ⟨v,e1,e2⟩:=Xg V L hv h1 ha.glb ha.get ha.blk;have hx:x=b:=h2;subst hx;exact U8 e1 (hK _ _ Z ρ (ha.put hd e2))
     ·cases h
   ·split at h
    ·rename_i ps r hA;cases h;obtain ⟨v,w',e1,Z',ho,hr⟩:=Yt V L hA hcs ha.get ha.Zlt;exact U8 e1 (hK _ _ Z' ρ ((ha.onto ho).put hd hr))
    ·rename_i ps r B hA;cases hm:(Nat.ble m nid && !S.named nid) with
     | false=>rw [hm] at h; cases h
     | true =>
      rw [hm] at h;cases h;simp only [Bool.and_eq_true,Bool.not_eq_true'] at hm;obtain ⟨v,w',e1,b,c,hb,h1,h2,hB,hr⟩:=Yt V L hA hcs ha.get ha.Zlt;exact U8 e1 (hK _ _ Z _ ((ha.new (Nat.le_of_ble_eq_true hm.1) hm.2 hb h1 h2 hB).put hd hr))
    ·split at h
     ·-- store
      rename_i t x v hop;split at h
      ·rename_i ux uv hx hv;split at h
       ·rename_i cs0 S1 hs;cases h;obtain ⟨w',e1,e2⟩:=Xt V L hs hcs ha (ha.get _ _ hx) (ha.get _ _ hv);have hrun:(execOp a.eval o).run P w=.ok .skip w':=by
         unfold execOp;rw [hop];simp only [Sem.run_bind,e1,Result.andThen];rfl
        unfold Oper.wp;rw [hrun];exact hK _ _ Z ρ (e2.put hd (.tup (us:=#[]) rfl fun i c v hc=>by simp at hc))
       ·cases h
      ·cases h
     ·rename_i s d x hop;split at h
      ·rename_i ux hx;split at h
       ·rename_i cs0 X blk r hf;cases h;obtain ⟨w',e1,e2,e3⟩:=Zz V hf hcs ha (fun _ h=>h) (ha.get _ _ hx);have hrun:(execOp a.eval o).run P w=.ok (.value (a.eval x)) w':=by
         unfold execOp;rw [hop];simp only [Sem.run_bind,e1,Result.andThen];rfl
        exact U8 hrun (hK _ _ Z ρ (e2.put hd e3))
       ·cases h
      ·cases h
     ·rename_i c hop;split at h
      ·rename_i hcal;split at h
       ·rename_i s x t t' hargs htys;split at h
        ·rename_i us ux hs hx;cases ht:Nat.beq t t' with
         | false =>
          rw [ht] at h;simp only [cond_false] at h;split at h
          ·rename_i l _;split at h
           ·rename_i cs0 r S1 happ;cases h;obtain ⟨v',w',ρ',e1,e2,e3⟩:=Ab0 V (ty:=o.type) happ hcs ha (ha.get _ _ hs);have hxv:=Uu V.E (ha.get _ _ hx);have hrun:(execOp a.eval o).run P w=.ok (.value v') w':=by
             unfold execOp;rw [hop];simp [resolve,hcal,invoke,builtin,Abu hargs,Abu htys,hxv,e1]
            exact U8 hrun (hK _ _ Z ρ' (e2.put hd e3))
           ·cases h
          ·cases h
         | true =>
          rw [ht] at h
          have:=Nat.eq_of_beq_eq_true ht
          subst this;simp only [cond_true] at h;split at h
          ·rename_i cs0 r S1 happ;cases h;obtain ⟨v',w',ρ',e1,e2,e3⟩:=Ach V (ty:=o.type) happ hcs ha (ha.get _ _ hs) (ha.get _ _ hx);have hrun:(execOp a.eval o).run P w=.ok (.value v') w':=by
            unfold execOp;rw [hop];simp [resolve,hcal,invoke,builtin,Abu hargs,Abu htys,e1]
           exact U8 hrun (hK _ _ Z ρ' (e2.put hd e3))
          ·cases h
        ·cases h
       ·cases h
      ·rename_i hcal;split at h
       ·rename_i x k t kt hargs htys;split at h
        ·rename_i id kk hx hk;split at h
         ·rename_i tg es kt' e hl hu hks;cases hkk:Nat.beq kt kt' with
          | false=>rw [hkk] at h; cases h
          | true =>
           rw [hkk] at h;cases h
           have:=Nat.eq_of_beq_eq_true hkk
           subst this;obtain ⟨b,c',hr,hv⟩:=Afe V (ha.get _ _ hx);have hkv:=Uu V.E (ha.get _ _ hk);have hB:=ha.blk _ _ hl;rw [hr] at hB;obtain ⟨arr,clock,h1,h2⟩:=hB;obtain ⟨arr',e1,e2⟩:=Adi V.E (ty:=o.type) hu hks h1 h2 kk;have hrun:(execOp a.eval o).run P w=.ok (.value (.tuple #[])) { w with heap:=w.heap.setIfInBounds b (.map arr' clock) }:=by
            unfold execOp;rw [hop];simp [resolve,hcal,invoke,builtin,Abu hargs,Abu htys,hv,hkv,e1]
           exact U8 hrun (hK _ _ Z ρ ((Abk V ha hl hr h1 e2).put hd (.tup (us:=#[]) rfl fun i c v hc=>by simp at hc)))
         ·cases h
        ·cases h
       ·cases h
      ·cases h
     ·-- mapUpdate
      rename_i t x k v hop;split at h
      ·rename_i id kk v' hx hk hv;split at h
       ·rename_i tg es kt e hl hu;split at h
        ·rename_i ps y hks hd0;cases h;obtain ⟨b,c',hr,hxv⟩:=Afe V (ha.get _ _ hx);have hkv:=Uu V.E (ha.get _ _ hk);have hB:=ha.blk _ _ hl;rw [hr] at hB;obtain ⟨arr,clock,h1,h2⟩:=hB;obtain ⟨arr',clock',e1,e2⟩:=Aar V.E hu hks h1 h2 kk (Acq V L hd0 hcs (ha.get _ _ hv));have hrun:(execOp a.eval o).run P w=.ok .skip { w with heap:=w.heap.setIfInBounds b (.map arr' clock') }:=by
          unfold execOp;rw [hop];simp only [Sem.run_bind,hxv,hkv,e1,Result.andThen];rfl
         unfold Oper.wp;rw [hrun];exact hK _ _ Z ρ ((Abk V ha hl hr h1 e2).put hd (.tup (us:=#[]) rfl fun i c v hc=>by simp at hc))
        ·cases h
       ·cases h
      ·cases h
     ·cases h
def isCv (o:Oper):Bool :=
 match o.op with
 | .call c=>(match c.callee with | .value _=>true | _=>false)
 | _=>false
def Afq (P:Program) (n m:Nat) (nid:Nat) (ops:Array Oper) (dec:Option Bool) (ora:Option (AV T)) (eff:Option (Ut T)) (o:Oper) (S:St T):Option (List Prop×St T) :=
 match eff with
 | some e=>bif isCv o then Ac1 V P n m nid ops dec ora (some e) o S else (match Aal V.E e.fr S with
  | some S1=>Ac1 V P n m nid ops dec ora none o S1
  | none=>none)
 | none=>Ac1 V P n m nid ops dec ora none o S
theorem V8 (L:V.E.Law V.isB V.toB) {nid:Nat} {ops:Array Oper} {dec:Option Bool} {ora:Option (AV T)} {eff:Option (Ut T)} {o:Oper} {cs:List Prop} {S':St T}
  (h:Afq V P n m nid ops dec ora eff o S=some (cs,S')) (hcs:Us cs) (ha:Ul V n m Γ S Z ρ a w) {K:Act→World→Prop} {Q:Exit→Act→World→Prop}
  (hK:∀ a' w' Z' ρ',Ul V n m Γ S' Z' ρ' a' w'→K a' w'):if Region.wanted o (yielded ops a.tmps)=true then o.wp P a w K Q else K (a.put o.dst undef) w:=by
 unfold Afq at h;split at h
 ·rename_i e;cases hc:isCv o with
  | true=>rw [hc] at h; simp only [cond_true] at h; exact Xf V L h hcs ha hK
  | false =>
   rw [hc] at h;simp only [cond_false] at h;split at h
   ·rename_i S1 h1;obtain ⟨Z1,ha1⟩:=Wv h1 ha;exact Xf V L h hcs ha1 hK
   ·cases h
 ·exact Xf V L h hcs ha hK
def U3 (P:Program) (n m:Nat) (ops:Array Oper) (base:Nat) (decs:List (Nat×Bool)) (oras:List (Nat×AV T)) (effs:List (Nat×Ut T)):Nat→List Oper→St T→Option (List Prop×St T)
 | _,[],S=>some ([],S)
 | i,o :: rest,S=>match Afq V P n m (base+i) ops (look i decs) (look i oras) (look i effs) o S with
  | some (cs,S1)=>match U3 P n m ops base decs oras effs (i+1) rest S1 with
   | some (cs2,S2)=>some (cs++cs2,S2)
   | none=>none
  | none=>none
theorem Wu (L:V.E.Law V.isB V.toB) {ops:Array Oper} {base:Nat} {decs:List (Nat×Bool)} {oras:List (Nat×AV T)} {effs:List (Nat×Ut T)} {Q:Exit→Act→World→Prop}:∀ (l:List Oper) (i:Nat) (S:St T) (Z:Nat→Prop) (ρ:Nat→Option (Nat×Nat×Nat)) (a:Act) (w:World) (cs:List Prop) (S':St T),
  U3 V P n m ops base decs oras effs i l S=some (cs,S')→Us cs→Ul V n m Γ S Z ρ a w→(∀ a' w' Z' ρ',Ul V n m Γ S' Z' ρ' a' w'→Q .normal a' w')→wpList P ops Q l a w
 | [],i,S,Z,ρ,a,w,cs,S',h,hcs,ha,hQ=>by cases h; exact hQ _ _ _ _ ha
 | o :: rest,i,S,Z,ρ,a,w,cs,S',h,hcs,ha,hQ=>by
  unfold U3 at h;split at h
  ·rename_i cs1 S1 h1;split at h
   ·rename_i cs2 S2 h2;cases h;obtain ⟨hc1,hc2⟩:=hcs.append
    have:=V8 V L (K:=wpList P ops Q rest) (Q:=Q) h1 hc1 ha fun a' w' Z' ρ' ha'=>Wu L rest (i+1) S1 Z' ρ' a' w' cs2 S' h2 hc2 ha' hQ
    unfold wpList;split
    ·rename_i hw; rw [if_pos hw] at this; exact .inl this
    ·rename_i hw; rw [if_neg hw] at this; exact this
   ·cases h
  ·cases h
def St.keep (S:St T) (ts ids:List Nat):St T:=⟨U4 ts S.tmps,U4 ids S.heap⟩
theorem Ul.keep {V:V6 T} (h:Ul V n m Γ S Z ρ a w) (ts ids:List Nat):Ul V n m Γ (S.keep ts ids) Z ρ a w :=
 { h with
  tmps:=fun t v hv=>h.tmps t v (Um t ts _ v hv)
  own:=fun id blk b c hl hr=>h.own id blk b c (Um id ids _ _ hl) hr
  inj:=fun id id' blk blk' b c c' h1 h2=>h.inj id id' blk blk' b c c' (Um id ids _ _ h1) (Um id' ids _ _ h2)
  blk:=fun id blk hl=>h.blk id blk (Um id ids _ _ hl) }
def Uc (P:Program) (n m:Nat) (Γ:Ue) (c:Code) (Q:Exit→St T→Prop) (S:St T):Prop :=
 ∀ Z ρ a w,Ul V n m Γ S Z ρ a w→c.wp P (fun e a' w'=>∃ S' Z' ρ',Q e S'∧Ul V n m Γ S' Z' ρ' a' w') a w
def Af3 (K:St T→Prop) (Q:Exit→St T→Prop):Exit→St T→Prop
 | .normal,S=>K S
 | e,S=>Q e S
def AIn (id:Nat) (Q:Exit→St T→Prop):Exit→St T→Prop
 | .exit id',S=>if id'=id then Q .normal S else Q (.exit id') S
 | e,S=>Q e S
variable {V} {Q:Exit→St T→Prop}
theorem Ae6 {c:Code} {ts ids:List Nat} {S':St T} (hk:(S.keep ts ids).co S'=S') (h:Uc V P n m Γ c Q S'):Uc V P n m Γ c Q S :=
 fun Z ρ a w ha=>h Z ρ a w (hk ▸ (ha.keep ts ids).co V S')
theorem U2 (L:V.E.Law V.isB V.toB) {id:Nat} {ops:Array Oper} (base:Nat) (decs:List (Nat×Bool)) (oras:List (Nat×AV T)) (effs:List (Nat×Ut T)) (ts ids:List Nat) {cs:List Prop} {S':St T}
  (h:(U3 V P n m ops base decs oras effs 0 ops.toList S).map (fun p=>(p.1,(p.2.keep ts ids).co S'))=some (cs,S')) (hcs:Us cs) (hQ:Q .normal S'):Uc V P n m Γ (.region id ops false) Q S:=by
 intro Z ρ a w ha;rw [Option.map_eq_some_iff] at h;obtain ⟨⟨cs0,S2⟩,h1,h2⟩:=h;simp only [Prod.mk.injEq] at h2;obtain ⟨rfl,h2⟩:=h2;exact wp_region_list (Wu V L ops.toList 0 S Z ρ a w _ S2 h1 hcs ha fun a' w' Z' ρ' ha'=>⟨_,Z',ρ',hQ,h2 ▸ (ha'.keep ts ids).co V S'⟩)
theorem Tm {x y:Code} (h:Uc V P n m Γ x (Af3 (Uc V P n m Γ y Q) Q) S):Uc V P n m Γ (.seq x y) Q S:=by
 intro Z ρ a w ha;refine wp_seq (Code.wp_mono (fun e a' w' hq=>?_) (h Z ρ a w ha));obtain ⟨S',Z',ρ',hq,ha'⟩:=hq;cases e <;> first | exact hq Z' ρ' a' w' ha' | exact ⟨S',Z',ρ',hq,ha'⟩
theorem Zs {S':St T} (ts ids:List Nat) (hk:(S.keep ts ids).co S'=S') (h:Q .normal S'):Uc V P n m Γ .skip Q S :=
 fun Z ρ a w ha=>wp_skip ⟨S',Z,ρ,h,hk ▸ (ha.keep ts ids).co V S'⟩
theorem Tq (h:Q .normal S):Uc V P n m Γ .skip Q S:=fun Z ρ a w ha=>wp_skip ⟨S,Z,ρ,h,ha⟩
theorem Afn {S':St T} {id:Nat} (ts ids:List Nat) (hk:(S.keep ts ids).co S'=S') (h:Q (.exit id) S'):Uc V P n m Γ (.exit id) Q S :=
 fun Z ρ a w ha=>wp_exit ⟨S',Z,ρ,h,hk ▸ (ha.keep ts ids).co V S'⟩
theorem Aa0 {id:Nat} (h:Q (.exit id) S):Uc V P n m Γ (.exit id) Q S:=fun Z ρ a w ha=>wp_exit ⟨S,Z,ρ,h,ha⟩
theorem To (h:Q .ret S):Uc V P n m Γ .ret Q S:=fun Z ρ a w ha=>wp_ret ⟨S,Z,ρ,h,ha⟩
theorem Yc {c:Operand} {x y:Code} {b:Bool} (hc:S.get c=some (.cv (.lit (.bool b)))) (hb:b=true) (h:Uc V P n m Γ x Q S):Uc V P n m Γ (.cond c x y) Q S :=
 fun Z ρ a w ha=>by
  subst hb;exact wp_cond_true (Ua V.E (ha.get c _ hc)) (h Z ρ a w ha)
theorem V4 {c:Operand} {x y:Code} {b:Bool} (hc:S.get c=some (.cv (.lit (.bool b)))) (hb:b=false) (h:Uc V P n m Γ y Q S):Uc V P n m Γ (.cond c x y) Q S :=
 fun Z ρ a w ha=>by
  subst hb;exact wp_cond_false (Ua V.E (ha.get c _ hc)) (h Z ρ a w ha)
theorem Ts {id:Nat} {c:Code} (h:Uc V P n m Γ c (AIn id Q) S):Uc V P n m Γ (.block id c) Q S:=by
 intro Z ρ a w ha;refine wp_block (Code.wp_mono (fun e a' w' hq=>?_) (h Z ρ a w ha));obtain ⟨S',Z',ρ',hq,ha'⟩:=hq;cases e with
 | exit id' =>
  simp only [AIn] at hq;simp only [Exit.inBlock];split
  ·rename_i he; rw [if_pos he] at hq; exact ⟨S',Z',ρ',hq,ha'⟩
  ·rename_i he; rw [if_neg he] at hq; exact ⟨S',Z',ρ',hq,ha'⟩
 | _=>exact ⟨S',Z',ρ',hq,ha'⟩
theorem T4 {c:Code} (R:Nat→St T→Prop) (hr:∀ k S,R k S→Uc V P n m Γ c (Af3 (fun S'=>∃ k',k' < k∧R k' S') Q) S) {k:Nat} (h0:R k S):Uc V P n m Γ (.loop c) Q S:=by
 intro Z ρ a w ha b kk cs;have key:∀ k S Z ρ a w,R k S→Ul V n m Γ S Z ρ a w→∃ e a' w',(∃ S' Z' ρ',Q e S'∧Ul V n m Γ S' Z' ρ' a' w')∧Arrives P (lone (b.at a (.code c :: .inLoop c :: kk)) cs w) b kk cs e a' w':=by
  intro k
  induction k using Nat.strongRecOn with
  | _ k ih =>
   intro S Z ρ a w hR ha;obtain ⟨e,a₁,w₁,hq,harr⟩:=hr k S hR Z ρ a w ha b (.inLoop c :: kk) cs;obtain ⟨S',Z',ρ',hq,ha'⟩:=hq;cases e with
   | normal =>
    obtain ⟨k',hlt,hR'⟩:=hq;obtain ⟨e₂,a₂,w₂,hq₂,harr₂⟩:=ih k' hlt S' Z' ρ' a₁ w₁ hR' ha';exact ⟨e₂,a₂,w₂,hq₂,.of_steps (Steps.trans harr (.one step_inLoop)) harr₂⟩
   | exit id=>exact ⟨_,a₁,w₁,⟨S',Z',ρ',hq,ha'⟩,.pass (x:=.inLoop c) rfl (fun _ _=>.inl (by simp)) harr⟩
   | goto l=>exact ⟨_,a₁,w₁,⟨S',Z',ρ',hq,ha'⟩,.pass (x:=.inLoop c) rfl (fun _ _=>.inl (by simp)) harr⟩
   | ret=>exact ⟨_,a₁,w₁,⟨S',Z',ρ',hq,ha'⟩,.pass (x:=.inLoop c) rfl (fun _ _=>.inl (by simp)) harr⟩
   | panic ch=>exact ⟨_,a₁,w₁,⟨S',Z',ρ',hq,ha'⟩,.pass (x:=.inLoop c) rfl (fun _ _=>.inl (by simp)) harr⟩
   | outgrown=>exact ⟨_,a₁,w₁,⟨S',Z',ρ',hq,ha'⟩,.pass (x:=.inLoop c) rfl (fun _ _=>.inl (by simp)) harr⟩
 obtain ⟨e,a',w',hq,harr⟩:=key k S Z ρ a w h0 ha;exact ⟨e,a',w',hq,.of_steps (.one step_loop) harr⟩
def Zb (E:Uv T) (P:Program) (S:St T):ResultVar→Option (AV T)
 | .tmp t=>look t S.tmps
 | .cell t ty=>match look t S.tmps with
  | some (.cv (.ptr id off))=>match look id S.heap with
   | some (.raw cs)=>ld P ty cs off
   | _=>none
  | _=>none
def W8 (E:Uv T) (P:Program) (S:St T) (fn:Func):Option (AV T) :=
 match fn.results.toList with
 | []=>some (.tup [])
 | [r]=>Zb E P S r
 | [r1,r2]=>match Zb E P S r1,Zb E P S r2 with | some a,some b=>some (.tup [a,b]) | _,_=>none
 | [r1,r2,r3]=>match Zb E P S r1,Zb E P S r2,Zb E P S r3 with | some a,some b,some c=>some (.tup [a,b,c]) | _,_,_=>none
 | [r1,r2,r3,r4]=>match Zb E P S r1,Zb E P S r2,Zb E P S r3,Zb E P S r4 with | some a,some b,some c,some d=>some (.tup [a,b,c,d]) | _,_,_,_=>none
 | _=>none
def runV (tmps:Array Value):ResultVar→Sem Value
 | .tmp t=>pure (tmps.getD t undef)
 | .cell a t=>do loadVar t (← asAddr (tmps.getD a undef))
theorem U1 {r:ResultVar} {x:AV T} (h:Zb V.E P S r=some x) (ha:Ul V n m Γ S Z ρ a w):∃ v,(runV a.tmps r).run P w=.ok v w∧RA V.E w Z ρ x v:=by
 unfold Zb at h;split at h
 ·exact ⟨_,rfl,ha.tmps _ _ h⟩
 ·rename_i t ty;split at h
  ·rename_i id off hl;split at h
   ·rename_i cs hlk;have hx:=ha.tmps _ _ hl;generalize hv:a.tmps.getD t undef=v at hx;cases hx with | cv hx =>
    cases hx with
    | pure hx=>cases hx
    | @ptr _ _ b c hr =>
     have hb:=ha.blk _ _ hlk;rw [hr] at hb;obtain ⟨arr,e,h1,hsz,hrel⟩:=hb;obtain ⟨u,hu,hru⟩:=W4 V.E (w:=w) (Z:=Z) (ρ:=ρ) h ⟨b,0,none⟩ (fun j c hc=>by
      have hj:j < arr.size:=by rw [hsz]; exact (List.getElem?_eq_some_iff.1 hc).1
      exact ⟨arr[j],by rw [Uo,Nat.zero_add,Ux h1]; simp [hj],hrel j c _ hc (by simp [hj])⟩)
     rw [Uo,Nat.zero_add] at hu;exact ⟨u,by simp only [runV,hv,asAddr,Sem.run_bind,Sem.run_pure,Result.andThen]; exact hu,hru⟩
   ·cases h
  ·cases h
theorem arr3 {α:Type} {a:Array α} {x y z:α} (h:a.toList=[x,y,z]):a = #[x,y,z]:=by
 cases a; simp at h; subst h; rfl
theorem arr4 {α:Type} {a:Array α} {x y z u:α} (h:a.toList=[x,y,z,u]):a = #[x,y,z,u]:=by
 cases a; simp at h; subst h; rfl
theorem arr0 {α:Type} {a:Array α} (h:a.toList=[]):a = #[]:=by
 cases a; simp at h; subst h; rfl
theorem Adh (fn:Func) (tmps:Array Value):results fn tmps=(do let vs ← fn.results.mapM (runV tmps); pure (if h:vs.size=1 then vs[0] else .tuple vs)):=by
 unfold results
 congr 1
theorem RA.tup2 {E:Uv T} {x y:AV T} {u v:Value} (h1:RA E w Z ρ x u) (h2:RA E w Z ρ y v):RA E w Z ρ (.tup [x,y]) (.tuple #[u,v]) :=
 .tup rfl fun i c v hc hv=>by
  match i with
  | 0=>simp at hc hv; subst hc; subst hv; exact h1
  | 1=>simp at hc hv; subst hc; subst hv; exact h2
  | i+2=>simp at hc
theorem RA.tup3 {E:Uv T} {x y z:AV T} {u v q:Value} (h1:RA E w Z ρ x u) (h2:RA E w Z ρ y v) (h3:RA E w Z ρ z q):RA E w Z ρ (.tup [x,y,z]) (.tuple #[u,v,q]) :=
 .tup rfl fun i c v hc hv=>by
  match i with
  | 0=>simp at hc hv; subst hc; subst hv; exact h1
  | 1=>simp at hc hv; subst hc; subst hv; exact h2
  | 2=>simp at hc hv; subst hc; subst hv; exact h3
  | i+3=>simp at hc
theorem RA.tup4 {E:Uv T} {x y z t:AV T} {u v q p:Value} (h1:RA E w Z ρ x u) (h2:RA E w Z ρ y v) (h3:RA E w Z ρ z q) (h4:RA E w Z ρ t p):RA E w Z ρ (.tup [x,y,z,t]) (.tuple #[u,v,q,p]) :=
 .tup rfl fun i c v hc hv=>by
  match i with
  | 0=>simp at hc hv; subst hc; subst hv; exact h1
  | 1=>simp at hc hv; subst hc; subst hv; exact h2
  | 2=>simp at hc hv; subst hc; subst hv; exact h3
  | 3=>simp at hc hv; subst hc; subst hv; exact h4
  | i+4=>simp at hc
theorem Y5 {fn:Func} {x:AV T} (h:W8 V.E P S fn=some x) (ha:Ul V n m Γ S Z ρ a w):∃ v,(results fn a.tmps).run P w=.ok v w∧RA V.E w Z ρ x v:=by
 rw [Adh];unfold W8 at h;split at h
 ·rename_i hr;cases h;exact ⟨.tuple #[],by rw [arr0 hr]; simp,.tup rfl fun i c v hc=>by simp at hc⟩
 ·rename_i r hr;obtain ⟨v,e1,e2⟩:=U1 h ha;exact ⟨v,by rw [arr1 hr]; simp [e1],e2⟩
 ·rename_i r1 r2 hr;split at h
  ·rename_i x1 x2 h1 h2;cases h;obtain ⟨v1,e1,g1⟩:=U1 h1 ha;obtain ⟨v2,e2,g2⟩:=U1 h2 ha;exact ⟨.tuple #[v1,v2],by rw [Abu hr]; simp [e1,e2],RA.tup2 g1 g2⟩
  ·cases h
 ·rename_i r1 r2 r3 hr;split at h
  ·rename_i x1 x2 x3 h1 h2 h3;cases h;obtain ⟨v1,e1,g1⟩:=U1 h1 ha;obtain ⟨v2,e2,g2⟩:=U1 h2 ha;obtain ⟨v3,e3,g3⟩:=U1 h3 ha;exact ⟨.tuple #[v1,v2,v3],by rw [arr3 hr]; simp [e1,e2,e3],RA.tup3 g1 g2 g3⟩
  ·cases h
 ·rename_i r1 r2 r3 r4 hr;split at h
  ·rename_i x1 x2 x3 x4 h1 h2 h3 h4;cases h;obtain ⟨v1,e1,g1⟩:=U1 h1 ha;obtain ⟨v2,e2,g2⟩:=U1 h2 ha;obtain ⟨v3,e3,g3⟩:=U1 h3 ha;obtain ⟨v4,e4,g4⟩:=U1 h4 ha;exact ⟨.tuple #[v1,v2,v3,v4],by rw [arr4 hr]; simp [e1,e2,e3,e4],RA.tup4 g1 g2 g3 g4⟩
  ·cases h
 ·cases h
def T0:Nat→List (AV T)→List (Nat×AV T)
 | _,[]=>[]
 | i,v :: vs=>(i,v) :: T0 (i+1) vs
theorem Ww:∀ (vs:List (AV T)) (i t:Nat) (v:AV T),look t (T0 i vs)=some v→i≤t∧vs[t - i]? = some v
 | [],i,t,v,h=>by cases h
 | x :: vs,i,t,v,h=>by
  unfold T0 at h;rw [T6] at h;split at h
  ·subst_vars; cases h; simp
  ·obtain ⟨h1,h2⟩:=Ww vs (i+1) t v h;refine ⟨by omega,?_⟩;rw [show t - i=(t - (i+1))+1 from by omega];simpa using h2
end
end Go.Proofs.YtdgejpgbppfhmaaGreatDoor.Eng
namespace Go.Proofs.YtdgejpgbppfhmaaGreatDoor.Eng
open Go.RowKit (Below)
def Wa (acc:List Nat):List Edge→Nat
 | []=>0
 | e :: es=>bif Region.binds .any e then 2 ^ e.on ||| acc.getD e.on 0 ||| Wa acc es else Wa acc es
def Vw:List Oper→List Nat→List Nat
 | [],acc=>acc
 | o :: r,acc=>Vw r (acc++[Wa acc o.after.toList])
def bit (M:List Nat) (i j:Nat):Bool:=(M.getD i 0).testBit j
theorem Xc {acc:List Nat} {j:Nat}:∀ {es:List Edge},(Wa acc es).testBit j=true→∃ e∈es,Region.binds .any e=true∧(j=e.on∨(acc.getD e.on 0).testBit j=true)
 | [],h=>by simp [Wa] at h
 | e :: es,h=>by
  unfold Wa at h;cases hb:Region.binds .any e with
  | true =>
   rw [hb] at h;simp only [cond_true,Nat.testBit_or,Bool.or_eq_true] at h;rcases h with (h | h) | h
   ·rw [Nat.testBit_two_pow] at h;exact ⟨e,by simp,hb,.inl (of_decide_eq_true h).symm⟩
   ·exact ⟨e,by simp,hb,.inr h⟩
   ·obtain ⟨e',h1,h2,h3⟩:=Xc h;exact ⟨e',by simp [h1],h2,h3⟩
  | false =>
   rw [hb] at h;obtain ⟨e',h1,h2,h3⟩:=Xc h;exact ⟨e',by simp [h1],h2,h3⟩
theorem Acn:∀ (l:List Oper) (acc:List Nat),∃ more,Vw l acc=acc++more
 | [],acc=>⟨[],by simp [Vw]⟩
 | o :: r,acc=>by
  obtain ⟨more,h⟩:=Acn r (acc++[Wa acc o.after.toList]);exact ⟨[Wa acc o.after.toList]++more,by simp only [Vw]; rw [h]; simp⟩
theorem Ad5:∀ (l:List Oper) (acc:List Nat) (i:Nat) (o:Oper),l[i]? = some o→(Vw l acc)[acc.length+i]? = some (Wa ((Vw l acc).take (acc.length+i)) o.after.toList)
 | [],acc,i,o,h=>by simp at h
 | o' :: r,acc,i,o,h=>by
  cases i with
  | zero =>
   simp at h; subst h;obtain ⟨more,hm⟩:=Acn r (acc++[Wa acc o'.after.toList]);simp only [Vw,Nat.add_zero];rw [hm];rw [List.append_assoc,List.getElem?_append_right (Nat.le_refl _)];simp
  | succ i =>
   have:=Ad5 r (acc++[Wa acc o'.after.toList]) i o (by simpa using h)
   simp only [Vw];rw [List.length_append] at this;simp only [List.length_cons,List.length_nil] at this;rw [show acc.length+(i+1)=acc.length+(0+1)+i from by omega];exact this
def V3:Nat→List Oper→Bool
 | _,[]=>true
 | i,o :: r=>o.after.toList.all (fun e=>!Region.binds .any e || Nat.blt e.on i) && V3 (i+1) r
theorem Ve:∀ (l:List Oper) (k i:Nat) (o:Oper),V3 k l=true→l[i]? = some o→∀ e∈o.after,Region.binds .any e=true→e.on < k+i
 | [],k,i,o,h,ho=>by simp at ho
 | o' :: r,k,i,o,h,ho=>by
  simp only [V3,Bool.and_eq_true] at h;cases i with
  | zero =>
   simp at ho; subst ho;intro e he hb
   have:=List.all_eq_true.1 h.1 e (Array.mem_toList_iff.2 he)
   simp only [hb,Bool.not_true,Bool.false_or] at this;have h3:=Nat.le_of_ble_eq_true this;omega
  | succ i =>
   intro e he hb
   have:=Ve r (k+1) i o h.2 (by simpa using ho) e he hb
   omega
theorem Vo {ops:Array Oper} (hedges:V3 0 ops.toList=true) {listed:Nat→Bool} (hclosed:∀ i o,ops[i]? = some o→listed i=true→∀ e∈o.after,Region.binds .any e=true→listed e.on=true) :
  ∀ (i:Nat) (o:Oper),ops[i]? = some o→(∀ e∈o.after,Region.binds .any e=true→listed e.on=true)→∀ j,bit (Vw ops.toList []) i j=true→listed j=true:=by
 intro i
 induction i using Nat.strongRecOn with
 | _ i ih =>
  intro o ho hd j hj;have hat:=Ad5 ops.toList [] i o (by simpa using ho);simp only [List.length_nil,Nat.zero_add] at hat;unfold bit at hj;rw [List.getD,hat,Option.getD_some] at hj;obtain ⟨e,he,hb,h⟩:=Xc hj;have he':=Array.mem_toList_iff.1 he;have hlt:=Ve ops.toList 0 i o hedges (by simpa using ho) e he' hb;rcases h with rfl | h
  ·exact hd e he' hb
  ·rw [List.getD,List.getElem?_take,if_pos (by omega)] at h;have hsz:e.on < ops.size:=by
    have:=(Array.getElem?_eq_some_iff.1 ho).1; omega
   exact ih e.on (by omega) _ (Array.getElem?_eq_getElem hsz) (fun e2 he2 hb2=>hclosed e.on _ (Array.getElem?_eq_getElem hsz) (hd e he' hb) e2 he2 hb2) j (by unfold bit; rw [List.getD]; exact h)
def bld {α:Type} (listed:Nat→Bool) (f:Nat→Option (Nat×α)):Nat→List (Nat×α)
 | 0=>[]
 | n+1=>bif listed n then (match f n with | some p=>p :: bld listed f n | none=>bld listed f n) else bld listed f n
theorem U0 {α:Type} {listed:Nat→Bool} {f:Nat→Option (Nat×α)} {t:Nat} {v:α}:∀ {n:Nat},look t (bld listed f n)=some v→∃ i,i < n∧listed i=true∧f i=some (t,v)
 | 0,h=>by cases h
 | n+1,h=>by
  unfold bld at h;cases hl:listed n with
  | false =>
   rw [hl] at h;obtain ⟨i,h1,h2,h3⟩:=U0 h;exact ⟨i,by omega,h2,h3⟩
  | true =>
   rw [hl] at h;simp only [cond_true] at h;split at h
   ·rename_i p hp;obtain ⟨k,u⟩:=p;rw [T6] at h;split at h
    ·subst_vars; cases h; exact ⟨n,by omega,hl,hp⟩
    ·obtain ⟨i,h1,h2,h3⟩:=U0 h;exact ⟨i,by omega,h2,h3⟩
   ·obtain ⟨i,h1,h2,h3⟩:=U0 h;exact ⟨i,by omega,h2,h3⟩
theorem Wj {α:Type} {listed:Nat→Bool} {f:Nat→Option (Nat×α)} {t:Nat} {v:α} {i:Nat} (hf:f i=some (t,v)) (hl:listed i=true):∀ {n:Nat},i < n→(∀ j,j < n→j≠i→∀ u,f j≠some (t,u))→look t (bld listed f n)=some v
 | 0,h,_=>by omega
 | n+1,h,hd=>by
  unfold bld;by_cases hin:i=n
  ·subst hin;rw [hl,hf];simp only [cond_true];rw [T6,if_pos rfl]
  ·have ih:=Wj hf hl (n:=n) (by omega) (fun j hj hne=>hd j (by omega) hne);cases hln:listed n with
   | false=>exact ih
   | true =>
    simp only [cond_true];split
    ·rename_i p hp;obtain ⟨k,u⟩:=p;rw [T6,if_neg (fun e=>hd n (by omega) (fun e=>hin e.symm) u (by rw [e]; exact hp))];exact ih
    ·exact ih
theorem Wm {α:Type} {listed:Nat→Bool} {f:Nat→Option (Nat×α)} {t:Nat} {n:Nat} (h:∀ i,i < n→listed i=true→∀ u,f i≠some (t,u)):look t (bld listed f n)=none:=by
 cases hh:look t (bld listed f n) with
 | none=>rfl
 | some v =>
  obtain ⟨i,h1,h2,h3⟩:=U0 hh;exact absurd h3 (h i h1 h2 v)
theorem Uw {α:Type} (t:Nat):∀ (l r:List (Nat×α)),look t (l++r)=(look t l).or (look t r)
 | [],r=>by simp [look]
 |(s,v) :: l,r=>by
  simp only [List.cons_append,look];cases Nat.beq s t with
  | true=>rfl
  | false=>exact Uw t l r
section
variable {Tag:Type} {T:Tag→Type} (V:V6 T)
variable {P:Program} {n m:Nat} {Γ:Ue} {S:St T} {Z:Nat→Prop} {ρ:Nat→Option (Nat×Nat×Nat)} {a:Act} {w:World}
theorem Ul.congr {V:V6 T} {S':St T} (h:Ul V n m Γ S Z ρ a w) (ht:∀ t v,look t S'.tmps=some v→look t S.tmps=some v) (hh:∀ id b,look id S'.heap=some b→look id S.heap=some b):Ul V n m Γ S' Z ρ a w :=
 { h with
  tmps:=fun t v hv=>h.tmps t v (ht t v hv)
  own:=fun id blk b c hl hr=>h.own id blk b c (hh _ _ hl) hr
  inj:=fun id id' blk blk' b c c' h1 h2=>h.inj id id' blk blk' b c c' (hh _ _ h1) (hh _ _ h2)
  blk:=fun id blk hl=>h.blk id blk (hh _ _ hl) }
structure Xx (T:Tag→Type) where
 cs:List Prop
 dst:Option Tmp
 r:AV T
 B:Option (T9 T)
 W:Option (Nat×T9 T)
def evP (P:Program) (n m:Nat) (nid:Nat) (ops:Array Oper) (dec:Option Bool) (ora:Option (AV T)) (o:Oper) (S:St T):Option (Xx T) :=
 match evG ops o S with
 | none=>none
 | some false=>some ⟨[],o.dst,.tup [],none,none⟩
 | some true =>
  match ora with
  | some (.cv (.ron tg xs))=>match Zl V P S tg xs o with
   | some cs=>some ⟨cs,o.dst,.cv (.own tg nid),some (.lst tg xs),none⟩
   | none=>none
  | some r=>match Abp V P S r o with
   | some cs=>some ⟨cs,o.dst,r,none,none⟩
   | none=>none
  | none =>
   match evV V P S.heap S.get o with
   | some (cs,r)=>match dec with
    | none=>some ⟨cs,o.dst,r,none,none⟩
    | some b=>match r with
     | .cv (.lit (.bool x))=>some ⟨cs++[x=b],o.dst,.cv (.lit (.bool b)),none,none⟩
     | _=>none
   | none=>match evA V P nid S.get o with
    | some (ps,r,B)=>some ⟨ps,o.dst,r,B,none⟩
    | none=>none
theorem Aet (L:V.E.Law V.isB V.toB) {nid:Nat} {ops:Array Oper} {dec:Option Bool} {ora:Option (AV T)} {o:Oper} {R:Xx T}
  (h:evP V P n m nid ops dec ora o S=some R) (hcs:Us R.cs) (ha:Ul V n m Γ S Z ρ a w) {K:Act→World→Prop} {Q:Exit→Act→World→Prop}
  (hK:∀ v w' Z',Onto w w' Z Z'→R.B=none→RA V.E w' Z' ρ R.r v→K (a.put o.dst v) w')
  (hN:∀ v w' Z' bc B,Onto w w' Z Z'→(∀ b c,bc=some (b,c)→w.heap.size≤b∧b < w'.heap.size∧¬ Z' b)→R.B=some B→BR V.E w' Z' (Uy ρ nid bc) B bc→RA V.E w' Z' (Uy ρ nid bc) R.r v→K (a.put o.dst v) w') :
  R.dst=o.dst∧if Region.wanted o (yielded ops a.tmps)=true then o.wp P a w K Q else K (a.put o.dst undef) w:=by
 unfold evP at h;split at h
 ·cases h
 ·rename_i hg;rw [Vq V hg ha];cases h;refine ⟨rfl,?_⟩;simp only [Bool.false_eq_true,if_false];exact (hK _ _ Z (Onto.refl _ _) rfl (.tup (us:=#[]) rfl fun i c v hc=>by simp at hc))
 ·rename_i hg;rw [Vq V hg ha];simp only [if_true];split at h
  ·split at h
   ·rename_i tg xs _ cs0 hc;cases h;refine ⟨rfl,Xu V hc hcs ha fun v w' Z' ho hr=>?_⟩;rcases hr with ⟨rfl,hx⟩ |⟨b,cap,h1,h2,h3,rfl,hB⟩
    ·exact hN _ _ Z' none _ ho (fun _ _ h=>by cases h) rfl hx (.cv (.ownv (by unfold Uy; rw [if_pos rfl])))
    ·exact hN _ _ Z' (some (b,cap,xs.length)) _ ho (fun _ _ h=>by cases h; exact ⟨h1,h2,h3⟩) rfl hB (.cv (.own (by unfold Uy; rw [if_pos rfl])))
   ·cases h
  ·split at h
   ·rename_i cs0 hc;cases h;exact ⟨rfl,Yb V hc hcs ha fun v w' Z' ho hr=>hK _ _ Z' ho rfl hr⟩
   ·cases h
  ·split at h
   ·rename_i cs0 r hv;split at h
    ·cases h;obtain ⟨v,e1,e2⟩:=Xg V L hv hcs ha.glb ha.get ha.blk;exact ⟨rfl,U8 e1 (hK _ _ Z (Onto.refl _ _) rfl e2)⟩
    ·rename_i b;split at h
     ·rename_i x;cases h;obtain ⟨h1,h2⟩:=hcs.append;obtain ⟨v,e1,e2⟩:=Xg V L hv h1 ha.glb ha.get ha.blk;have hx:x=b:=h2;subst hx;exact ⟨rfl,U8 e1 (hK _ _ Z (Onto.refl _ _) rfl e2)⟩
     ·cases h
   ·split at h
    ·rename_i ps r B hA;cases h;have hs:=Yt V L (w:=w) (Z:=Z) (ρ:=ρ) hA hcs ha.get ha.Zlt;cases B with
     | none =>
      obtain ⟨v,w',e1,Z',ho,hr⟩:=hs;exact ⟨rfl,U8 e1 (hK _ _ Z' ho rfl hr)⟩
     | some B =>
      obtain ⟨v,w',e1,b,c,hb,h1,h2,hB,hr⟩:=hs;exact ⟨rfl,U8 e1 (hN _ _ Z (some (b,c)) B ⟨hb,fun _ h=>h,fun _ h=>.inl h⟩ (fun _ _ h=>by cases h; exact ⟨h1,h2,fun hz=>by have:=ha.Zlt _ hz; omega⟩) rfl hB hr)⟩
    ·cases h
theorem evP_W {nid:Nat} {ops:Array Oper} {dec:Option Bool} {ora:Option (AV T)} {o:Oper} {S:St T} {R:Xx T} (h:evP V P n m nid ops dec ora o S=some R):R.dst=o.dst∧R.W=none:=by
 unfold evP at h
 repeat' (split at h)
 all_goals first
  |(cases h; done)
  |(cases h; exact ⟨rfl,rfl⟩)
def evW (P:Program) (H:List (Nat×T9 T)) (t:TypeId) (x v:AV T):Option (List Prop×Nat×T9 T) :=
 match x with
 | .cv (.ptr id off)=>match Wg V P ⟨[],H⟩ t x v with
  | some (cs,S')=>match look id S'.heap with | some b=>some (cs,id,b) | none=>none
  | none=>none
 | .cv (.pel tg id ix off)=>match Wg V P ⟨[],H⟩ t x v with
  | some (cs,S')=>match look id S'.heap with | some b=>some (cs,id,b) | none=>none
  | none=>none
 | _=>none
theorem Ael {H:List (Nat×T9 T)} {t:TypeId} {x v:AV T} {cs:List Prop} {X:Nat} {blk:T9 T} (h:evW V P H t x v=some (cs,X,blk)) {S:St T} (hl:∀ b,look X H=some b→look X S.heap=some b):Wg V P S t x v=some (cs,S.new X blk):=by
 unfold evW at h;split at h
 ·rename_i id off;split at h
  ·rename_i cs' S' he;split at h
   ·rename_i b hb;cases h;unfold Wg at he ⊢;split at he
    ·rename_i id' off' news i hx hc hi;simp only [AV.cv.injEq,CV.ptr.injEq] at hx;obtain ⟨rfl,rfl⟩:=hx;split at he
     ·rename_i cells hcl;simp only [hc,hi,hl _ hcl];cases hk:(Nat.beq news.length i.size && Nat.ble (off+news.length) cells.length) with
      | false=>rw [hk] at he; cases he
      | true =>
       rw [hk] at he;cases he;simp only [St.new] at hb;rw [T6,if_pos rfl] at hb;cases hb;rfl
     ·cases he
    ·rename_i hx _ _; cases hx
    ·cases he
   ·cases h
  ·cases h
 ·rename_i tg id ix off;split at h
  ·rename_i cs' S' he;split at h
   ·rename_i b hb;cases h;unfold Wg at he ⊢;split at he
    ·rename_i hx _ _; cases hx
    ·rename_i tg' id' ix' off' news i hx hc hi;simp only [AV.cv.injEq,CV.pel.injEq] at hx;obtain ⟨rfl,rfl,rfl,rfl⟩:=hx;split at he
     ·rename_i tg2 xs hcl;simp only [hc,hi,hl _ hcl];split at he
      ·rename_i htg heq;cases hk:(Nat.beq news.length i.size && Nat.ble (off+news.length) (V.E.sz tg2)) with
       | false=>rw [hk] at he; cases he
       | true =>
        rw [hk] at he;simp only [cond_true] at he;split at he
        ·rename_i ps y hun;cases he;simp only [St.new] at hb;rw [T6,if_pos rfl] at hb;cases hb;simp only [hun,cond_true]
        ·cases he
      ·cases he
     ·cases he
    ·cases he
   ·cases h
  ·cases h
 ·cases h
def Afl (P:Program) (ops:Array Oper) (o:Oper) (S:St T) (Hs:List (Nat×T9 T)):Option (Xx T) :=
 match evG ops o S with
 | some true=>match o.op with
  | .store t x v=>match S.get x,S.get v with
   | some x,some v=>match evW V P Hs t x v with
    | some (cs,X,blk)=>some ⟨cs,o.dst,.tup [],none,some (X,blk)⟩
    | none=>none
   | _,_=>none
  | .convert s d x=>match S.get x with
   | some x=>match evFz V.E P Hs s d x with
    | some (cs,X,blk,r)=>some ⟨cs,o.dst,r,none,some (X,blk)⟩
    | none=>none
   | none=>none
  | _=>none
 | _=>none
end
end Go.Proofs.YtdgejpgbppfhmaaGreatDoor.Eng
namespace Go.Proofs.YtdgejpgbppfhmaaGreatDoor.Eng
open Go.RowKit (Below)
section
variable {Tag:Type} {T:Tag→Type} (V:V6 T)
variable {P:Program} {n m:Nat} {Γ:Ue} {S:St T} {Z:Nat→Prop} {ρ:Nat→Option (Nat×Nat×Nat)} {a:Act} {w:World}
def Aeo (P:Program) (n m:Nat) (ops:Array Oper) (base:Nat) (decs:List (Nat×Bool)) (oras:List (Nat×AV T)) (H Hs:List (Nat×T9 T)):Nat→List Oper→List (Nat×AV T)→List (Nat×T9 T)→Option (List (Xx T))
 | _,[],_,_=>some []
 | i,o :: rest,tm,nb=>match (match evP V P n m (base+i) ops (look i decs) (look i oras) o ⟨U4 (o.looksAt ops) tm,H⟩ with | some R=>some R | none=>Afl V P ops o ⟨U4 (o.looksAt ops) tm,H⟩ (nb++Hs)) with
  | some R=>match Aeo P n m ops base decs oras H Hs (i+1) rest (match R.dst with | some d=>(d,R.r) :: tm | none=>tm) (match R.B with | some B=>(base+i,B) :: nb | none=>nb) with
   | some Rs=>some (R :: Rs)
   | none=>none
  | none=>none
theorem Abb {ops:Array Oper} {base:Nat} {decs:List (Nat×Bool)} {oras:List (Nat×AV T)} {H Hs:List (Nat×T9 T)}:∀ (l:List Oper) (i0:Nat) (tm:List (Nat×AV T)) (nb:List (Nat×T9 T)) (Rs:List (Xx T)),
  Aeo V P n m ops base decs oras H Hs i0 l tm nb=some Rs→Rs.length=l.length∧∀ (i:Nat) o,l[i]? = some o→∃ R tm' nb',Rs[i]? = some R ∧
   (evP V P n m (base+(i0+i)) ops (look (i0+i) decs) (look (i0+i) oras) o ⟨U4 (o.looksAt ops) tm',H⟩=some R∨Afl V P ops o ⟨U4 (o.looksAt ops) tm',H⟩ (nb'++Hs)=some R) ∧
   (∀ t v,look t tm'=some v→(∃ j R',j < i∧Rs[j]? = some R'∧R'.dst=some t∧R'.r=v)∨(look t tm=some v∧∀ j R',j < i→Rs[j]? = some R'→R'.dst≠some t)) ∧
   (∀ id b,look id nb'=some b→(∃ j R',j < i∧Rs[j]? = some R'∧R'.B=some b∧id=base+(i0+j))∨look id nb=some b)
 | [],i0,tm,nb,Rs,h=>by cases h; exact ⟨rfl,fun i o ho=>by simp at ho⟩
 | o' :: rest,i0,tm,nb,Rs,h=>by
  unfold Aeo at h;generalize hgen:(match evP V P n m (base+i0) ops (look i0 decs) (look i0 oras) o' ⟨U4 (o'.looksAt ops) tm,H⟩ with | some R=>some R | none=>Afl V P ops o' ⟨U4 (o'.looksAt ops) tm,H⟩ (nb++Hs))=res at h;split at h
  ·rename_i R;have hR:evP V P n m (base+i0) ops (look i0 decs) (look i0 oras) o' ⟨U4 (o'.looksAt ops) tm,H⟩=some R∨Afl V P ops o' ⟨U4 (o'.looksAt ops) tm,H⟩ (nb++Hs)=some R:=by
    split at hgen
    ·rename_i R' hR'; cases hgen; exact .inl hR'
    ·exact .inr hgen
   split at h
   ·rename_i Rs' hRs;cases h;obtain ⟨h1,h2⟩:=Abb rest (i0+1) _ _ Rs' hRs;refine ⟨by simp [h1],fun i o ho=>?_⟩;cases i with
    | zero =>
     simp at ho; subst ho;exact ⟨R,tm,nb,rfl,hR,fun t v hv=>.inr ⟨hv,fun j R' hj=>by omega⟩,fun id b hb=>.inr hb⟩
    | succ i =>
     obtain ⟨R2,tm',nb',e1,e2,e3,e4⟩:=h2 i o (by simpa using ho);refine ⟨R2,tm',nb',by simpa using e1,by rw [show i0+(i+1)=i0+1+i from by omega]; exact e2,fun t v hv=>?_,fun id b hb=>?_⟩
     ·rcases e3 t v hv with ⟨j,R',g1,g2,g3,g4⟩ |⟨g1,g2⟩
      ·exact .inl ⟨j+1,R',by omega,by simpa using g2,g3,g4⟩
      ·have hne:R.dst≠some t→(look t tm=some v∧∀ j R',j < i+1→(R :: Rs')[j]? = some R'→R'.dst≠some t):=fun hd=>by
        refine ⟨?_,fun j R' hj hR'=>?_⟩
        ·cases hdd:R.dst with
         | none=>rw [hdd] at g1; exact g1
         | some d =>
          rw [hdd] at g1;simp only at g1;rw [T6,if_neg (fun e=>hd (by rw [hdd,e]))] at g1;exact g1
        ·cases j with
         | zero=>simp at hR'; subst hR'; exact hd
         | succ j=>exact g2 j R' (by omega) (by simpa using hR')
       by_cases hd:R.dst=some t
       ·left;rw [hd] at g1;simp only at g1;rw [T6,if_pos rfl] at g1;exact ⟨0,R,by omega,rfl,hd,by simpa using g1⟩
       ·exact .inr (hne hd)
     ·rcases e4 id b hb with ⟨j,R',g1,g2,g3,g4⟩ | g1
      ·exact .inl ⟨j+1,R',by omega,by simpa using g2,g3,by omega⟩
      ·cases hB:R.B with
       | none=>rw [hB] at g1; exact .inr g1
       | some B =>
        rw [hB] at g1;simp only at g1;rw [T6] at g1;split at g1
        ·cases g1; exact .inl ⟨0,R,by omega,rfl,hB,by omega⟩
        ·exact .inr g1
   ·cases h
  ·cases h
def Ac0 {α:Type}:List (Option Tmp)→List (Nat×α)→List (Nat×α)
 | [],l=>l
 | some d :: ds,l=>del d (Ac0 ds l)
 | none :: ds,l=>Ac0 ds l
theorem Xo {α:Type} (t:Nat):∀ (ds:List (Option Tmp)) (l:List (Nat×α)),look t (Ac0 ds l)=if some t∈ds then none else look t l
 | [],l=>by simp [Ac0]
 | some d :: ds,l=>by
  simp only [Ac0];rw [Uj,Xo t ds l];by_cases h:t=d
  ·subst h; simp
  ·have:¬ (some t=some d):=fun e=>h (by cases e; rfl)
   simp [h]
 | none :: ds,l=>by
  simp only [Ac0];rw [Xo t ds l];simp
theorem Ab3 {α:Type} (p:Nat×α→Bool) (t:Nat):∀ (l:List (Nat×α)),l.any p=false→(del t l).any p=false
 | [],h=>rfl
 |(s,v) :: l,h=>by
  simp only [List.any_cons,Bool.or_eq_false_iff] at h;unfold del;cases Nat.beq s t with
  | true=>exact Ab3 p t l h.2
  | false=>simp only [cond_false,List.any_cons,h.1,Ab3 p t l h.2,Bool.or_self]
theorem Aac {α:Type} (p:Nat×α→Bool):∀ (ds:List (Option Tmp)) (l:List (Nat×α)),l.any p=false→(Ac0 ds l).any p=false
 | [],l,h=>h
 | some d :: ds,l,h=>Ab3 p d _ (Aac p ds l h)
 | none :: ds,l,h=>Aac p ds l h
theorem Zj {α:Type} {p:Nat×α→Bool} {L:Nat→Bool} {f:Nat→Option (Nat×α)}:∀ {d:Nat},(∀ i,i < d→L i=true→∀ e,f i=some e→p e=false)→(bld L f d).any p=false
 | 0,_=>rfl
 | d+1,h=>by
  unfold bld;have ih:=Zj (d:=d) fun i hi=>h i (by omega)
  cases hl:L d with
  | false=>exact ih
  | true =>
   simp only [cond_true];split
   ·rename_i e he;simp only [List.any_cons,h d (by omega) hl e he,ih,Bool.or_self]
   ·exact ih
def Acu (n m base:Nat) (ops:Array Oper) (S:St T) (Rs:List (Xx T)) (M:List Nat) (wids:List Nat):Bool :=
 V3 0 ops.toList && Nat.ble Rs.length ops.size &&
 Rs.all (fun R=>Xw n R.dst) &&
 (Rs.zipIdx.all fun p=>Rs.zipIdx.all fun q=>Nat.beq p.2 q.2 ||(match p.1.dst,q.1.dst with | some x,some y=>!Nat.beq x y | _,_=>true)) &&
 ((ops.toList.take Rs.length).zipIdx.all fun p=>(p.1.looksAt ops).all fun t=>Rs.zipIdx.all fun q=>(match q.1.dst with | some y=>!Nat.beq y t ||(Nat.blt q.2 p.2 && bit M p.2 q.2) | none=>true)) &&
 (Rs.zipIdx.all fun q=>(match q.1.B with | none=>true | some _=>Nat.ble m (base+q.2) && !S.named (base+q.2) && (look (base+q.2) S.heap).isNone &&
  (Rs.zipIdx.all fun p=>Nat.beq p.2 q.2 || bit M p.2 q.2 ||(!p.1.r.names (base+q.2) && (match p.1.B with | some B=>!B.names (base+q.2) | none=>true) && (match p.1.W with | some (_,B)=>!B.names (base+q.2) | none=>true))))) &&
 ((List.range' Rs.length (ops.size - Rs.length)).all fun k=>(List.range Rs.length).all fun j=>bit M k j) &&
 (Rs.zipIdx.all fun q=>(match q.1.W with | none=>true | some (X,_)=>Uf X wids && q.1.B.isNone &&
  (Rs.zipIdx.all fun p=>Nat.beq p.2 q.2 ||(match p.1.W with | some (Y,_)=>!Nat.beq X Y | none=>true)) &&
  (Rs.zipIdx.all fun p=>(match p.1.B with | some _=>!Nat.beq X (base+p.2) || bit M q.2 p.2 | none=>true))))
def fT (Rs:List (Xx T)) (i:Nat):Option (Nat×AV T):=match Rs[i]? with | some R=>(match R.dst with | some d=>some (d,R.r) | none=>none) | none=>none
def fB (base:Nat) (Rs:List (Xx T)) (i:Nat):Option (Nat×T9 T):=match Rs[i]? with | some R=>(match R.B with | some B=>some (base+i,B) | none=>none) | none=>none
def fW (Rs:List (Xx T)) (i:Nat):Option (Nat×T9 T):=match Rs[i]? with | some R=>R.W | none=>none
def SE (base:Nat) (Rs:List (Xx T)) (S:St T) (L:Nat→Bool):St T :=
 ⟨bld L (fT Rs) Rs.length++Ac0 (Rs.map (·.dst)) S.tmps,bld L (fW Rs) Rs.length++(bld L (fB base Rs) Rs.length++S.heap)⟩
structure Vk (n m base:Nat) (ops:Array Oper) (S:St T) (Rs:List (Xx T)) (wids:List Nat):Prop where
 edges:V3 0 ops.toList=true
 len:Rs.length≤ops.size
 dst:∀ (i:Nat) (R:Xx T),Rs[i]? = some R→Xw n R.dst=true
 apart:∀ (i j:Nat) (R R':Xx T) (t:Nat),Rs[i]? = some R→Rs[j]? = some R'→R.dst=some t→R'.dst=some t→i=j
 reads:∀ (i:Nat) (o:Oper) (t:Nat) (j:Nat) (R:Xx T),i < Rs.length→ops[i]? = some o→t∈o.looksAt ops→Rs[j]? = some R→R.dst=some t→j < i∧bit (Vw ops.toList []) i j=true
 news:∀ (j:Nat) (R:Xx T) (B:T9 T),Rs[j]? = some R→R.B=some B→m≤base+j∧S.named (base+j)=false∧look (base+j) S.heap=none∧∀ (i:Nat) (R':Xx T),Rs[i]? = some R'→i≠j→bit (Vw ops.toList []) i j=false→R'.r.names (base+j)=false∧(∀ B',R'.B=some B'→B'.names (base+j)=false)∧∀ X B',R'.W=some (X,B')→B'.names (base+j)=false
 late:∀ k j,Rs.length≤k→k < ops.size→j < Rs.length→bit (Vw ops.toList []) k j=true
 wr:∀ (i:Nat) (R:Xx T) (X:Nat) (B:T9 T),Rs[i]? = some R→R.W=some (X,B)→X∈wids∧R.B=none∧(∀ (j:Nat) (R':Xx T) B',Rs[j]? = some R'→R'.W=some (X,B')→j=i) ∧
  ∀ (j:Nat) (R':Xx T) B',Rs[j]? = some R'→R'.B=some B'→X=base+j→bit (Vw ops.toList []) i j=true
theorem Aag {base:Nat} {ops:Array Oper} {Rs:List (Xx T)} {wids:List Nat} (h:Acu n m base ops S Rs (Vw ops.toList []) wids=true):Vk n m base ops S Rs wids:=by
 unfold Acu at h;simp only [Bool.and_eq_true] at h;obtain ⟨⟨⟨⟨⟨⟨⟨h1,h2⟩,h3⟩,h4⟩,h5⟩,h6⟩,h7⟩,h8⟩:=h;have zi:∀ {α:Type} {l:List α} {i:Nat} {x:α},l[i]? = some x→(x,i)∈l.zipIdx:=fun {α l i x} hx=>by
  rw [List.mem_iff_getElem?];exact ⟨i,by simp [hx]⟩
 have nb:∀ {i j:Nat},i≠j→Nat.beq i j=false:=fun {i j} hne=>by
  cases hh:Nat.beq i j with
  | false=>rfl
  | true=>exact absurd (Nat.eq_of_beq_eq_true hh) hne
 refine ⟨h1,Nat.le_of_ble_eq_true h2,fun i R hR=>List.all_eq_true.1 h3 R (List.mem_of_getElem? hR),?_,?_,?_,?_,?_⟩
 ·intro i j R R' t hi hj hd hd'
  have:=List.all_eq_true.1 (List.all_eq_true.1 h4 _ (zi hi)) _ (zi hj)
  simp only [hd,hd',Bool.or_eq_true] at this;rcases this with e | e
  ·exact Nat.eq_of_beq_eq_true e
  ·simp at e
 ·intro i o t j R hi ho ht hj hd;have ho':(ops.toList.take Rs.length)[i]? = some o:=by rw [List.getElem?_take,if_pos hi]; simpa using ho
  have:=List.all_eq_true.1 (List.all_eq_true.1 (List.all_eq_true.1 h5 _ (zi ho')) t ht) _ (zi hj)
  simp only [hd,Nat.beq_refl,Bool.not_true,Bool.false_or,Bool.and_eq_true] at this;exact ⟨Nat.le_of_ble_eq_true this.1,this.2⟩
 ·intro j R B hj hB
  have:=List.all_eq_true.1 h6 _ (zi hj)
  simp only [hB,Bool.and_eq_true,Bool.not_eq_true',Option.isNone_iff_eq_none] at this;obtain ⟨⟨⟨g1,g2⟩,g0⟩,g3⟩:=this;refine ⟨Nat.le_of_ble_eq_true g1,g2,g0,fun i R' hi hne hb=>?_⟩
  have:=List.all_eq_true.1 g3 _ (zi hi)
  simp only [nb hne,hb,Bool.false_or,Bool.and_eq_true,Bool.not_eq_true'] at this;refine ⟨this.1.1,fun B' hB'=>?_,fun X B' hW=>?_⟩
  ·have h2:=this.1.2;rw [hB'] at h2;simpa using h2
  ·have h2:=this.2;rw [hW] at h2;simpa using h2
 ·intro k j hk hk' hj;exact List.all_eq_true.1 (List.all_eq_true.1 h7 k (by simp [List.mem_range']; exact ⟨k - Rs.length,by omega,by omega⟩)) j (by simpa using hj)
 ·intro i R X B hi hW
  have:=List.all_eq_true.1 h8 _ (zi hi)
  simp only [hW,Bool.and_eq_true,Option.isNone_iff_eq_none] at this;obtain ⟨⟨⟨g1,g2⟩,g3⟩,g4⟩:=this;refine ⟨U9 g1,g2,fun j R' B' hj hW'=>?_,fun j R' B' hj hB' hX=>?_⟩
  ·have:=List.all_eq_true.1 g3 _ (zi hj)
   simp only [hW',Bool.or_eq_true] at this;rcases this with e | e
   ·exact Nat.eq_of_beq_eq_true e
   ·simp at e
  ·have:=List.all_eq_true.1 g4 _ (zi hj)
   simp only [hB',Bool.or_eq_true] at this;rcases this with e | e
   ·rw [hX] at e; simp at e
   ·exact e
def Aee (ops:Array Oper) (d:Nat):Bool:=(List.range' d (ops.size - d)).all fun k=>decide (Region.ready .any ops ((Array.range ops.size).map (Nat.blt · k))=[k])
theorem Aak {ops:Array Oper} {d:Nat} (h:Aee ops d=true):∀ k,d≤k→k < ops.size→Region.ready .any ops ((Array.range ops.size).map (Nat.blt · k))=[k]:=fun k hk hk' =>
 of_decide_eq_true (List.all_eq_true.1 h k (by simp [List.mem_range']; exact ⟨k - d,by omega,by omega⟩))
end
end Go.Proofs.YtdgejpgbppfhmaaGreatDoor.Eng
namespace Go.Proofs.YtdgejpgbppfhmaaGreatDoor.Eng
open Go.RowKit (Below)
section
variable {Tag:Type} {T:Tag→Type} (V:V6 T)
variable {P:Program} {n m:Nat} {Γ:Ue} {S:St T} {Z:Nat→Prop} {ρ:Nat→Option (Nat×Nat×Nat)} {a:Act} {w:World}
theorem Wb {α:Type} (t:Nat):∀ (ts:List Nat) (l:List (Nat×α)) (v:α),look t (U4 ts l)=some v→t∈ts
 | [],l,v,h=>by cases h
 | s :: ts,l,v,h=>by
  unfold U4 at h;split at h
  ·rw [T6] at h;split at h
   ·subst_vars; simp
   ·exact List.mem_cons_of_mem _ (Wb t ts l v h)
  ·exact List.mem_cons_of_mem _ (Wb t ts l v h)
theorem X8 {Rs:List (Xx T)} {i t:Nat} {v:AV T}:fT Rs i=some (t,v)↔∃ R,Rs[i]? = some R∧R.dst=some t∧R.r=v:=by
 unfold fT;constructor
 ·intro h;split at h
  ·rename_i R hR;split at h
   ·rename_i d hd; cases h; exact ⟨R,hR,hd,rfl⟩
   ·cases h
  ·cases h
 ·rintro ⟨R,h1,h2,h3⟩;rw [h1]; simp [h2,h3]
theorem Ym {base:Nat} {Rs:List (Xx T)} {i t:Nat} {B:T9 T}:fB base Rs i=some (t,B)↔∃ R,Rs[i]? = some R∧R.B=some B∧t=base+i:=by
 unfold fB;constructor
 ·intro h;split at h
  ·rename_i R hR;split at h
   ·rename_i B' hB; cases h; exact ⟨R,hR,hB,rfl⟩
   ·cases h
  ·cases h
 ·rintro ⟨R,h1,h2,h3⟩;rw [h1]; simp [h2,h3]
theorem Xn {Rs:List (Xx T)} {i t:Nat} {B:T9 T}:fW Rs i=some (t,B)↔∃ R,Rs[i]? = some R∧R.W=some (t,B):=by
 unfold fW;constructor
 ·intro h;split at h
  ·rename_i R hR; exact ⟨R,hR,h⟩
  ·cases h
 ·rintro ⟨R,h1,h2⟩;rw [h1]; exact h2
variable {base:Nat} {ops:Array Oper} {Rs:List (Xx T)} {wids:List Nat}
theorem Ack {α:Type} {L:Nat→Bool} {f:Nat→Option (Nat×α)} {t:Nat}:∀ {n:Nat},look t (bld L f n)=none→∀ i,i < n→L i=true→∀ p,f i=some p→p.1≠t
 | 0,_,i,hi=>by omega
 | n+1,h,i,hi=>by
  intro hl p hp he;unfold bld at h;by_cases hin:i=n
  ·subst hin;rw [hl] at h;simp only [cond_true,hp] at h;obtain ⟨s,v⟩:=p;simp only at he;subst he;rw [T6,if_pos rfl] at h;cases h
  ·have hrec:look t (bld L f n)=none:=by
    cases hL:L n with
    | false=>rw [hL] at h; exact h
    | true =>
     rw [hL] at h;simp only [cond_true] at h;split at h
     ·rename_i q hq;obtain ⟨s,v⟩:=q;rw [T6] at h;split at h
      ·cases h
      ·exact h
     ·exact h
   exact Ack hrec i (by omega) hl p hp he
theorem Vn {L:Nat→Bool} (hf:Vk n m base ops S Rs wids) {t:Nat} {v:AV T} :
  (∃ i R,L i=true∧Rs[i]? = some R∧R.dst=some t∧R.r=v)∨(look t S.tmps=some v∧∀ (i:Nat) R,Rs[i]? = some R→R.dst≠some t)→look t (SE base Rs S L).tmps=some v:=by
 intro h;unfold SE;simp only;rw [Uw];rcases h with ⟨i,R,h1,h2,h3,h4⟩ |⟨h1,h2⟩
 ·rw [Wj (i:=i) (X8.2 ⟨R,h2,h3,h4⟩) h1 (List.getElem?_eq_some_iff.1 h2).1 (fun j hj hne u hu=>by
   obtain ⟨R',g1,g2,g3⟩:=X8.1 hu;exact hne (hf.apart j i R' R t g1 h2 g2 h3))]
  rfl
 ·rw [Wm (fun i hi hl u hu=>by
   obtain ⟨R',g1,g2,g3⟩:=X8.1 hu;exact h2 i R' g1 g2),Xo,if_neg (fun hm=>by
   obtain ⟨R',g1,g2⟩:=List.mem_map.1 hm;obtain ⟨i,hi⟩:=List.mem_iff_getElem?.1 g1;exact h2 i R' hi g2)]
  simpa using h1
theorem Acb {L:Nat→Bool} {t:Nat} {v:AV T} (h:look t (SE base Rs S L).tmps=some v) :
  (∃ i R,L i=true∧Rs[i]? = some R∧R.dst=some t∧R.r=v)∨(look t S.tmps=some v∧∀ (i:Nat) R,Rs[i]? = some R→R.dst≠some t):=by
 unfold SE at h;simp only at h;rw [Uw] at h;cases hb:look t (bld L (fT Rs) Rs.length) with
 | some u =>
  rw [hb] at h;simp at h;subst h;obtain ⟨i,h1,h2,h3⟩:=U0 hb;obtain ⟨R,g1,g2,g3⟩:=X8.1 h3;exact .inl ⟨i,R,h2,g1,g2,g3⟩
 | none =>
  rw [hb] at h;simp only [Option.none_or] at h;rw [Xo] at h;split at h
  ·cases h
  ·rename_i hm;exact .inr ⟨h,fun i R hi hd=>hm (List.mem_map.2 ⟨R,List.mem_of_getElem? hi,hd⟩)⟩
theorem Up {L:Nat→Bool} (hf:Vk n m base ops S Rs wids) {t:Nat} {B:T9 T} :
  (∃ i R,L i=true∧Rs[i]? = some R∧R.W=some (t,B))∨((∀ (i:Nat) R B',L i=true→Rs[i]? = some R→R.W≠some (t,B'))∧((∃ i R,L i=true∧Rs[i]? = some R∧R.B=some B∧t=base+i)∨look t S.heap=some B))→look t (SE base Rs S L).heap=some B:=by
 intro h;unfold SE;simp only;rw [Uw];rcases h with ⟨i,R,h1,h2,h3⟩ |⟨hw,h⟩
 ·rw [Wj (i:=i) (Xn.2 ⟨R,h2,h3⟩) h1 (List.getElem?_eq_some_iff.1 h2).1 (fun j hj hne u hu=>by
   obtain ⟨R',g1,g2⟩:=Xn.1 hu;exact hne ((hf.wr i R t B h2 h3).2.2.1 j R' u g1 g2))]
  rfl
 ·rw [Wm (fun i hi hl u hu=>by
   obtain ⟨R',g1,g2⟩:=Xn.1 hu;exact hw i R' u hl g1 g2)]
  simp only [Option.none_or];rw [Uw];rcases h with ⟨i,R,h1,h2,h3,h4⟩ | h1
  ·rw [Wj (i:=i) (Ym.2 ⟨R,h2,h3,h4⟩) h1 (List.getElem?_eq_some_iff.1 h2).1 (fun j hj hne u hu=>by
    obtain ⟨R',g1,g2,g3⟩:=Ym.1 hu;omega)]
   rfl
  ·rw [Wm (fun i hi hl u hu=>by
    obtain ⟨R',g1,g2,g3⟩:=Ym.1 hu
    have:=(hf.news i R' u g1 g2).2.2.1
    rw [← g3,h1] at this;cases this)]
   simpa using h1
theorem X5 {L:Nat→Bool} {t:Nat} {B:T9 T} (h:look t (SE base Rs S L).heap=some B) :
  (∃ i R,L i=true∧Rs[i]? = some R∧R.W=some (t,B))∨((∀ (i:Nat) R B',i < Rs.length→L i=true→Rs[i]? = some R→R.W≠some (t,B'))∧((∃ i R,L i=true∧Rs[i]? = some R∧R.B=some B∧t=base+i)∨look t S.heap=some B)):=by
 unfold SE at h;simp only at h;rw [Uw] at h;cases hw:look t (bld L (fW Rs) Rs.length) with
 | some u =>
  rw [hw] at h;simp at h;subst h;obtain ⟨i,h1,h2,h3⟩:=U0 hw;obtain ⟨R,g1,g2⟩:=Xn.1 h3;exact .inl ⟨i,R,h2,g1,g2⟩
 | none =>
  rw [hw] at h;simp only [Option.none_or] at h;refine .inr ⟨fun i R B' hi hl hR hW=>?_,?_⟩
  ·have:=Ack hw i hi hl
   exact this (t,B') (Xn.2 ⟨R,hR,hW⟩) rfl
  ·rw [Uw] at h;cases hb:look t (bld L (fB base Rs) Rs.length) with
   | some u =>
    rw [hb] at h;simp at h;subst h;obtain ⟨i,h1,h2,h3⟩:=U0 hb;obtain ⟨R,g1,g2,g3⟩:=Ym.1 h3;exact .inl ⟨i,R,h2,g1,g2,g3⟩
   | none =>
    rw [hb] at h;exact .inr (by simpa using h)
def Aev (S:St T) (id:Nat):Option (T9 T)→St T
 | none=>S
 | some B=>S.new id B
theorem Aen (S:St T) (id:Nat) (B:Option (T9 T)):(Aev S id B).tmps=S.tmps:=by cases B <;> rfl
theorem Acz (S:St T) (d:Option Tmp) (r:AV T):(S.put d r).heap=S.heap:=by cases d <;> rfl
theorem Yi (hf:Vk n m base ops S Rs wids) {L:Nat→Bool} {i:Nat} {R:Xx T} (hR:Rs[i]? = some R) {S':St T} (hS':S'.tmps=(SE base Rs S L).tmps) (t:Nat) (v:AV T)
  (h:look t (SE base Rs S (fun k=>if k=i then true else L k)).tmps=some v):look t (S'.put R.dst R.r).tmps=some v:=by
 have hput:look t (S'.put R.dst R.r).tmps=if R.dst=some t then some R.r else look t S'.tmps:=by
  cases hd:R.dst with
  | none=>simp [St.put]
  | some d =>
   simp only [St.put];rw [T6];by_cases ht:t=d
   ·subst ht; simp
   ·rw [if_neg ht,Uj,if_neg ht,if_neg (fun e=>ht (by cases e; rfl))]
 rw [hput,hS'];rcases Acb h with ⟨j,R',h1,h2,h3,h4⟩ |⟨h1,h2⟩
 ·by_cases hj:j=i
  ·subst hj;rw [hR] at h2; cases h2;rw [if_pos h3,h4]
  ·rw [if_neg hj] at h1;rw [if_neg (fun e=>hj (hf.apart j i R' R t h2 hR h3 e))];exact Vn hf (.inl ⟨j,R',h1,h2,h3,h4⟩)
 ·rw [if_neg (h2 i R hR)];exact Vn hf (.inr ⟨h1,h2⟩)
theorem Afx (hf:Vk n m base ops S Rs wids) {L:Nat→Bool} {i:Nat} {R:Xx T} (hR:Rs[i]? = some R) (hW:R.W=none) (hLi:∀ (j:Nat) R' B,Rs[j]? = some R'→R'.W=some (base+i,B)→R.B≠none→L j=false) :
  (∀ t v,look t (SE base Rs S (fun k=>if k=i then true else L k)).tmps=some v→look t ((Aev (SE base Rs S L) (base+i) R.B).put R.dst R.r).tmps=some v) ∧
  (∀ id b,look id (SE base Rs S (fun k=>if k=i then true else L k)).heap=some b→look id ((Aev (SE base Rs S L) (base+i) R.B).put R.dst R.r).heap=some b):=by
 refine ⟨Yi hf hR (Aen _ _ _),?_⟩;intro id b h;rw [Acz];have hno:∀ (j:Nat) R' B',L j=true→(∀ (i':Nat) R B',i' < Rs.length→(if i'=i then true else L i')=true→Rs[i']? = some R→R.W≠some (id,B'))→Rs[j]? = some R'→R'.W≠some (id,B'):=fun j R' B' hl hn hR'=>by
  refine hn j R' B' (List.getElem?_eq_some_iff.1 hR').1 ?_ hR';split
  ·rfl
  ·exact hl
 cases hB:R.B with
 | none =>
  simp only [Aev];rcases X5 h with ⟨j,R',h1,h2,h3⟩ |⟨hn,⟨j,R',h1,h2,h3,h4⟩ | h1⟩
  ·by_cases hj:j=i
   ·subst hj; rw [hR] at h2; cases h2; rw [hW] at h3; cases h3
   ·rw [if_neg hj] at h1;exact Up hf (.inl ⟨j,R',h1,h2,h3⟩)
  ·by_cases hj:j=i
   ·subst hj; rw [hR] at h2; cases h2; rw [hB] at h3; cases h3
   ·rw [if_neg hj] at h1;exact Up hf (.inr ⟨fun k R' B' hl hR'=>hno k R' B' hl hn hR',.inl ⟨j,R',h1,h2,h3,h4⟩⟩)
  ·exact Up hf (.inr ⟨fun k R' B' hl hR'=>hno k R' B' hl hn hR',.inr h1⟩)
 | some B =>
  simp only [Aev,St.new];rw [T6];rcases X5 h with ⟨j,R',h1,h2,h3⟩ |⟨hn,⟨j,R',h1,h2,h3,h4⟩ | h1⟩
  ·have hj:j≠i:=fun e=>by subst e; rw [hR] at h2; cases h2; rw [hW] at h3; cases h3
   rw [if_neg hj] at h1;by_cases hid:id=base+i
   ·subst hid
    have:=hLi j R' b h2 h3 (by rw [hB]; simp)
    rw [this] at h1; cases h1
   ·rw [if_neg hid,Uj,if_neg hid];exact Up hf (.inl ⟨j,R',h1,h2,h3⟩)
  ·by_cases hj:j=i
   ·subst hj; rw [hR] at h2; cases h2; rw [hB] at h3; cases h3;rw [if_pos h4]
   ·rw [if_neg hj] at h1;rw [if_neg (by omega),Uj,if_neg (by omega)];exact Up hf (.inr ⟨fun k R' B' hl hR'=>hno k R' B' hl hn hR',.inl ⟨j,R',h1,h2,h3,h4⟩⟩)
  ·by_cases hid:id=base+i
   ·have:=(hf.news i R B hR hB).2.2.1
    rw [← hid,h1] at this;cases this
   ·rw [if_neg hid,Uj,if_neg hid];exact Up hf (.inr ⟨fun k R' B' hl hR'=>hno k R' B' hl hn hR',.inr h1⟩)
theorem Acg (hf:Vk n m base ops S Rs wids) {L:Nat→Bool} {i:Nat} {R:Xx T} {X:Nat} {blk:T9 T} (hR:Rs[i]? = some R) (hW:R.W=some (X,blk)) :
  (∀ t v,look t (SE base Rs S (fun k=>if k=i then true else L k)).tmps=some v→look t (((SE base Rs S L).new X blk).put R.dst R.r).tmps=some v) ∧
  (∀ id b,look id (SE base Rs S (fun k=>if k=i then true else L k)).heap=some b→look id (((SE base Rs S L).new X blk).put R.dst R.r).heap=some b):=by
 refine ⟨Yi hf hR rfl,?_⟩;intro id b h;rw [Acz];simp only [St.new];rw [T6];have hB:=(hf.wr i R X blk hR hW).2.1;have hno:∀ (j:Nat) R' B',L j=true→(∀ (i':Nat) R B',i' < Rs.length→(if i'=i then true else L i')=true→Rs[i']? = some R→R.W≠some (id,B'))→Rs[j]? = some R'→R'.W≠some (id,B'):=fun j R' B' hl hn hR'=>by
  refine hn j R' B' (List.getElem?_eq_some_iff.1 hR').1 ?_ hR';split
  ·rfl
  ·exact hl
 rcases X5 h with ⟨j,R',h1,h2,h3⟩ |⟨hn,h4⟩
 ·by_cases hj:j=i
  ·subst hj; rw [hR] at h2; cases h2; rw [hW] at h3; cases h3;rw [if_pos rfl]
  ·rw [if_neg hj] at h1;by_cases hid:id=X
   ·subst hid;exact absurd ((hf.wr i R id blk hR hW).2.2.1 j R' b h2 h3) hj
   ·rw [if_neg hid,Uj,if_neg hid];exact Up hf (.inl ⟨j,R',h1,h2,h3⟩)
 ·have hid:id≠X:=fun e=>by
   subst e;exact hn i R blk (List.getElem?_eq_some_iff.1 hR).1 (by simp) hR hW
  rw [if_neg hid,Uj,if_neg hid];refine Up hf (.inr ⟨fun k R' B' hl hR'=>hno k R' B' hl hn hR',?_⟩);rcases h4 with ⟨j,R',h1,h2,h3,h5⟩ | h1
  ·have hj:j≠i:=fun e=>by subst e; rw [hR] at h2; cases h2; rw [hB] at h3; cases h3
   rw [if_neg hj] at h1;exact .inl ⟨j,R',h1,h2,h3,h5⟩
  ·exact .inr h1
theorem Abj (L:V.E.Law V.isB V.toB) {decs:List (Nat×Bool)} {oras:List (Nat×AV T)} {effs:List (Nat×Ut T)} {Q:Exit→Act→World→Prop} (d:Nat) (hseq:∀ k,d≤k→k < ops.size→Region.ready .any ops ((Array.range ops.size).map (Nat.blt · k))=[k]) :
  ∀ (j k:Nat),j+k=ops.size→d≤k→∀ (S:St T) (Z:Nat→Prop) (ρ:Nat→Option (Nat×Nat×Nat)) (a:Act) (w:World) (cs:List Prop) (S2:St T),U3 V P n m ops base decs oras effs k (ops.toList.drop k) S=some (cs,S2)→Us cs→Ul V n m Γ S Z ρ a w →
   (∀ a' w' Z' ρ',Ul V n m Γ S2 Z' ρ' a' w'→Q .normal a' w')→wpAny P .any ops Q j ((Array.range ops.size).map (Nat.blt · k)) a w:=by
 intro j
 induction j with
 | zero =>
  intro k hk hd S Z ρ a w cs S2 he hcs ha hQ
  have:ops.toList.drop k=[]:=List.drop_eq_nil_of_le (by simp; omega)
  rw [this] at he;cases he;refine ⟨?_,hQ _ _ _ _ ha⟩;unfold Region.ready;rw [List.filter_eq_nil_iff];intro i hi;simp only [List.mem_range] at hi
  have:((Array.range ops.size).map (Nat.blt · k)).getD i true=true:=by
   rw [Array.getD_eq_getD_getElem?];simp [hi];omega
  simp [this]
 | succ j ih =>
  intro k hk hd S Z ρ a w cs S2 he hcs ha hQ;have hlt:k < ops.size:=by omega
  have hr:=hseq k hd hlt;refine ⟨fun h=>(by rw [hr] at h; cases h),fun i hi=>?_⟩;rw [hr] at hi;simp at hi;subst hi;have hdrop:ops.toList.drop i=ops[i] :: ops.toList.drop (i+1):=by
   rw [List.drop_eq_getElem_cons (by simpa using hlt)];simp
  rw [hdrop] at he;unfold U3 at he;split at he
  ·rename_i cs1 S1 h1;split at he
   ·rename_i cs2 S3 h2;cases he;obtain ⟨hc1,hc2⟩:=hcs.append;have hpre:((Array.range ops.size).map (Nat.blt · i)).setIfInBounds i true=(Array.range ops.size).map (Nat.blt · (i+1)):=by
     apply Array.ext_getElem?;intro p;rw [Array.getElem?_setIfInBounds];by_cases hp:i=p
     ·subst hp;have hb:Nat.blt i (i+1)=true:=Nat.ble_eq_true_of_le (by omega);simp [hlt]
     ·rw [if_neg hp];by_cases hps:p < ops.size
      ·have hb:Nat.blt p i=Nat.blt p (i+1):=by
        cases hb:Nat.blt p i with
        | true=>exact (Nat.ble_eq_true_of_le (by have:=Nat.le_of_ble_eq_true hb; omega)).symm
        | false =>
         cases hb':Nat.blt p (i+1) with
         | false=>rfl
         | true =>
          have h3:=Nat.le_of_ble_eq_true hb'
          have:Nat.blt p i=true:=Nat.ble_eq_true_of_le (by omega)
          rw [hb] at this; cases this
       simp [hps,hb]
      ·simp [hps]
    have:=V8 V L (K:=wpAny P .any ops Q j (((Array.range ops.size).map (Nat.blt · i)).setIfInBounds i true)) (Q:=Q) h1 hc1 ha fun a' w' Z' ρ' ha'=>by
     rw [hpre];exact ih (i+1) (by omega) (by omega) S1 Z' ρ' a' w' cs2 S2 h2 hc2 ha' hQ
    unfold wpOp;rw [Array.getElem?_eq_getElem hlt];simp only;split
    ·rename_i hw; rw [if_pos hw] at this; exact .inl this
    ·rename_i hw; rw [if_neg hw] at this; exact this
   ·cases he
  ·cases he
theorem Abh:∀ (l:List Bool) (i:Nat),l[i]? = some false→((l.set i true).filter (!·)).length+1=(l.filter (!·)).length
 | [],i,h=>by simp at h
 | b :: l,0,h=>by simp at h; subst h; simp
 | b :: l,i+1,h=>by
  have:=Abh l i (by simpa using h)
  cases b <;> simp [List.filter_cons] <;> simpa using this
theorem Ad4 {nid:Nat} {ops:Array Oper} {dec:Option Bool} {ora:Option (AV T)} {o:Oper} {S:St T} {R:Xx T} (h:evP V P n m nid ops dec ora o S=some R):R.dst=o.dst:=by
 unfold evP at h
 repeat' (split at h)
 all_goals first
  |(cases h; done)
  |(cases h; rfl)
theorem Aed {L:Nat→Bool} (hf:Vk n m base ops S Rs wids) (hall:∀ i,i < Rs.length→L i=true) {Z:Nat→Prop} {ρ:Nat→Option (Nat×Nat×Nat)} {a:Act} {w:World} (ha:Ul V n m Γ (SE base Rs S L) Z ρ a w):Ul V n m Γ (SE base Rs S (fun _=>true)) Z ρ a w:=by
 have lt:∀ {i:Nat} {R:Xx T},Rs[i]? = some R→i < Rs.length:=fun h=>(List.getElem?_eq_some_iff.1 h).1
 refine ha.congr (fun t v h=>?_) (fun id b h=>?_)
 ·rcases Acb h with ⟨i,R,_,h2,h3,h4⟩ | h1
  ·exact Vn hf (.inl ⟨i,R,hall i (lt h2),h2,h3,h4⟩)
  ·exact Vn hf (.inr h1)
 ·rcases X5 h with ⟨i,R,_,h2,h3⟩ |⟨hn,h1⟩
  ·exact Up hf (.inl ⟨i,R,hall i (lt h2),h2,h3⟩)
  ·refine Up hf (.inr ⟨fun i R B' _ hR=>hn i R B' (lt hR) rfl hR,?_⟩);rcases h1 with ⟨i,R,_,h2,h3,h4⟩ | h1
   ·exact .inl ⟨i,R,hall i (lt h2),h2,h3,h4⟩
   ·exact .inr h1
theorem Aex (L:V.E.Law V.isB V.toB) {decs:List (Nat×Bool)} {oras:List (Nat×AV T)} {effs:List (Nat×Ut T)} {Q:Exit→Act→World→Prop} (hf:Vk n m base ops S Rs wids)
  (hRs:Aeo V P n m ops base decs oras (Ab6 wids S.heap) S.heap 0 (ops.toList.take Rs.length) S.tmps []=some Rs) (hcs:∀ R∈Rs,Us R.cs)
  (hrest:∀ a w Z ρ,Ul V n m Γ (SE base Rs S (fun _=>true)) Z ρ a w→wpAny P .any ops Q (ops.size - Rs.length) ((Array.range ops.size).map (Nat.blt · Rs.length)) a w) :
  ∀ (fuel:Nat) (listed:Array Bool) (a:Act) (w:World) (Z:Nat→Prop) (ρ:Nat→Option (Nat×Nat×Nat)),listed.size=ops.size→(listed.toList.filter (!·)).length=fuel →
   (∀ i o,ops[i]? = some o→listed.getD i false=true→∀ e∈o.after,Region.binds .any e=true→listed.getD e.on false=true) →
   (∀ k,Rs.length≤k→listed.getD k false=false)→Ul V n m Γ (SE base Rs S (fun i=>listed.getD i false)) Z ρ a w→wpAny P .any ops Q fuel listed a w:=by
 intro fuel
 induction fuel with
 | zero =>
  intro listed a w Z ρ hsz hcnt hcl hsufl ha;have hall:∀ i,i < ops.size→listed.getD i false=true:=fun i hi=>by
   have h1:=List.eq_nil_of_length_eq_zero hcnt;rw [List.filter_eq_nil_iff] at h1;have hlt:i < listed.size:=by omega
   have:=h1 listed[i] (Array.mem_toList_iff.2 (Array.getElem_mem hlt))
   simp only [Array.getD,hlt,dif_pos];simpa using this
  have hlen:ops.size≤Rs.length:=by
   rcases Nat.lt_or_ge Rs.length ops.size with h | h
   ·have h1:=hall _ h;rw [hsufl _ (Nat.le_refl _)] at h1; cases h1
   ·exact h
  refine ⟨?_,?_⟩
  ·unfold Region.ready;rw [List.filter_eq_nil_iff];intro i hi;simp only [List.mem_range] at hi;have h1:=hall i hi;have hlt:i < listed.size:=by omega
   have:listed.getD i true=true:=by
    simp only [Array.getD,hlt,dif_pos] at h1 ⊢; exact h1
   simp [this]
  ·have h0:ops.size - Rs.length=0:=by omega
   rw [h0] at hrest;exact (hrest a w Z ρ (Aed V hf (fun i hi=>hall i (by have:=hf.len; omega)) ha)).2
 | succ fuel ih =>
  intro listed a w Z ρ hsz hcnt hcl hsufl ha;by_cases hpre:∀ i,i < Rs.length→listed.getD i false=true
  ·-- the tail
   have hlist:listed=(Array.range ops.size).map (Nat.blt · Rs.length):=by
    apply Array.ext
    ·simpa using hsz
    ·intro p hp1 hp2;simp only [Array.getElem_map,Array.getElem_range];have hg:listed.getD p false=listed[p]:=by simp [Array.getD,hp1]
     by_cases hp:p < Rs.length
     ·rw [← hg,hpre p hp]; exact (Nat.ble_eq_true_of_le hp).symm
     ·rw [← hg,hsufl p (by omega)];cases hb:Nat.blt p Rs.length with
      | false=>rfl
      | true=>exact absurd (Nat.le_of_ble_eq_true hb) hp
   have hcount:fuel+1+Rs.length=ops.size:=by
    have key:∀ (N d:Nat),d≤N→(((Array.range N).map (Nat.blt · d)).toList.filter (!·)).length+d=N:=by
     intro N
     induction N with
     | zero=>intro d hd; simp at hd; subst hd; simp
     | succ N ihN =>
      intro d hd;rw [Array.range_succ];simp only [Array.map_append,Array.toList_append,List.filter_append,List.length_append];by_cases hdN:d≤N
      ·have h1:=ihN d hdN
       have:Nat.blt N d=false:=by
        cases hb:Nat.blt N d with
        | false=>rfl
        | true=>have:=Nat.le_of_ble_eq_true hb; omega
       simp only [List.map_toArray,List.map_cons,List.map_nil,this];simp at h1 ⊢;omega
      ·have hdN':d=N+1:=by omega
       subst hdN';have h0:((Array.range N).map (Nat.blt · (N+1))).toList.filter (!·)=[]:=by
        rw [List.filter_eq_nil_iff];intro b hb;simp only [Array.toList_map,List.mem_map] at hb;obtain ⟨x,hx,rfl⟩:=hb;have hx':x < N:=by simpa using hx
        have:Nat.blt x (N+1)=true:=Nat.ble_eq_true_of_le (by omega)
        simp [this]
       rw [h0]
       have:Nat.blt N (N+1)=true:=Nat.ble_eq_true_of_le (by omega)
       simp [this]
    have:=key ops.size Rs.length hf.len
    rw [← hlist] at this;omega
   rw [hlist,show fuel+1=ops.size - Rs.length by omega];exact hrest _ _ Z ρ (Aed V hf hpre ha)
  ·-- one of the first
   have hex:∃ j,j < Rs.length∧listed.getD j false=false:=by
    refine Classical.byContradiction fun hno=>hpre fun i hi=>?_
    cases hh:listed.getD i false with
    | true=>rfl
    | false=>exact absurd ⟨i,hi,hh⟩ hno
   refine ⟨fun hnil=>?_,fun i hi=>?_⟩
   ·-- the least one that is not listed may come up
    exfalso;have hmin:∀ N j,j≤N→j < Rs.length→listed.getD j false=false→False:=by
     intro N
     induction N using Nat.strongRecOn with
     | _ N ihN =>
      intro j hj hjl hjf;have hjs:j < ops.size:=by have:=hf.len; omega
      by_cases hall:∀ e∈ops[j].after,Region.binds .any e=true→listed.getD e.on false=true
      ·have:j∈Region.ready .any ops listed:=mem_ready.2 ⟨by
        have hlt:j < listed.size:=by omega
        simp only [Array.getD,hlt,dif_pos] at hjf ⊢; exact hjf,ops[j],Array.getElem?_eq_getElem hjs,hall⟩
       rw [hnil] at this; cases this
      ·have:∃ e,e∈ops[j].after∧Region.binds .any e=true∧listed.getD e.on false=false:=by
        refine Classical.byContradiction fun hno=>hall fun e he hb=>?_
        cases hh:listed.getD e.on false with
        | true=>rfl
        | false=>exact absurd ⟨e,he,hb,hh⟩ hno
       obtain ⟨e,he,hb,hef⟩:=this;have hlt:=Ve ops.toList 0 j ops[j] hf.edges (by simp [hjs]) e he hb;exact ihN e.on (by omega) e.on (Nat.le_refl _) (by omega) hef
    obtain ⟨j,hj,hjf⟩:=hex;exact hmin j j (Nat.le_refl _) hj hjf
   ·obtain ⟨hun,o,ho,hall⟩:=mem_ready.1 hi;have his:i < ops.size:=(Array.getElem?_eq_some_iff.1 ho).1;have hlt:i < listed.size:=by omega
    have hun':listed.getD i false=false:=by
     simp only [Array.getD,hlt,dif_pos] at hun ⊢; exact hun
    have hbef:=Vo hf.edges (listed:=fun k=>listed.getD k false) hcl i o ho hall;have hid:i < Rs.length:=by
     rcases Nat.lt_or_ge i Rs.length with h | h
     ·exact h
     ·obtain ⟨j,hj,hjf⟩:=hex
      have:=hbef j (hf.late i j h his hj)
      rw [hjf] at this; cases this
    obtain ⟨hlenR,hspec⟩:=Abb V _ 0 _ _ Rs hRs;obtain ⟨R,tm',nb',hR,hev,htm,hnb⟩:=hspec i o (by rw [List.getElem?_take,if_pos hid]; simpa using ho);simp only [Nat.zero_add] at hev hnb;have hsmall:Ul V n m Γ ⟨U4 (o.looksAt ops) tm',Ab6 wids S.heap⟩ Z ρ a w:=by
     refine ha.congr (fun t v h=>?_) (fun id b h=>?_)
     ·have hmem:=Wb t _ _ _ h;rcases htm t v (Um t _ _ _ h) with ⟨j,R',hj,g1,g2,g3⟩ |⟨g1,g2⟩
      ·exact Vn hf (.inl ⟨j,R',hbef j (hf.reads i o t j R' hid ho hmem g1 g2).2,g1,g2,g3⟩)
      ·exact Vn hf (.inr ⟨g1,fun j R' hj hd=>by
        have:=(hf.reads i o t j R' hid ho hmem hj hd).1
        exact g2 j R' this hj hd⟩)
     ·simp only at h;rw [Yq] at h;split at h
      ·cases h
      ·rename_i hni;exact Up hf (.inr ⟨fun k R' B' _ hR' hW'=>hni (hf.wr k R' id B' hR' hW').1,.inr h⟩)
    have hset:∀ k,(listed.setIfInBounds i true).getD k false=if k=i then true else listed.getD k false:=fun k=>by
     rw [Array.getD_eq_getD_getElem?,Array.getD_eq_getD_getElem?,Array.getElem?_setIfInBounds];by_cases hk:i=k
     ·subst hk; simp [hlt]
     ·rw [if_neg hk,if_neg (fun e=>hk e.symm)]
    have hnext0:∀ a' w' Z' ρ',Ul V n m Γ (SE base Rs S (fun k=>if k=i then true else listed.getD k false)) Z' ρ' a' w'→wpAny P .any ops Q fuel (listed.setIfInBounds i true) a' w':=by
     intro a' w' Z' ρ' ha';refine ih _ a' w' Z' ρ' (by simpa using hsz) ?_ ?_ ?_ ?_
     ·have:=Abh listed.toList i (by
       simp only [Array.getD,hlt,dif_pos] at hun';simp [hlt]; exact hun')
      rw [Array.toList_setIfInBounds];omega
     ·intro k o' ho' hk e he hb;rw [hset] at hk ⊢;by_cases hki:k=i
      ·subst hki;rw [ho] at ho'; cases ho';split
       ·rfl
       ·exact hall e he hb
      ·rw [if_neg hki] at hk;split
       ·rfl
       ·exact hcl k o' ho' hk e he hb
     ·intro k hk;rw [hset,if_neg (by omega)];exact hsufl k hk
     ·have:(fun k=>(listed.setIfInBounds i true).getD k false)=fun k=>if k=i then true else listed.getD k false:=funext hset
      rw [this];exact ha'
    have hbef2:∀ k,k < Rs.length→listed.getD k false=true→∀ j,bit (Vw ops.toList []) k j=true→listed.getD j false=true:=fun k hk hl j hb=>by
     have hks:k < ops.size:=by have:=hf.len; omega
     exact Vo hf.edges (listed:=fun k=>listed.getD k false) hcl k _ (Array.getElem?_eq_getElem hks) (hcl k _ (Array.getElem?_eq_getElem hks) hl) j hb
    have hgo:if Region.wanted o (yielded ops a.tmps)=true then o.wp P a w (wpAny P .any ops Q fuel (listed.setIfInBounds i true)) Q else wpAny P .any ops Q fuel (listed.setIfInBounds i true) (a.put o.dst undef) w:=by
     rcases hev with hev | hev
     ·have hW:=(evP_W V hev).2;have hnext:∀ a' w' Z' ρ',Ul V n m Γ ((Aev (SE base Rs S (fun k=>listed.getD k false)) (base+i) R.B).put R.dst R.r) Z' ρ' a' w'→wpAny P .any ops Q fuel (listed.setIfInBounds i true) a' w':=fun a' w' Z' ρ' ha'=>by
       obtain ⟨s1,s2⟩:=Afx (L:=fun k=>listed.getD k false) hf hR hW (fun j R' B hR' hW' hBne=>by
        cases hB:R.B with
        | none=>exact absurd hB hBne
        | some B0 =>
         have hb:=(hf.wr j R' _ B hR' hW').2.2.2 i R B0 hR hB rfl;cases hl:listed.getD j false with
         | false=>rfl
         | true =>
          have:=hbef2 j (List.getElem?_eq_some_iff.1 hR').1 hl i hb
          rw [hun'] at this; cases this)
       exact hnext0 a' w' Z' ρ' (ha'.congr s1 s2)
      obtain ⟨hdst,hgo⟩:=Aet V L (K:=wpAny P .any ops Q fuel (listed.setIfInBounds i true)) (Q:=Q) hev (hcs R (List.mem_of_getElem? hR)) hsmall
       (fun v w' Z' honto hB hr=>by
        refine hnext _ _ Z' ρ ?_;rw [hB];have hd:=hf.dst i R hR
        have:=(ha.onto honto).put hd hr
        have e:R.dst=o.dst:=Ad4 V hev;rw [← e];exact this)
       (fun v w' Z' bc B honto hbc hB hBR hr=>by
        refine hnext _ _ Z' (Uy ρ (base+i) bc) ?_;rw [hB];have hd:=hf.dst i R hR;obtain ⟨g1,g2,g0,g3⟩:=hf.news i R B hR hB;have hfresh:(SE base Rs S (fun k=>listed.getD k false)).named (base+i)=false:=by
         unfold St.named SE;simp only [List.any_append,Bool.or_eq_false_iff];unfold St.named at g2;simp only [Bool.or_eq_false_iff] at g2;refine ⟨⟨Zj fun k hk hl e he=>?_,Aac _ _ _ g2.1⟩,Zj fun k hk hl e he=>?_,Zj fun k hk hl e he=>?_,g2.2⟩
         ·obtain ⟨t,u⟩:=e;obtain ⟨R',f1,f2,f3⟩:=X8.1 he;have hne:k≠i:=fun e=>by subst e; simp only [hun'] at hl; cases hl
          have hb:bit (Vw ops.toList []) k i=false:=by
           cases hb:bit (Vw ops.toList []) k i with
           | false=>rfl
           | true =>
            have hks:k < ops.size:=by have:=hf.len; omega
            have:=Vo hf.edges (listed:=fun k=>listed.getD k false) hcl k _ (Array.getElem?_eq_getElem hks) (hcl k _ (Array.getElem?_eq_getElem hks) hl) i hb
            simp only [hun'] at this; cases this
          have:=(g3 k R' f1 hne hb).1
          rw [← f3]; exact this
         ·obtain ⟨t,u⟩:=e;obtain ⟨R',f1,f2⟩:=Xn.1 he;have hne:k≠i:=fun e=>by subst e; simp only [hun'] at hl; cases hl
          have hb:bit (Vw ops.toList []) k i=false:=by
           cases hb:bit (Vw ops.toList []) k i with
           | false=>rfl
           | true =>
            have hks:k < ops.size:=by have:=hf.len; omega
            have:=Vo hf.edges (listed:=fun k=>listed.getD k false) hcl k _ (Array.getElem?_eq_getElem hks) (hcl k _ (Array.getElem?_eq_getElem hks) hl) i hb
            simp only [hun'] at this; cases this
          exact (g3 k R' f1 hne hb).2.2 _ u f2
         ·obtain ⟨t,u⟩:=e;obtain ⟨R',f1,f2,f3⟩:=Ym.1 he;have hne:k≠i:=fun e=>by subst e; simp only [hun'] at hl; cases hl
          have hb:bit (Vw ops.toList []) k i=false:=by
           cases hb:bit (Vw ops.toList []) k i with
           | false=>rfl
           | true =>
            have hks:k < ops.size:=by have:=hf.len; omega
            have:=Vo hf.edges (listed:=fun k=>listed.getD k false) hcl k _ (Array.getElem?_eq_getElem hks) (hcl k _ (Array.getElem?_eq_getElem hks) hl) i hb
            simp only [hun'] at this; cases this
          exact (g3 k R' f1 hne hb).2.1 u f2
        have:=((ha.onto honto).claim V g1 hfresh (fun b c he=>by
         obtain ⟨e1,e2,e3⟩:=hbc b c he;refine ⟨e2,e3,.inl (Nat.le_trans ha.hsize e1),fun k blk c' hk hl hr=>?_⟩
         have:=(ha.own k blk b c' hl hr).1
         omega) hBR).put hd hr
        have e:R.dst=o.dst:=Ad4 V hev;rw [← e];exact this)
      exact hgo
     ·-- a write
      unfold Afl at hev;split at hev
      ·rename_i hg;rw [Vq V hg hsmall];simp only [if_true];split at hev
       ·rename_i tt x v hop;split at hev
        ·rename_i ux uv hx hv;split at hev
         ·rename_i cs0 X blk hw;cases hev;have hRw:Rs[i]? = some ⟨cs0,o.dst,.tup [],none,some (X,blk)⟩:=hR;have hfull:∀ b,look X (nb'++S.heap)=some b→look X (SE base Rs S (fun k=>listed.getD k false)).heap=some b:=fun b hl=>by
           refine Up hf (.inr ⟨fun k R' B' hk hR' hW'=>?_,?_⟩)
           ·have:=(hf.wr i _ X blk hRw rfl).2.2.1 k R' B' hR' hW'
            subst this;simp only [hun'] at hk; cases hk
           ·rw [Uw] at hl;cases hnl:look X nb' with
            | some b' =>
             rw [hnl] at hl;cases hl;rcases hnb X b hnl with ⟨j,R',hj,g1,g2,g3⟩ | g1
             ·exact .inl ⟨j,R',hbef j ((hf.wr i _ X blk hRw rfl).2.2.2 j R' b g1 g2 g3),g1,g2,g3⟩
             ·cases g1
            | none=>rw [hnl] at hl; exact .inr (by simpa using hl)
          have hst:=Ael (V:=V) hw (S:=SE base Rs S (fun k=>listed.getD k false)) hfull;have hax:=hsmall.get _ _ hx;have hav:=hsmall.get _ _ hv;have hc0:Us cs0:=hcs _ (List.mem_of_getElem? hRw);obtain ⟨w',e1,e2⟩:=Xt V L hst hc0 ha hax hav;have hrun:(execOp a.eval o).run P w=.ok .skip w':=by
           unfold execOp;rw [hop];simp only [Sem.run_bind,e1,Result.andThen];rfl
          unfold Oper.wp;rw [hrun];have hd:=hf.dst i _ hRw;have h4:=e2.put hd (.tup (us:=#[]) rfl fun i c v hc=>by simp at hc:RA V.E w' Z ρ (.tup []) undef);obtain ⟨s1,s2⟩:=Acg (L:=fun k=>listed.getD k false) hf hRw rfl;exact hnext0 _ _ Z ρ (h4.congr s1 s2)
         ·cases hev
        ·cases hev
       ·rename_i ts td x hop;split at hev
        ·rename_i ux hx;split at hev
         ·rename_i cs0 X blk r hw;cases hev;have hRw:Rs[i]? = some ⟨cs0,o.dst,r,none,some (X,blk)⟩:=hR;have hfull:∀ b,look X (nb'++S.heap)=some b→look X (SE base Rs S (fun k=>listed.getD k false)).heap=some b:=fun b hl=>by
           refine Up hf (.inr ⟨fun k R' B' hk hR' hW'=>?_,?_⟩)
           ·have:=(hf.wr i _ X blk hRw rfl).2.2.1 k R' B' hR' hW'
            subst this;simp only [hun'] at hk; cases hk
           ·rw [Uw] at hl;cases hnl:look X nb' with
            | some b' =>
             rw [hnl] at hl;cases hl;rcases hnb X b hnl with ⟨j,R',hj,g1,g2,g3⟩ | g1
             ·exact .inl ⟨j,R',hbef j ((hf.wr i _ X blk hRw rfl).2.2.2 j R' b g1 g2 g3),g1,g2,g3⟩
             ·cases g1
            | none=>rw [hnl] at hl; exact .inr (by simpa using hl)
          have hc0:Us cs0:=hcs _ (List.mem_of_getElem? hRw);obtain ⟨w',e1,e2,e3⟩:=Zz V hw hc0 ha hfull (hsmall.get _ _ hx);have hrun:(execOp a.eval o).run P w=.ok (.value (a.eval x)) w':=by
           unfold execOp;rw [hop];simp only [Sem.run_bind,e1,Result.andThen];rfl
          unfold Oper.wp;rw [hrun];have hd:=hf.dst i _ hRw;have h4:=e2.put hd e3;obtain ⟨s1,s2⟩:=Acg (L:=fun k=>listed.getD k false) hf hRw rfl;exact hnext0 _ _ Z ρ (h4.congr s1 s2)
         ·cases hev
        ·cases hev
       ·cases hev
      ·cases hev
    unfold wpOp;rw [ho];simp only;split
    ·rename_i hw; rw [if_pos hw] at hgo; exact .inl hgo
    ·rename_i hw; rw [if_neg hw] at hgo; exact hgo
def Xb (P:Program) (n m:Nat) (ops:Array Oper) (base:Nat) (decs:List (Nat×Bool)) (oras:List (Nat×AV T)) (effs:List (Nat×Ut T)) (wids:List Nat) (d:Nat) (S:St T):Option (List Prop×St T) :=
 match Aeo V P n m ops base decs oras (Ab6 wids S.heap) S.heap 0 (ops.toList.take d) S.tmps [] with
 | some Rs=>bif Nat.beq Rs.length d && Acu n m base ops S Rs (Vw ops.toList []) wids && Aee ops d then
   (match U3 V P n m ops base decs oras effs d (ops.toList.drop d) (SE base Rs S (fun _=>true)) with
   | some (cs2,S2)=>some (Rs.flatMap (·.cs)++cs2,S2)
   | none=>none) else none
 | none=>none
def Abr (f:Nat→Option (List Prop×List (St T))):List Nat→Option (List Prop×List (St T))
 | []=>some ([],[])
 | i :: is=>match f i,Abr f is with
  | some (cs,Fs),some (cs',Fs')=>some (cs++cs',Fs++Fs')
  | _,_=>none
def Acw (P:Program) (n m:Nat) (ops:Array Oper) (base:Nat) (decs:List (Nat×Bool)) (oras:List (Nat×AV T)) (effs:List (Nat×Ut T)):Nat→Array Bool→St T→Option (List Prop×List (St T))
 | 0,listed,S=>bif (Region.ready .any ops listed).isEmpty then some ([],[S]) else none
 | fuel+1,listed,S=>match Region.ready .any ops listed with
  | []=>some ([],[S])
  | is=>Abr (fun i=>match ops[i]? with
   | some o=>match Afq V P n m (base+i) ops (look i decs) (look i oras) (look i effs) o S with
    | some (cs,S1)=>match Acw P n m ops base decs oras effs fuel (listed.setIfInBounds i true) S1 with
     | some (cs2,Fs)=>some (cs++cs2,Fs)
     | none=>none
    | none=>none
   | none=>none) is
theorem Y6 {f:Nat→Option (List Prop×List (St T))}:∀ {is:List Nat} {cs:List Prop} {Fs:List (St T)},Abr f is=some (cs,Fs)→∀ i∈is,∃ cs' Fs',f i=some (cs',Fs')∧(∀ p∈cs',p∈cs)∧∀ F∈Fs',F∈Fs
 | [],cs,Fs,h,i,hi=>by cases hi
 | j :: is,cs,Fs,h,i,hi=>by
  unfold Abr at h;split at h
  ·rename_i cs1 Fs1 cs2 Fs2 h1 h2;cases h;cases hi with
   | head=>exact ⟨cs1,Fs1,h1,fun p hp=>List.mem_append_left _ hp,fun F hF=>List.mem_append_left _ hF⟩
   | tail _ hi =>
    obtain ⟨cs',Fs',h3,h4,h5⟩:=Y6 h2 i hi;exact ⟨cs',Fs',h3,fun p hp=>List.mem_append_right _ (h4 p hp),fun F hF=>List.mem_append_right _ (h5 F hF)⟩
  ·cases h
theorem Acs (L:V.E.Law V.isB V.toB) {decs:List (Nat×Bool)} {oras:List (Nat×AV T)} {effs:List (Nat×Ut T)} {Q:Exit→Act→World→Prop}:∀ (fuel:Nat) (listed:Array Bool) (S:St T) (Z:Nat→Prop) (ρ:Nat→Option (Nat×Nat×Nat)) (a:Act) (w:World) (cs:List Prop) (Fs:List (St T)),
  Acw V P n m ops base decs oras effs fuel listed S=some (cs,Fs)→Us cs→Ul V n m Γ S Z ρ a w→(∀ F∈Fs,∀ a' w' Z' ρ',Ul V n m Γ F Z' ρ' a' w'→Q .normal a' w')→wpAny P .any ops Q fuel listed a w:=by
 intro fuel
 induction fuel with
 | zero =>
  intro listed S Z ρ a w cs Fs h hcs ha hQ;unfold Acw at h;cases hr:(Region.ready .any ops listed).isEmpty with
  | false=>rw [hr] at h; cases h
  | true =>
   rw [hr] at h;cases h;exact ⟨List.isEmpty_iff.1 hr,hQ S (.head _) a w Z ρ ha⟩
 | succ fuel ih =>
  intro listed S Z ρ a w cs Fs h hcs ha hQ;unfold Acw at h;split at h
  ·rename_i hr;cases h;exact ⟨fun _=>hQ S (.head _) a w Z ρ ha,fun i hi=>by rw [hr] at hi; cases hi⟩
  ·rename_i is hne;refine ⟨fun he=>absurd he hne,fun i hi=>?_⟩;obtain ⟨cs',Fs',h1,h2,h3⟩:=Y6 h i hi;have hlt:i < ops.size:=by
    unfold Region.ready at hi;exact List.mem_range.1 (List.mem_filter.1 hi).1
   rw [Array.getElem?_eq_getElem hlt] at h1;simp only at h1;split at h1
   ·rename_i cs1 S1 he;split at h1
    ·rename_i cs2 Fs2 hr;cases h1;have hc:Us cs1:=Us.of_mem fun p hp=>hcs.mem p (h2 p (List.mem_append_left _ hp))
     have hc2:Us cs2:=Us.of_mem fun p hp=>hcs.mem p (h2 p (List.mem_append_right _ hp))
     have:=V8 V L (K:=wpAny P .any ops Q fuel (listed.setIfInBounds i true)) (Q:=Q) he hc ha fun a' w' Z' ρ' ha'=>ih _ S1 Z' ρ' a' w' cs2 _ hr hc2 ha' fun F hF=>hQ F (h3 F hF)
     unfold wpOp;rw [Array.getElem?_eq_getElem hlt];simp only;split
     ·rename_i hw; rw [if_pos hw] at this; exact .inl this
     ·rename_i hw; rw [if_neg hw] at this; exact this
    ·cases h1
   ·cases h1
variable {V} {Q:Exit→St T→Prop}
theorem Aeu {w:World} {Rs:List (Xx T)} (ha:Ul V n m Γ S Z ρ a w):Ul V n m Γ (SE base Rs S fun i=>(Array.replicate ops.size false).getD i false) Z ρ a w.drew:=by
 have ha':Ul V n m Γ S Z ρ a w.drew:=ha.onto ⟨(Below.refl _ _).drew,fun _ h=>h,fun _ h=>.inl h⟩;refine ha'.congr (fun t v hv=>?_) (fun id b hv=>?_)
 ·rcases Acb hv with ⟨i,R,h1,h2,_⟩ |⟨h1,_⟩
  ·rw [Array.getD_eq_getD_getElem?] at h1;by_cases hk':i < ops.size <;> simp [hk'] at h1
  ·exact h1
 ·have no:∀ i,(Array.replicate ops.size false).getD i false=true→False:=fun i h=>by
   rw [Array.getD_eq_getD_getElem?] at h;by_cases hk':i < ops.size <;> simp [hk'] at h
  rcases X5 hv with ⟨i,R,h1,_⟩ |⟨_,⟨i,R,h1,_⟩ | h1⟩
  ·exact (no i h1).elim
  ·exact (no i h1).elim
  ·exact h1
theorem Y1 (L:V.E.Law V.isB V.toB) {decs:List (Nat×Bool)} {oras:List (Nat×AV T)} {Rs:List (Xx T)} {Q:Exit→Act→World→Prop} (hf:Vk n m base ops S Rs wids)
  (hRs:Aeo V P n m ops base decs oras (Ab6 wids S.heap) S.heap 0 (ops.toList.take Rs.length) S.tmps []=some Rs) (hcs:∀ R∈Rs,Us R.cs) {w:World} (ha:Ul V n m Γ S Z ρ a w)
  (hrest:∀ a w Z ρ,Ul V n m Γ (SE base Rs S (fun _=>true)) Z ρ a w→wpAny P .any ops Q (ops.size - Rs.length) ((Array.range ops.size).map (Nat.blt · Rs.length)) a w) :
  wpAny P .any ops Q ops.size (Array.replicate ops.size false) a w.drew:=by
 refine Aex V L (decs:=decs) (oras:=oras) (effs:=[]) hf hRs hcs hrest ops.size (Array.replicate ops.size false) a _ Z ρ (by simp) ?_ ?_ ?_ (Aeu ha)
 ·simp
 ·intro i o ho hi;have hi':i < ops.size:=(Array.getElem?_eq_some_iff.1 ho).1;rw [Array.getD_eq_getD_getElem?] at hi;simp [hi'] at hi
 ·intro k hk;rw [Array.getD_eq_getD_getElem?];by_cases hk':k < ops.size <;> simp [hk']
theorem Ae3 (L:V.E.Law V.isB V.toB) (hm:P.follows .mixedOrders=true) {id:Nat} {ops:Array Oper} (base:Nat) (decs:List (Nat×Bool)) (oras:List (Nat×AV T)) (effs:List (Nat×Ut T)) (wids:List Nat) (d:Nat) (ts ids:List Nat) {cs:List Prop} {S':St T}
  (h:(Xb V P n m ops base decs oras effs wids d S).map (fun p=>(p.1,(p.2.keep ts ids).co S'))=some (cs,S')) (hcs:Us cs) (hQ:Q .normal S'):Uc V P n m Γ (.region id ops true) Q S:=by
 intro Z ρ a w ha;rw [Option.map_eq_some_iff] at h;obtain ⟨⟨cs0,S2⟩,h1,h2⟩:=h;simp only [Prod.mk.injEq] at h2;obtain ⟨rfl,hk⟩:=h2;unfold Xb at h1;split at h1
 ·rename_i Rs hRs;cases hb:(Nat.beq Rs.length d && Acu n m base ops S Rs (Vw ops.toList []) wids && Aee ops d) with
  | false=>rw [hb] at h1; cases h1
  | true =>
   rw [hb] at h1;simp only [Bool.and_eq_true] at hb;have hd:=Nat.eq_of_beq_eq_true hb.1.1;subst hd;have hf:=Aag hb.1.2;simp only [cond_true] at h1;split at h1
   ·rename_i cs2 S3 hsuf;cases h1;obtain ⟨hc1,hc2⟩:=hcs.append;refine wp_region_any hm (Y1 L hf hRs (fun R hR=>Us.of_mem fun p hp=>hc1.mem p (List.mem_flatMap.2 ⟨R,hR,hp⟩)) ha fun a w Z ρ ha2=>?_);exact Abj V L Rs.length (Aak hb.2) (ops.size - Rs.length) Rs.length (by have:=hf.len; omega) (Nat.le_refl _) _ Z ρ a w cs2 _ hsuf hc2 ha2 (fun a' w' Z' ρ' h'=>⟨_,Z',ρ',hQ,hk ▸ (h'.keep ts ids).co V S'⟩)
   ·cases h1
 ·cases h1
end
end Go.Proofs.YtdgejpgbppfhmaaGreatDoor.Eng
