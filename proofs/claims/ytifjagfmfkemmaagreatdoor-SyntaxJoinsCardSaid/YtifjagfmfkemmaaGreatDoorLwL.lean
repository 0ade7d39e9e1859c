import Derived.Test.YtifjagfmfkemmaaGreatDoorLwK
set_option linter.unusedVariables false
set_option linter.unusedSimpArgs false
set_option maxHeartbeats 4000000
namespace Go.Proofs.YtifjagfmfkemmaaGreatDoor
open Eng Go
theorem Eu (a:Nd):(⟨a.Op,a.Name,a.Int,a.Text,a.Kids⟩:Aa)=a:=by cases a; rfl
abbrev pos (l ts:List Tk):Int:=((l.length - ts.length:Nat):Int)
abbrev st (l ts:List Tk):Ab:=⟨l,pos l ts⟩
def atE (ts:List Tk):Int:=match ts with | []=>0 | t :: _=>t.At
def cR {α:Type} (l:List Tk):Except (List Tk) (α×List Tk)→Int ⊕ (α×Ab)
 | .error ts=>.inl (atE ts)
 | .ok (a,ts)=>.inr (a,st l ts)
def cL {α:Type} (l:List Tk):Except (List Tk) (α×List Tk)→(α×Ab) ⊕ Int
 | .error ts=>.inr (atE ts)
 | .ok (a,ts)=>.inl (a,st l ts)
structure Sx (l ts:List Tk):Prop where
 sf:ts<:+l
 gd:Fh ts
 hl:l.length≤9000000
theorem Sx.eat {l ts ts':List Tk} {d:Nat} (h:Sx l ts) (e:Eat d ts ts'):Sx l ts':=⟨e.1.trans h.sf,e.2.2,h.hl⟩
theorem Sx.is {l ts:List Tk} {s:List UInt8} (h:Sx l ts) (hs:isS s ts=true):Sx l ts.tail:=h.eat (Eat.isS h.gd hs)
theorem Sx.len {l ts:List Tk} (h:Sx l ts):1≤ts.length∧ts.length≤l.length:=by
 obtain ⟨t,r,rfl⟩:=h.gd.head;exact ⟨by simp,h.sf.length_le⟩
theorem Sx.get {l:List Tk} {t:Tk} {r:List Tk} (h:Sx l (t :: r)):l.getD (l.length - (t :: r).length) Dh=t:=by
 obtain ⟨u,rfl⟩:=h.sf;simp [List.getD]
theorem Sx.succ {l ts:List Tk} (h:Sx l ts):IntKind.i64.wrap (pos l ts+1)=pos l ts.tail:=by
 have:=h.len; have:=h.hl
 obtain ⟨t,r,rfl⟩:=h.gd.head;simp only [pos,List.length_cons,List.tail_cons] at *;rw [w64 (by omega) (by omega)]; omega
theorem Gb {K:Nat} {l:List Tk} {t:Tk} {r:List Tk} (h:Sx l (t :: r)):Bj K (st l (t :: r))=some t:=by
 have h1:=h.len; have h2:=h.hl; have h3:=h.get;unfold Bj;dsimp only [st,pos];rw [w64 (by omega) (by omega),if_neg (show ¬ ((l.length:Int) - 1 <((l.length - (t :: r).length:Nat):Int)) by omega),if_pos ⟨by omega,by omega⟩,Int.toNat_natCast,h3]
theorem Jy {K:Nat} {l ts:List Tk} (h:Sx l ts) (s:List UInt8):Dw K (st l ts) s=some (isS s ts):=by
 obtain ⟨t,r,rfl⟩:=h.gd.head;unfold Dw isS;rw [Gb h,Option.bind_some];by_cases h2:t.Kind=2
 ·simp [h2]
 ·by_cases h5:t.Kind=5
  ·simp [h5]
  ·simp [h2,h5]
theorem Gy {K:Nat} {l ts:List Tk} (h:Sx l ts) {s:List UInt8} (hs:isS s ts=true):Ak K s (st l ts)=some (true,st l ts.tail):=by
 unfold Ak;rw [Jy h,hs,Option.bind_some,if_pos rfl,h.succ]
theorem Gl {K:Nat} {l ts:List Tk} (h:Sx l ts) {s:List UInt8} (hs:¬ isS s ts=true):Ak K s (st l ts)=some (false,st l ts):=by
 unfold Ak;rw [Jy h,Option.bind_some,if_neg hs]
theorem Gn {K:Nat} {l ts:List Tk} (h:Sx l ts):Bf K (st l ts)=some (atE ts):=by
 obtain ⟨t,r,rfl⟩:=h.gd.head;unfold Bf;rw [Gb h]; rfl
theorem Jv {K:Nat} {l:List Tk} {t:Tk} {r:List Tk} (h:Sx l (t :: r)):Dr K (st l (t :: r))=some (t,st l r):=by
 unfold Dr;rw [Gb h,Option.bind_some,h.succ]; rfl
theorem H5 {K:Nat} {l ts:List Tk} (h:Sx l ts) {s:List UInt8} (hs:isS s ts=true):Ao K s (st l ts)=some (.inl (st l ts.tail)):=by
 unfold Ao;rw [Gy h hs]; rfl
theorem Ia {K:Nat} {l ts:List Tk} (h:Sx l ts) {s:List UInt8} (hs:¬ isS s ts=true):Ao K s (st l ts)=some (.inr (atE ts)):=by
 unfold Ao;rw [Gl h hs];show Option.bind (Bf K (st l ts)) _=_;rw [Gn h]; rfl
theorem F5 {K:Nat} {l ts:List Tk} (h:Sx l ts) {r:Except (List Tk) (List UInt8×List Tk)} (hr:Fi ts=some r):Au K (st l ts)=some (cR l r):=by
 obtain ⟨t,u,rfl⟩:=h.gd.head;unfold Au;rw [Gb h,Option.bind_some];simp only [Fi,Fo] at hr;by_cases hk:t.Kind=1
 ·rw [if_pos hk] at hr; cases hr;rw [if_neg (by simpa using hk),Jv h]; rfl
 ·rw [if_neg hk] at hr; cases hr;rw [if_pos hk,Gn h]; rfl
theorem op_l7 {K:Nat} {l ts:List Tk} (h:Sx l ts) (ops:Ops) (ho:ops.length≤1000):∀ (k i:Nat),ops.length < i+k→i≤ops.length →
  Bx.l7 K (ops.map (·.1)) (ops.map (·.2)) (st l ts) k i=some (match Ev (ops.drop i) ts with | some op=>.done (op,true,st l ts.tail) | none=>.go ()):=by
 intro k
 induction k with
 | zero=>intro i h1 h2; omega
 | succ k ih =>
  intro i h1 h2;rw [Bx.l7];simp only [List.length_map];by_cases hi:i < ops.length
  ·have e1:(ops.map (·.1)).getD (Int.toNat (i:Int)) []=(ops[i]).1:=by simp [List.getD,hi]
   have e2:(ops.map (·.2)).getD (Int.toNat (i:Int)) 0=(ops[i]).2:=by simp [List.getD,hi]
   rw [if_pos (by omega),if_pos ⟨by omega,by omega⟩,e1,e2,Jy h,Option.bind_some,List.drop_eq_getElem_cons hi,Ev];by_cases hs:isS (ops[i]).1 ts=true
   ·rw [if_pos hs,if_pos hs,if_pos (by omega),h.succ]
   ·rw [if_neg hs,if_neg hs,w64 (by omega) (by omega)];exact ih (i+1) (by omega) (by omega)
  ·rw [if_neg (by omega),List.drop_eq_nil_iff.2 (by omega)]; rfl
theorem Nu {K:Nat} (hK:1000≤K) {l ts:List Tk} (h:Sx l ts) (ops:Ops) (ho:ops.length < 1000) :
  Bx K (ops.map (·.1)) (ops.map (·.2)) (st l ts)=some (match Ev ops ts with | some op=>(op,true,st l ts.tail) | none=>(0,false,st l ts)):=by
 unfold Bx
 have:=op_l7 (K:=K) h ops (by omega) K 0 (by omega) (by omega)
 replace this:Bx.l7 K (ops.map (·.1)) (ops.map (·.2)) (st l ts) K 0=_:=this;rw [this,List.drop_zero];cases Ev ops ts <;> rfl
def E7 (l:List Tk) (p:List Tk→Rs Nd) (q:Ab→Option (Int ⊕ (Nd×Ab))):Prop:=∀ ts,Sx l ts→∀ r,p ts=some r→q (st l ts)=some (cR l r)
def K9 {α:Type} (l:List Tk) (p:List Tk→Rs α) (q:Ab→Option ((α×Ab) ⊕ Int)):Prop:=∀ ts,Sx l ts→∀ r,p ts=some r→q (st l ts)=some (cL l r)
theorem Rl {K:Nat} (hK:1000≤K) {l:List Tk} {sub:List Tk→Rs Nd} {ops:Ops} (ho:ops.length < 1000) {q:Ab→Option (Int ⊕ (Nd×Ab))}
  {L:Nat→List Tk→Int→Int→List UInt8→Int→List UInt8→List Nd→Option (T5 (Int ⊕ (Nd×Ab)) Unit)}
  (hL:∀ k l i b0 b1 b2 b3 b4,L (k+1) l i b0 b1 b2 b3 b4=(Option.bind (Bx K (ops.map (·.1)) (ops.map (·.2)) (⟨l,i⟩:Ab)) (fun (g,m,d)=>(if m=true then (Option.bind (q d) (fun a3=>match a3 with |(Sum.inl a3)=>some (T5.done (Sum.inl a3)) |(Sum.inr (c,f))=>(Option.bind (Cu K g ([(⟨b0,b1,b2,b3,b4⟩:Aa),(⟨c.Op,c.Name,c.Int,c.Text,c.Kids⟩:Aa)]:List Aa)) (fun a4=>L k f.l f.i a4.Op a4.Name a4.Int a4.Text a4.Kids)))) else some (T5.done (Sum.inr ((⟨b0,b1,b2,b3,b4⟩:Aa),d)))))))
  (hs:Snd 1 sub) (hq:E7 l sub q):∀ (k k':Nat) (a:Nd) (ts:List Tk),k≤k'→Sx l ts→∀ r,Fx sub ops k a ts=some r→L k' l (pos l ts) a.Op a.Name a.Int a.Text a.Kids=some (T5.done (cR l r)):=by
 intro k
 induction k with
 | zero=>intro k' a ts hk h r hr; cases hr
 | succ k ih =>
  intro k' a ts hk h r hr;obtain ⟨k',rfl⟩:∃ j,k'=j+1:=⟨k' - 1,by omega⟩
  rw [hL];have e:=Nu hK h ops ho;change Bx K _ _ ⟨l,pos l ts⟩=_ at e;rw [e,Option.bind_some];unfold Fx at hr;cases hf:Ev ops ts with
  | none=>rw [hf] at hr; cases hr; simp only [Eu]; rfl
  | some op =>
   rw [hf] at hr;obtain ⟨s,hs'⟩:=E4 hf;have h1:=h.is hs';dsimp only at hr ⊢;rw [if_pos rfl];cases hb:sub ts.tail with
   | none=>rw [hb] at hr; cases hr
   | some x =>
    rw [hq _ h1 _ hb,Option.bind_some];rw [hb] at hr;have hx:=hs _ h1.gd _ hb
    match x,hr,hx with
    | .error e,hr,hx=>cases hr; rfl
    | .ok (b,ts'),hr,hx =>
     replace hx:Eat 1 _ ts':=hx
     have:=ih k' (nd op [a,b]) ts' (by omega) (h1.eat hx) r hr
     show Option.bind (Cu K op _) _=_;simp only [Eu];exact this
end Go.Proofs.YtifjagfmfkemmaaGreatDoor
