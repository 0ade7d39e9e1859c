import Derived.Test.YtifjagfmfkemmaaGreatDoorLwK
set_option linter.unusedVariables false
set_option linter.unusedSimpArgs false
set_option maxHeartbeats 4000000
namespace Go.Proofs.YtifjagfmfkemmaaGreatDoor
open Eng Go
theorem Ff (a:Nd):(⟨a.Op,a.Name,a.Int,a.Text,a.Kids⟩:Aa)=a:=by cases a; rfl
abbrev pos (l ts:List Tk):Int:=((l.length - ts.length:Nat):Int)
abbrev st (l ts:List Tk):Ab:=⟨l,pos l ts⟩
def atE (ts:List Tk):Int:=match ts with | []=>0 | t :: _=>t.At
def cR {α:Type} (l:List Tk):Except (List Tk) (α×List Tk)→Int ⊕ (α×Ab)
 | .error ts=>.inl (atE ts)
 | .ok (a,ts)=>.inr (a,st l ts)
def cL {α:Type} (l:List Tk):Except (List Tk) (α×List Tk)→(α×Ab) ⊕ Int
 | .error ts=>.inr (atE ts)
 | .ok (a,ts)=>.inl (a,st l ts)
structure Sx (l ts:List Tk):Prop where
 sf:ts<:+l
 gd:Gl ts
 hl:l.length≤9000000
theorem Sx.eat {l ts ts':List Tk} {d:Nat} (h:Sx l ts) (e:Eat d ts ts'):Sx l ts':=⟨e.1.trans h.sf,e.2.2,h.hl⟩
theorem Sx.is {l ts:List Tk} {s:List UInt8} (h:Sx l ts) (hs:isS s ts=true):Sx l ts.tail:=h.eat (Eat.isS h.gd hs)
theorem Sx.len {l ts:List Tk} (h:Sx l ts):1≤ts.length∧ts.length≤l.length:=by
 obtain ⟨t,r,rfl⟩:=h.gd.head
 exact ⟨by simp,h.sf.length_le⟩
theorem Sx.get {l:List Tk} {t:Tk} {r:List Tk} (h:Sx l (t :: r)):l.getD (l.length - (t :: r).length) Dr=t:=by
 obtain ⟨u,rfl⟩:=h.sf
 simp [List.getD]
theorem Sx.succ {l ts:List Tk} (h:Sx l ts):IntKind.i64.wrap (pos l ts+1)=pos l ts.tail:=by
 have:=h.len; have:=h.hl
 obtain ⟨t,r,rfl⟩:=h.gd.head
 simp only [pos,List.length_cons,List.tail_cons] at *
 rw [w64 (by omega) (by omega)]; omega
theorem Gu {K:Nat} {l:List Tk} {t:Tk} {r:List Tk} (h:Sx l (t :: r)):Bx K (st l (t :: r))=some t:=by
 have h1:=h.len; have h2:=h.hl; have h3:=h.get
 unfold Bx
 dsimp only [st,pos]
 rw [w64 (by omega) (by omega),if_neg (show ¬ ((l.length:Int) - 1 <((l.length - (t :: r).length:Nat):Int)) by omega),if_pos ⟨by omega,by omega⟩,Int.toNat_natCast,h3]
theorem Kg {K:Nat} {l ts:List Tk} (h:Sx l ts) (s:List UInt8):D7 K (st l ts) s=some (isS s ts):=by
 obtain ⟨t,r,rfl⟩:=h.gd.head
 unfold D7 isS
 rw [Gu h,Option.bind_some]
 by_cases h2:t.Kind=2
 ·simp [h2]
 ·by_cases h5:t.Kind=5
  ·simp [h5]
  ·simp [h2,h5]
theorem Hm {K:Nat} {l ts:List Tk} (h:Sx l ts) {s:List UInt8} (hs:isS s ts=true):Ao K s (st l ts)=some (true,st l ts.tail):=by
 unfold Ao
 rw [Kg h,hs,Option.bind_some,if_pos rfl,h.succ]
theorem Hg {K:Nat} {l ts:List Tk} (h:Sx l ts) {s:List UInt8} (hs:¬ isS s ts=true):Ao K s (st l ts)=some (false,st l ts):=by
 unfold Ao
 rw [Kg h,Option.bind_some,if_neg hs]
theorem I5 {K:Nat} {l ts:List Tk} (h:Sx l ts):Bl K (st l ts)=some (atE ts):=by
 obtain ⟨t,r,rfl⟩:=h.gd.head
 unfold Bl
 rw [Gu h]; rfl
theorem K1 {K:Nat} {l:List Tk} {t:Tk} {r:List Tk} (h:Sx l (t :: r)):D0 K (st l (t :: r))=some (t,st l r):=by
 unfold D0
 rw [Gu h,Option.bind_some,h.succ]; rfl
theorem Ij {K:Nat} {l ts:List Tk} (h:Sx l ts) {s:List UInt8} (hs:isS s ts=true):Aq K s (st l ts)=some (.inl (st l ts.tail)):=by
 unfold Aq
 rw [Hm h hs]; rfl
theorem Io {K:Nat} {l ts:List Tk} (h:Sx l ts) {s:List UInt8} (hs:¬ isS s ts=true):Aq K s (st l ts)=some (.inr (atE ts)):=by
 unfold Aq
 rw [Hg h hs]
 show Option.bind (Bl K (st l ts)) _=_
 rw [I5 h]; rfl
theorem I4 {K:Nat} {l ts:List Tk} (h:Sx l ts) {r:Except (List Tk) (List UInt8×List Tk)} (hr:G5 ts=some r):Ay K (st l ts)=some (cR l r):=by
 obtain ⟨t,u,rfl⟩:=h.gd.head
 unfold Ay
 rw [Gu h,Option.bind_some]
 simp only [G5,F6] at hr
 by_cases hk:t.Kind=1
 ·rw [if_pos hk] at hr; cases hr
  rw [if_neg (by simpa using hk),K1 h]; rfl
 ·rw [if_neg hk] at hr; cases hr
  rw [if_pos hk,I5 h]; rfl
theorem op_l7 {K:Nat} {l ts:List Tk} (h:Sx l ts) (ops:Ops) (ho:ops.length≤1000):∀ (k i:Nat),ops.length < i+k→i≤ops.length →
  B5.l7 K (ops.map (·.1)) (ops.map (·.2)) (st l ts) k i=some (match Fl (ops.drop i) ts with | some op=>.done (op,true,st l ts.tail) | none=>.go ()):=by
 intro k
 induction k with
 | zero=>intro i h1 h2; omega
 | succ k ih =>
  intro i h1 h2
  rw [B5.l7]
  simp only [List.length_map]
  by_cases hi:i < ops.length
  ·have e1:(ops.map (·.1)).getD (Int.toNat (i:Int)) []=(ops[i]).1:=by simp [List.getD,hi]
   have e2:(ops.map (·.2)).getD (Int.toNat (i:Int)) 0=(ops[i]).2:=by simp [List.getD,hi]
   rw [if_pos (by omega),if_pos ⟨by omega,by omega⟩,e1,e2,Kg h,Option.bind_some,List.drop_eq_getElem_cons hi,Fl]
   by_cases hs:isS (ops[i]).1 ts=true
   ·rw [if_pos hs,if_pos hs,if_pos (by omega),h.succ]
   ·rw [if_neg hs,if_neg hs,w64 (by omega) (by omega)]
    exact ih (i+1) (by omega) (by omega)
  ·rw [if_neg (by omega),List.drop_eq_nil_iff.2 (by omega)]; rfl
theorem Nh {K:Nat} (hK:1000≤K) {l ts:List Tk} (h:Sx l ts) (ops:Ops) (ho:ops.length < 1000) :
  B5 K (ops.map (·.1)) (ops.map (·.2)) (st l ts)=some (match Fl ops ts with | some op=>(op,true,st l ts.tail) | none=>(0,false,st l ts)):=by
 unfold B5
 have:=op_l7 (K:=K) h ops (by omega) K 0 (by omega) (by omega)
 replace this:B5.l7 K (ops.map (·.1)) (ops.map (·.2)) (st l ts) K 0=_:=this
 rw [this,List.drop_zero]
 cases Fl ops ts <;> rfl
def Gg (l:List Tk) (p:List Tk→Rs Nd) (q:Ab→Option (Int ⊕ (Nd×Ab))):Prop:=∀ ts,Sx l ts→∀ r,p ts=some r→q (st l ts)=some (cR l r)
def Ow {α:Type} (l:List Tk) (p:List Tk→Rs α) (q:Ab→Option ((α×Ab) ⊕ Int)):Prop:=∀ ts,Sx l ts→∀ r,p ts=some r→q (st l ts)=some (cL l r)
theorem Pd {K:Nat} (hK:1000≤K) {l:List Tk} {sub:List Tk→Rs Nd} {ops:Ops} (ho:ops.length < 1000) {q:Ab→Option (Int ⊕ (Nd×Ab))}
  {L:Nat→List Tk→Int→Int→List UInt8→Int→List UInt8→List Nd→Option (Q9 (Int ⊕ (Nd×Ab)) Unit)}
  (hL:∀ k l i b0 b1 b2 b3 b4,L (k+1) l i b0 b1 b2 b3 b4=(Option.bind (B5 K (ops.map (·.1)) (ops.map (·.2)) (⟨l,i⟩:Ab)) (fun (a2_0,a2_1,a2_2)=>(if a2_1=true then (Option.bind (q a2_2) (fun a3=>match a3 with |(Sum.inl a3)=>some (Q9.done (Sum.inl a3)) |(Sum.inr (a3_0,a3_1))=>(Option.bind (Ct K a2_0 ([(⟨b0,b1,b2,b3,b4⟩:Aa),(⟨a3_0.Op,a3_0.Name,a3_0.Int,a3_0.Text,a3_0.Kids⟩:Aa)]:List Aa)) (fun a4=>L k a3_1.l a3_1.i a4.Op a4.Name a4.Int a4.Text a4.Kids)))) else some (Q9.done (Sum.inr ((⟨b0,b1,b2,b3,b4⟩:Aa),a2_2)))))))
  (hs:Snd 1 sub) (hq:Gg l sub q):∀ (k k':Nat) (a:Nd) (ts:List Tk),k≤k'→Sx l ts→∀ r,Ge sub ops k a ts=some r→L k' l (pos l ts) a.Op a.Name a.Int a.Text a.Kids=some (Q9.done (cR l r)):=by
 intro k
 induction k with
 | zero=>intro k' a ts hk h r hr; cases hr
 | succ k ih =>
  intro k' a ts hk h r hr
  obtain ⟨k',rfl⟩:∃ j,k'=j+1:=⟨k' - 1,by omega⟩
  rw [hL]
  have e:=Nh hK h ops ho
  change B5 K _ _ ⟨l,pos l ts⟩=_ at e
  rw [e,Option.bind_some]
  unfold Ge at hr
  cases hf:Fl ops ts with
  | none=>rw [hf] at hr; cases hr; simp only [Ff]; rfl
  | some op =>
   rw [hf] at hr
   obtain ⟨s,hs'⟩:=Fr hf
   have h1:=h.is hs'
   dsimp only at hr ⊢
   rw [if_pos rfl]
   cases hb:sub ts.tail with
   | none=>rw [hb] at hr; cases hr
   | some x =>
    rw [hq _ h1 _ hb,Option.bind_some]
    rw [hb] at hr
    have hx:=hs _ h1.gd _ hb
    match x,hr,hx with
    | .error e,hr,hx=>cases hr; rfl
    | .ok (b,ts'),hr,hx =>
     replace hx:Eat 1 _ ts':=hx
     have:=ih k' (nd op [a,b]) ts' (by omega) (h1.eat hx) r hr
     show Option.bind (Ct K op _) _=_
     simp only [Ff]
     exact this
end Go.Proofs.YtifjagfmfkemmaaGreatDoor
