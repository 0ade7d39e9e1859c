import Derived.Test.YtifjagfmfkemmaaGreatDoorLwL
set_option linter.unusedVariables false
set_option linter.unusedSimpArgs false
set_option maxHeartbeats 4000000
namespace Go.Proofs.YtifjagfmfkemmaaGreatDoor
open Eng Go
theorem Sv {s s':List UInt8} (hn:s≠s') {ts:List Tk} (h:isS s ts=true):¬ isS s' ts=true:=by
 cases ts with
 | nil=>simp [isS]
 | cons t r=>simp [isS] at h ⊢; intro _ e; exact hn (h.2.symm.trans e)
def M9 (e:List UInt8) (elem:List Tk→Rs Nd) (k:Nat) (acc:List Nd) (ts:List Tk):Rs (List Nd):=if isS e ts=true then pok acc ts.tail else bnd (D5 [44] ts) fun _ ts=>F9 e elem k acc ts
theorem Sr {K:Nat} {l:List Tk} {e:List UInt8} (he:e≠[44]) {elem:List Tk→Rs Nd} {q:Ab→Option (Int ⊕ (Nd×Ab))}
  {L:Nat→List Tk→Int→List Nd→Option (T5 ((List Nd×Ab) ⊕ Int) (List Tk×Int×List Nd))}
  (hL:∀ k l i acc,L (k+1) l i acc=(Option.bind (Ak K [44] (⟨l,i⟩:Ab)) (fun (m,f)=>(if m=true then (Option.bind (q f) (fun a4=>match a4 with |(Sum.inl a4)=>some (T5.done (Sum.inr a4)) |(Sum.inr (b,j))=>(if (acc.length+([(⟨b.Op,b.Name,b.Int,b.Text,b.Kids⟩:Aa)]:List Aa).length) * 72≤140737488355328 then L k j.l j.i (acc++([(⟨b.Op,b.Name,b.Int,b.Text,b.Kids⟩:Aa)]:List Aa)) else none))) else some (T5.go (f.l,f.i,acc))))))
  (hs:Snd 1 elem) (hq:E7 l elem q):∀ (k' k:Nat) (acc:List Nd) (ts:List Tk),k+1≤k'→acc.length+ts.length≤9000010→Sx l ts→∀ r,M9 e elem k acc ts=some r →
   obind (L k' l (pos l ts) acc) (fun r=>r) (fun (c,d,g)=>(Option.bind (Ao K e (⟨c,d⟩:Ab)) (fun a5=>match a5 with |(Sum.inl a5)=>some (Sum.inl (g,a5)) |(Sum.inr a5)=>some (Sum.inr a5))))=some (cL l r):=by
 intro k'
 induction k' with
 | zero=>intro k acc ts hk; omega
 | succ k' ih =>
  intro k acc ts hk hn h r hr;rw [hL];unfold M9 at hr;by_cases h1:isS e ts=true
  ·rw [if_pos h1] at hr;have e1:=Gl (K:=K) h (Sv he h1);change Ak K _ ⟨l,pos l ts⟩=_ at e1;rw [e1];cases hr;show Option.bind (Ao K e (st l ts)) _=_;rw [H5 h h1]; rfl
  ·rw [if_neg h1] at hr;by_cases h2:isS [44] ts=true
   ·have e1:=Gy (K:=K) h h2;change Ak K _ ⟨l,pos l ts⟩=_ at e1;rw [e1];unfold D5 at hr;rw [if_pos h2] at hr;replace hr:F9 e elem k acc ts.tail=some r:=hr;cases k with
    | zero=>cases hr
    | succ k =>
     replace hr:bnd (elem ts.tail) (fun a ts=>M9 e elem k (acc++[a]) ts)=some r:=hr;have h3:=h.is h2;show obind (Option.bind (q (st l ts.tail)) _) _ _=_;cases hb:elem ts.tail with
     | none=>rw [hb] at hr; cases hr
     | some x =>
      rw [hq _ h3 _ hb,Option.bind_some];rw [hb] at hr;have hx:=hs _ h3.gd _ hb
      match x,hr,hx with
      | .error e,hr,hx=>cases hr; rfl
      | .ok (a,ts'),hr,hx =>
       replace hx:Eat 1 _ ts':=hx
       have:=hx.2.1; have:=(Eat.isS h.gd h2).2.1; have:=h.len
       simp only [cR,Eu];rw [if_pos (by simp; omega)];exact ih k (acc++[a]) ts' (by omega) (by simp; omega) (h3.eat hx) r hr
   ·have e1:=Gl (K:=K) h h2;change Ak K _ ⟨l,pos l ts⟩=_ at e1;rw [e1];unfold D5 at hr;rw [if_neg h2] at hr;cases hr;show Option.bind (Ao K e (st l ts)) _=_;rw [Ia h h1]; rfl
theorem Jf {K:Nat} (hK:9000010≤K∨True) {l:List Tk} (hKl:l.length+2≤K) {e:List UInt8} (he:e≠[44]) {elem:List Tk→Rs Nd} {q:Ab→Option (Int ⊕ (Nd×Ab))}
  {L:Nat→List Tk→Int→List Nd→Option (T5 ((List Nd×Ab) ⊕ Int) (List Tk×Int×List Nd))} {Q:Ab→Option ((List Nd×Ab) ⊕ Int)}
  (hL:∀ k l i acc,L (k+1) l i acc=(Option.bind (Ak K [44] (⟨l,i⟩:Ab)) (fun (p,g)=>(if p=true then (Option.bind (q g) (fun a4=>match a4 with |(Sum.inl a4)=>some (T5.done (Sum.inr a4)) |(Sum.inr (b,m))=>(if (acc.length+([(⟨b.Op,b.Name,b.Int,b.Text,b.Kids⟩:Aa)]:List Aa).length) * 72≤140737488355328 then L k m.l m.i (acc++([(⟨b.Op,b.Name,b.Int,b.Text,b.Kids⟩:Aa)]:List Aa)) else none))) else some (T5.go (g.l,g.i,acc))))))
  (hQ:∀ p1,Q p1=(Option.bind (Ak K e p1) (fun (s,n)=>(if s=true then some (Sum.inl (([]:List Aa),n)) else (Option.bind (q n) (fun a2=>match a2 with |(Sum.inl a2)=>some (Sum.inr a2) |(Sum.inr (c,o))=>(obind (L K o.l o.i ([(⟨c.Op,c.Name,c.Int,c.Text,c.Kids⟩:Aa)]:List Aa)) (fun r=>r) (fun (d,f,j)=>(Option.bind (Ao K e (⟨d,f⟩:Ab)) (fun a5=>match a5 with |(Sum.inl a5)=>some (Sum.inl (j,a5)) |(Sum.inr a5)=>some (Sum.inr a5)))))))))))
  (hs:Snd 1 elem) (hq:E7 l elem q):K9 l (Fv e elem) Q:=by
 intro ts h r hr;rw [hQ];unfold Fv at hr;by_cases h1:isS e ts=true
 ·rw [if_pos h1] at hr; cases hr;rw [Gy h h1]; rfl
 ·rw [if_neg h1] at hr;rw [Gl h h1];replace hr:bnd (elem ts) (fun a ts'=>M9 e elem ts.length ([]++[a]) ts')=some r:=hr;show Option.bind (q (st l ts)) _=_;cases hb:elem ts with
  | none=>rw [hb] at hr; cases hr
  | some x =>
   rw [hq _ h _ hb,Option.bind_some];rw [hb] at hr;have hx:=hs _ h.gd _ hb
   match x,hr,hx with
   | .error e,hr,hx=>cases hr; rfl
   | .ok (a,ts'),hr,hx =>
    replace hx:Eat 1 _ ts':=hx
    have:=hx.2.1; have:=h.len; have:=h.hl
    simp only [cR,Eu];exact Sr he hL hs hq K _ [a] ts' (by omega) (by simp; omega) (h.eat hx) r hr
abbrev GP:=Ag
theorem Sf {K:Nat} {l:List Tk} {R:GP} {ex:List Tk→Rs Nd} (hs:Snd 1 ex) (hq:E7 l ex R.As):∀ (k k':Nat) (a:Nd) (ts:List Tk),k≤k'→Sx l ts→∀ r,Fw ex k a ts=some r →
  A9.l6 K R k' l (pos l ts) a.Op a.Name a.Int a.Text a.Kids=some (T5.done (cR l r)):=by
 intro k
 induction k with
 | zero=>intro k' a ts hk h r hr; cases hr
 | succ k ih =>
  intro k' a ts hk h r hr;obtain ⟨k',rfl⟩:∃ j,k'=j+1:=⟨k' - 1,by omega⟩
  rw [A9.l6];change Option.bind (Ak K _ (st l ts)) _=_;unfold Fw at hr;by_cases h1:isS [46] ts=true
  ·rw [if_pos h1] at hr;rw [Gy h h1];have h3:=h.is h1;show Option.bind (Au K (st l ts.tail)) _=_;cases hb:Fi ts.tail with
   | none=>rw [hb] at hr; cases hr
   | some x =>
    rw [F5 h3 hb,Option.bind_some];rw [hb] at hr;have hx:=C6 _ h3.gd _ hb
    match x,hr,hx with
    | .error e,hr,hx=>cases hr; rfl
    | .ok (s,ts'),hr,hx =>
     simp only [cR,Eu];exact ih k' ⟨29,s,0,[],[a]⟩ ts' (by omega) (h3.eat hx) r hr
  ·rw [if_neg h1] at hr;rw [Gl h h1];show Option.bind (Ak K _ (st l ts)) _=_;by_cases h2:isS [91] ts=true
   ·rw [if_pos h2] at hr;rw [Gy h h2];have h3:=h.is h2;show Option.bind (R.As (st l ts.tail)) _=_;cases hb:ex ts.tail with
    | none=>rw [hb] at hr; cases hr
    | some x =>
     rw [hq _ h3 _ hb,Option.bind_some];rw [hb] at hr;have hx:=hs _ h3.gd _ hb
     match x,hr,hx with
     | .error e,hr,hx=>cases hr; rfl
     | .ok (b,ts'),hr,hx =>
      have h4:=h3.eat hx;simp only [cR,Eu,Cu,Option.bind_some];replace hr:bnd (D5 [93] ts') (fun _ ts=>Fw ex k (nd 28 [a,b]) ts)=some r:=hr;unfold D5 at hr;by_cases h5:isS [93] ts'=true
      ·rw [if_pos h5] at hr;rw [H5 h4 h5];exact ih k' (nd 28 [a,b]) ts'.tail (by omega) (h4.is h5) r hr
      ·rw [if_neg h5] at hr;rw [Ia h4 h5]; cases hr; rfl
   ·rw [if_neg h2] at hr;rw [Gl h h2];cases hr;simp only [Eu]; rfl
structure PK (K:Nat) (l:List Tk) (S:SP) (R:GP):Prop where
 ex:E7 l S.ex R.As
 cj:E7 l S.cj R.B9
 nt:E7 l S.nt R.Bm
 sm:E7 l S.sm R.B2
 pd:E7 l S.pd R.Bn
 un:E7 l S.un R.A7
 pm:K9 l S.pm R.Br
 pr:E7 l S.pr R.B3
theorem J3 {l:List Tk} (r:Except (List Tk) (Nd×List Tk)):(match cR l r with |(Sum.inl a1)=>some (Sum.inl a1) |(Sum.inr (b,c))=>some (Sum.inr (b,c)):Option (Int ⊕ (Nd×Ab)))=some (cR l r):=by
 match r with
 | .error e=>rfl
 | .ok (a,ts)=>rfl
theorem Il {K:Nat} (hK:1000≤K) {l:List Tk} (hKl:l.length+2≤K) {sub:List Tk→Rs Nd} {ops:Ops} (ho:ops.length < 1000) {q Q:Ab→Option (Int ⊕ (Nd×Ab))}
  {L:Nat→List Tk→Int→Int→List UInt8→Int→List UInt8→List Nd→Option (T5 (Int ⊕ (Nd×Ab)) Unit)}
  (hL:∀ k l i b0 b1 b2 b3 b4,L (k+1) l i b0 b1 b2 b3 b4=(Option.bind (Bx K (ops.map (·.1)) (ops.map (·.2)) (⟨l,i⟩:Ab)) (fun (j,m,f)=>(if m=true then (Option.bind (q f) (fun a3=>match a3 with |(Sum.inl a3)=>some (T5.done (Sum.inl a3)) |(Sum.inr (c,g))=>(Option.bind (Cu K j ([(⟨b0,b1,b2,b3,b4⟩:Aa),(⟨c.Op,c.Name,c.Int,c.Text,c.Kids⟩:Aa)]:List Aa)) (fun a4=>L k g.l g.i a4.Op a4.Name a4.Int a4.Text a4.Kids)))) else some (T5.done (Sum.inr ((⟨b0,b1,b2,b3,b4⟩:Aa),f)))))))
  (hQ:∀ p,Q p=(Option.bind (Option.bind (q p) (fun a1=>match a1 with |(Sum.inl a1)=>some (Sum.inl a1) |(Sum.inr (b,d))=>(obind (L K d.l d.i b.Op b.Name b.Int b.Text b.Kids) (fun r=>r) (fun _=>none)))) (fun a1=>match a1 with |(Sum.inl a1)=>some (Sum.inl a1) |(Sum.inr (b,d))=>some (Sum.inr (b,d)))))
  (hs:Snd 1 sub) (hq:E7 l sub q):E7 l (H3 sub ops) Q:=by
 intro ts h r hr;rw [hQ];unfold H3 at hr;cases hb:sub ts with
 | none=>rw [hb] at hr; cases hr
 | some x =>
  rw [hq _ h _ hb];rw [hb] at hr;have hx:=hs _ h.gd _ hb
  match x,hr,hx with
  | .error e,hr,hx=>cases hr; rfl
  | .ok (a,ts'),hr,hx =>
   have h2:=h.eat hx
   have:=h2.len
   replace hr:Fx sub ops (ts'.length+1) a ts'=some r:=hr
   have:=Rl hK ho hL hs hq (ts'.length+1) K a ts' (by omega) h2 r hr
   show Option.bind (obind (L K l (pos l ts') a.Op a.Name a.Int a.Text a.Kids) _ _) _=_;rw [this];exact J3 r
end Go.Proofs.YtifjagfmfkemmaaGreatDoor
