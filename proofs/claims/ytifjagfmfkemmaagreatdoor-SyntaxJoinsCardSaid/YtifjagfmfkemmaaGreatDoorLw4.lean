import Derived.Test.YtifjagfmfkemmaaGreatDoorLw3
set_option linter.unusedVariables false
set_option linter.unusedSimpArgs false
set_option maxHeartbeats 4000000
namespace Go.Proofs.YtifjagfmfkemmaaGreatDoor
open Eng Go
def FinO:List (List UInt8):=[[111,114],[97,110,100],[60],[60,61],[62],[62,61],[61,61],[33,61],[43],[45],[42],[47],[37],[46],[91],[40]]
abbrev AF (s:List UInt8):Prop:=s∈FinO
abbrev AN (s:List UInt8):Prop:=False
abbrev AT (s:List UInt8):Prop:=True
section
variable {A:List UInt8→Prop} {n:Nat}
theorem Iy {sub:List Tk→Rs Nd} {ops:Ops} (ho:∀ o∈ops,A o.1) (hs:Snd 1 sub) (h:Lo A sub):∀ (n k k':Nat) (a:Nd),n < k'→Lo2 A n (Fx sub ops k a) (Fx sub ops k' a)
 | n,0,k',a,hk=>fun pre r pre' r' b g1 g2 g3 g4 hz hA hn hr=>by cases hr
 | n,k+1,0,a,hk=>by omega
 | n,k+1,k'+1,a,hk=>by
  refine Lo2.ops (ops:=ops) (p:=fun op=>sq sub fun b=>Fx sub ops k (nd op [a,b])) (p':=fun op=>sq sub fun b=>Fx sub ops k' (nd op [a,b])) (q:=pok a) (q':=pok a) (fun ts=>rfl) (fun ts=>rfl) (fun op=>hs.le.sq fun b=>Gv ops hs _ _) (fun op=>?_) (Lo2.pure a) (.inl ho);exact Lo2.seq (d:=1) (e:=0) hs (h _) (fun b=>Gv ops hs _ _) (fun b=>by
   by_cases h0:n≤1
   ·by_cases h1:k'=0
    ·subst h1
     have:n=0:=by omega
     subst this;intro pre r pre' r' b g1 g2 g3 g4 hz hA hn hr
     have:=g2.ne
     cases hx:pre'++r' with
     | nil=>exact absurd hx this
     | cons t u=>rw [hx] at hn; simp at hn
    ·exact Iy ho hs h _ k k' _ (by omega)
   ·exact Iy ho hs h _ k k' _ (by omega)) (.inl fun s h=>h)
theorem Iq {sub:List Tk→Rs Nd} {ops:Ops} (ho:∀ o∈ops,A o.1) (hs:Snd 1 sub) (h:Lo A sub):Lo A (H3 sub ops):=fun n =>
 Lo2.seq (d:=0) (e:=0) (f:=fun a ts=>Fx sub ops (ts.length+1) a ts) (f':=fun a ts=>Fx sub ops (ts.length+1) a ts) hs.le (h n) (fun a ts=>Gv ops hs _ _ ts) (fun a=>Lo2.len (p:=fun k=>Fx sub ops k a) (p':=fun k=>Fx sub ops k a) fun m hm k k' hk=>Iy ho hs h _ _ _ _ hk) (.inl fun s h=>h)
theorem La {e:List UInt8} {elem:List Tk→Rs Nd} {B:List UInt8→Prop} (hs:Snd 1 elem) (h:Lo B elem):∀ (n k k':Nat) (acc:List Nd),n < k'→Lo2 A n (F9 e elem k acc) (F9 e elem k' acc)
 | n,0,k',a,hk=>fun pre r pre' r' b g1 g2 g3 g4 hz hA hn hr=>by cases hr
 | n,k+1,0,a,hk=>by omega
 | n,k+1,k'+1,acc,hk=>by
  have sl:=fun a=>Hz (e:=e) hs k (acc++[a])
  refine Lo2.seq (d:=1) (e:=1) (f:=fun a=>al e (pok (acc++[a])) (sq (D5 [44]) fun _=>F9 e elem k (acc++[a]))) (f':=fun a=>al e (pok (acc++[a])) (sq (D5 [44]) fun _=>F9 e elem k' (acc++[a]))) hs (h _) (fun a=>Snd.al (by omega) (Cn _) ((Cf _).sq fun _=>(sl a).le)) (fun a=>?_) (.inr (Nat.le_refl _));refine Lo2.alt (Cn _) (Lo2.pure _) (Lo2.seq (d:=1) (e:=0) (Cf _) (Lo2.want (A:=AN) _) (fun _=>(sl a).le) (fun _=>?_) (.inl fun s h=>h.elim)) (.inr ((Cf _).sq fun _=>(sl a).le));by_cases h0:n - 1 - 1 < k'
  ·exact La hs h _ k k' _ h0
  ·intro pre r pre' r' b g1 g2 g3 g4 hz hA hn hr
   have:=g2.ne
   cases hx:pre'++r' with
   | nil=>exact absurd hx this
   | cons t u=>rw [hx] at hn; simp at hn; omega
theorem Hn {e:List UInt8} {elem:List Tk→Rs Nd} {B:List UInt8→Prop} (hs:Snd 1 elem) (h:Lo B elem):Lo A (Fv e elem):=fun n =>
 Lo2.alt (p:=pok []) (p':=pok []) (q:=fun ts=>F9 e elem (ts.length+1) [] ts) (q':=fun ts=>F9 e elem (ts.length+1) [] ts) (Cn _) (Lo2.pure _) (Lo2.len (p:=fun k=>F9 e elem k []) (p':=fun k=>F9 e elem k []) fun m hm k k' hk=>La hs h _ _ _ _ hk) (.inr fun ts=>Hz hs _ _ ts)
theorem Lf {ex:List Tk→Rs Nd} {B:List UInt8→Prop} (hs:Snd 1 ex) (h:Lo B ex) (h1:A [46]) (h2:A [91]):∀ (n k k':Nat) (a:Nd),n < k'→Lo2 A n (Fw ex k a) (Fw ex k' a)
 | n,0,k',a,hk=>fun pre r pre' r' b g1 g2 g3 g4 hz hA hn hr=>by cases hr
 | n,k+1,0,a,hk=>by omega
 | n,k+1,k'+1,a,hk=>by
  have sp:=fun a=>Gq hs k a
  have empty:∀ {m:Nat} {p p':List Tk→Rs Nd},m=0→Lo2 A m p p':=fun h0 pre r pre' r' b g1 g2 g3 g4 hz hA hn hr=>by
   have:=g2.ne
   cases hx:pre'++r' with
   | nil=>exact absurd hx this
   | cons t u=>rw [hx] at hn; simp at hn; omega
  have ih:∀ a,Lo2 A (n - 1) (Fw ex k a) (Fw ex k' a):=fun a=>by
   by_cases h0:n - 1 < k'
   ·exact Lf hs h h1 h2 _ k k' _ h0
   ·exact empty (by omega)
  refine Lo2.alt (p:=sq Fi fun s=>Fw ex k ⟨29,s,0,[],[a]⟩) (p':=sq Fi fun s=>Fw ex k' ⟨29,s,0,[],[a]⟩) (q:=al [91] (sq ex fun b=>sq (D5 [93]) fun _=>Fw ex k (nd 28 [a,b])) (pok a)) (q':=al [91] (sq ex fun b=>sq (D5 [93]) fun _=>Fw ex k' (nd 28 [a,b])) (pok a))
   (C6.le.sq fun s=>sp _) ?_ ?_ (.inl h1)
  ·exact Lo2.seq (d:=0) (e:=0) C6.le (Lo2.name (A:=AN)) (fun s=>sp _) (fun s=>ih _) (.inl fun s h=>h.elim)
  ·refine Lo2.alt (hs.le.sq fun b=>(Cf _).le.sq fun _=>sp _) ?_ (Lo2.pure a) (.inl h2);exact Lo2.seq (d:=0) (e:=1) hs.le (h _) (fun b=>(Cf _).sq fun _=>sp _) (fun b=>Lo2.seq (d:=0) (e:=0) (Cf _).le (Lo2.want (A:=AN) _) (fun _=>sp _) (fun _=>ih _) (.inl fun s h=>h.elim)) (.inr (Nat.le_refl _))
theorem Ns {R:SP} (hR:Gp R) {B:List UInt8→Prop} (h:Lo B R.ex) (op:Int) (s:List UInt8):Lo A (Ga R op s):=fun n=>by
 show Lo2 (α:=Nd) A n (sq (D5 [40]) fun _=>sq (Fv [41] R.ex) fun ks=>pok ⟨op,s,0,[],ks⟩) (sq (D5 [40]) fun _=>sq (Fv [41] R.ex) fun ks=>pok ⟨op,s,0,[],ks⟩);exact Lo2.seq (d:=0) (e:=0) (Cf _).le (Lo2.want (A:=AN) _) (fun _=>(Eo hR.ex).le.sq fun ks=>Cn _)
  (fun _=>Lo2.seq (d:=0) (e:=0) (Eo hR.ex).le (Hn (A:=AN) hR.ex h _) (fun ks=>Cn _) (fun ks=>Lo2.pure _) (.inl fun s h=>h.elim)) (.inl fun s h=>h.elim)
end
structure LoR (R:SP):Prop where
 ex:Lo AF R.ex
 cj:Lo AF R.cj
 nt:Lo AF R.nt
 sm:Lo AF R.sm
 pd:Lo AF R.pd
 un:Lo AF R.un
 pm:Lo AF R.pm
 pr:Lo AF R.pr
theorem L9 {t t':Tk} (h:zt t=zt t') (r r':List Tk):Hl (t' :: r')=(Hl (t :: r)).map fun x=>(x.1,r'):=by
 have e:∀ s,isS s (t' :: r')=isS s (t :: r):=fun s=>(K0 h s _ _).symm
 have e1:t'.Kind=t.Kind:=(congrArg (fun x=>x.1) h).symm;have e2:t'.Text=t.Text:=(congrArg (fun x=>x.2.1) h).symm;have e3:t'.Int=t.Int:=(congrArg (fun x=>x.2.2) h).symm;have e4:Ev Hj (t' :: r')=Ev Hj (t :: r):=Hc fun o _=>e _
 simp only [Hl,e1,e2,e3,e4];split
 ·rfl
 ·split
  ·rfl
  ·cases Ev Hj (t :: r) <;> rfl
theorem loF {R:SP} (hR:Gp R) (h:LoR R):LoR (SPF R) where
 ex:=Iq (by decide) hR.cj h.cj
 cj:=Iq (by decide) hR.nt h.nt
 sm:=Iq (by decide) hR.pd h.pd
 pd:=Iq (by decide) hR.un h.un
 nt:=fun n=>by
  have s1:∀ a op,Snd 0 (sq R.sm fun b=>pok (nd op [a,b])):=fun a op=>hR.sm.le.sq fun b=>Cn _
  refine Lo2.alt (s:=[110,111,116]) (p:=sq R.nt fun a=>pok (nd 13 [a])) (p':=sq R.nt fun a=>pok (nd 13 [a])) (q:=sq R.sm fun a ts=>match Ev Gs ts with
   | none=>pok a ts
   | some op=>bnd (R.sm ts.tail) fun b ts=>pok (nd op [a,b]) ts) (q':=sq R.sm fun a ts=>match Ev Gs ts with
   | none=>pok a ts
   | some op=>bnd (R.sm ts.tail) fun b ts=>pok (nd op [a,b]) ts) (hR.nt.le.sq fun a=>Cn _) (Lo2.seq (d:=0) (e:=0) hR.nt.le (h.nt _) (fun a=>Cn _) (fun a=>Lo2.pure _) (.inl fun s h=>h)) ?_ (.inr ?_)
  ·refine Lo2.seq (d:=0) (e:=0) hR.sm.le (h.sm _) (fun a ts hg r hr=>?_) (fun a=>?_) (.inl fun s h=>h)
   ·split at hr
    ·cases hr; exact Eat.self hg
    ·rename_i op ho;obtain ⟨s,hs⟩:=E4 ho;have h1:=Eat.isS hg hs;exact (Ate.after h1 (s1 a op _ h1.2.2 r hr)).le (by omega)
   ·exact Lo2.ops (ops:=Gs) (p:=fun op=>sq R.sm fun b=>pok (nd op [a,b])) (p':=fun op=>sq R.sm fun b=>pok (nd op [a,b])) (q:=pok a) (q':=pok a) (fun ts=>rfl) (fun ts=>rfl) (s1 a) (fun op=>Lo2.seq (d:=0) (e:=0) hR.sm.le (h.sm _) (fun b=>Cn _) (fun b=>Lo2.pure _) (.inl fun s h=>h)) (Lo2.pure a) (.inl (by decide))
  ·intro ts hg r hr
   have:=(Sj hR).nt ts hg r
   refine hR.sm.sq (fun a ts hg r hr=>?_) ts hg r hr;split at hr
   ·cases hr; exact Eat.self hg
   ·rename_i op ho;obtain ⟨s,hs⟩:=E4 ho;have h1:=Eat.isS hg hs;exact (Ate.after h1 (s1 a op _ h1.2.2 r hr)).le (by omega)
 un:=fun n=>by
  have q3:Snd 1 (sq R.pm fun a ts=>Fw R.ex (ts.length+1) a ts):=hR.pm.sq fun a ts=>Gq hR.ex _ _ ts
  have q2:Snd 1 (al [103,111] (sq Fi fun s=>Ga R 11 s) (sq R.pm fun a ts=>Fw R.ex (ts.length+1) a ts)):=Snd.al (by omega) (C6.le.sq fun s=>(F6 hR _ s).le) q3;have q1:Snd 1 (al [97,119,97,105,116] (sq R.un fun a=>pok (nd 12 [a])) <| al [103,111] (sq Fi fun s=>Ga R 11 s) (sq R.pm fun a ts=>Fw R.ex (ts.length+1) a ts)):=Snd.al (by omega) (hR.un.le.sq fun a=>Cn _) q2;have one:∀ (m:Nat) (op:Int),Lo2 AF m (sq R.un fun a=>pok (nd op [a])) (sq R.un fun a=>pok (nd op [a])):=fun m op=>Lo2.seq (d:=0) (e:=0) hR.un.le (h.un _) (fun a=>Cn _) (fun a=>Lo2.pure _) (.inl fun s h=>h)
  refine Lo2.alt (s:=[45]) (p:=sq R.un fun a=>pok (nd 14 [a])) (p':=sq R.un fun a=>pok (nd 14 [a])) (hR.un.le.sq fun a=>Cn _) (one _ _) (Lo2.alt (hR.un.le.sq fun a=>Cn _) (one _ _) (Lo2.alt (C6.le.sq fun s=>(F6 hR _ s).le) (Lo2.seq (d:=0) (e:=0) C6.le (Lo2.name (A:=AN)) (fun s=>(F6 hR _ s).le) (fun s=>Ns hR h.ex _ _ _) (.inl fun s h=>h.elim)) ?_ (.inr q3)) (.inr q2)) (.inr q1);exact Lo2.seq (d:=0) (e:=0) hR.pm.le (h.pm _) (fun a ts=>Gq hR.ex _ _ ts) (fun a=>Lo2.len (p:=fun k=>Fw R.ex k a) (p':=fun k=>Fw R.ex k a) fun m hm k k' hk=>Lf hR.ex h.ex (by decide) (by decide) _ _ _ _ hk) (.inl fun s h=>h)
 pm:=fun n=>by
  intro pre r pre' r' b g1 g2 g3 g4 hz hA hn hr;have e0:Eat 1 _ r:=(Sj hR).pm _ g1 _ hr;cases pre with
  | nil=>have:=e0.2.1; simp at this; omega
  | cons t pre =>
   obtain ⟨t',b',rfl,z1,z2⟩:=Zq.cons hz;have hl:=L9 z1 (pre++r) (b'++r');replace hr:pmF R (t ::(pre++r))=_:=hr;show pmF R (t' ::(b'++r'))=_;unfold pmF at hr ⊢;rw [hl];have e1:t'.Kind=t.Kind:=(congrArg (fun x=>x.1) z1).symm;have e2:t'.Text=t.Text:=(congrArg (fun x=>x.2.1) z1).symm;cases hlit:Hl (t ::(pre++r)) with
   | some p =>
    obtain ⟨a,u⟩:=p;rw [hlit] at hr;cases hr
    have:=(Jm g1 hlit).2
    have hpre:pre=[]:=by
     have:=congrArg List.length this
     simp only [List.tail_cons,List.cons_append,List.length_append] at this;exact List.eq_nil_of_length_eq_zero (by omega)
    subst hpre;obtain rfl:=Zq.nil z2;rfl
   | none =>
    rw [hlit] at hr;simp only [Option.map_none,Fo,e1] at hr ⊢;by_cases hk:t.Kind=1
    ·rw [if_pos hk] at hr ⊢;simp only [e2];refine Lo2.test (A:=AF) (n:=(b'++r').length) (s:=[40]) (P:=fun r=>if isS [40] r=true then Ga R 10 t.Text r else pok ⟨6,t.Text,0,[],[]⟩ r) (P':=fun r=>if isS [40] r=true then Ga R 10 t.Text r else pok ⟨6,t.Text,0,[],[]⟩ r) (p:=sq (Fv [41] R.ex) fun ks=>pok ⟨10,t.Text,0,[],ks⟩) (p':=sq (Fv [41] R.ex) fun ks=>pok ⟨10,t.Text,0,[],ks⟩) (q:=pok ⟨6,t.Text,0,[],[]⟩) (q':=pok ⟨6,t.Text,0,[],[]⟩) (fun ts=>?_) (fun ts=>?_) ((Eo hR.ex).le.sq fun ks=>Cn _) (Lo2.seq (d:=0) (e:=0) (Eo hR.ex).le (Hn (A:=AN) hR.ex h.ex _) (fun ks=>Cn _) (fun ks=>Lo2.pure _) (.inl fun s h=>h.elim)) (Lo2.pure _) (.inl (by decide)) pre r b' r' b (g1.tl (by omega)) (g2.tl (by omega)) g3 g4 z2 hA (Nat.le_refl _) hr
     ·unfold Ga D5;by_cases hs:isS [40] ts=true
      ·rw [if_pos hs,if_pos hs,if_pos hs]; rfl
      ·rw [if_neg hs,if_neg hs]
     ·unfold Ga D5;by_cases hs:isS [40] ts=true
      ·rw [if_pos hs,if_pos hs,if_pos hs]; rfl
      ·rw [if_neg hs,if_neg hs]
    ·rw [if_neg hk] at hr ⊢;have q2:Snd 1 (sq (D5 [40]) fun _=>sq R.ex fun a=>sq (D5 [41]) fun _=>pok a):=(Cf _).sq fun _=>hR.ex.le.sq fun a=>(Cf _).le.sq fun _=>Cn _
     have q1:Snd 1 (al [123] (sq (Fv [125] R.pr) fun ks=>pok (nd 8 ks)) <| sq (D5 [40]) fun _=>sq R.ex fun a=>sq (D5 [41]) fun _=>pok a):=Snd.al (by omega) ((Eo hR.pr).le.sq fun ks=>Cn _) q2;exact Lo2.alt (A:=AF) (n:=(t' ::(b'++r')).length) (s:=[91]) (p:=sq (Fv [93] R.ex) fun ks=>pok (nd 7 ks)) (p':=sq (Fv [93] R.ex) fun ks=>pok (nd 7 ks)) ((Eo hR.ex).le.sq fun ks=>Cn _)
      (Lo2.seq (d:=0) (e:=0) (Eo hR.ex).le (Hn (A:=AN) hR.ex h.ex _) (fun ks=>Cn _) (fun ks=>Lo2.pure _) (.inl fun s h=>h.elim))
      (Lo2.alt ((Eo hR.pr).le.sq fun ks=>Cn _) (Lo2.seq (d:=0) (e:=0) (Eo hR.pr).le (Hn (A:=AN) hR.pr h.pr _) (fun ks=>Cn _) (fun ks=>Lo2.pure _) (.inl fun s h=>h.elim))
       (Lo2.seq (d:=0) (e:=0) (Cf _).le (Lo2.want (A:=AN) _) (fun _=>hR.ex.le.sq fun a=>(Cf _).le.sq fun _=>Cn _) (fun _=>Lo2.seq (d:=0) (e:=1) hR.ex.le (h.ex _) (fun a=>(Cf _).sq fun _=>Cn _) (fun a=>Lo2.seq (d:=0) (e:=0) (Cf _).le (Lo2.want (A:=AN) _) (fun _=>Cn _) (fun _=>Lo2.pure _) (.inl fun s h=>h.elim)) (.inr (Nat.le_refl _))) (.inl fun s h=>h.elim)) (.inr q2)) (.inr q1)
      (t :: pre) r (t' :: b') r' b g1 g2 g3 g4 hz hA (Nat.le_refl _) hr
 pr:=fun n=>by
  show Lo2 (α:=Nd) AF n (sq (Fo 4) fun t=>sq (D5 [58]) fun _=>sq R.ex fun a=>pok ⟨9,[],0,t.Text,[a]⟩) (sq (Fo 4) fun t=>sq (D5 [58]) fun _=>sq R.ex fun a=>pok ⟨9,[],0,t.Text,[a]⟩);refine Lo2.kind (by decide) (fun t=>(Cf _).le.sq fun _=>hR.ex.le.sq fun a=>Cn _) fun t t' z=>?_
  have e2:t.Text=t'.Text:=congrArg (fun x=>x.2.1) z;rw [e2];exact Lo2.seq (d:=0) (e:=0) (Cf _).le (Lo2.want (A:=AN) _) (fun _=>hR.ex.le.sq fun a=>Cn _) (fun _=>Lo2.seq (d:=0) (e:=0) hR.ex.le (h.ex _) (fun a=>Cn _) (fun a=>Lo2.pure _) (.inl fun s h=>h)) (.inl fun s h=>h.elim)
theorem loU:∀ f,LoR (SPu f)
 | 0=>⟨fun _ _ _ _ _ _ _ _ _ _ _ _ _ h=>(by cases h),fun _ _ _ _ _ _ _ _ _ _ _ _ _ h=>(by cases h),fun _ _ _ _ _ _ _ _ _ _ _ _ _ h=>(by cases h),fun _ _ _ _ _ _ _ _ _ _ _ _ _ h=>(by cases h),fun _ _ _ _ _ _ _ _ _ _ _ _ _ h=>(by cases h),fun _ _ _ _ _ _ _ _ _ _ _ _ _ h=>(by cases h),fun _ _ _ _ _ _ _ _ _ _ _ _ _ h=>(by cases h),fun _ _ _ _ _ _ _ _ _ _ _ _ _ h=>(by cases h)⟩
 | f+1=>loF (P0 f) (loU f)
end Go.Proofs.YtifjagfmfkemmaaGreatDoor
