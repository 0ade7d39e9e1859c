import Derived.Test.YtifjagfmfkemmaaGreatDoorLw2
set_option linter.unusedVariables false
set_option linter.unusedSimpArgs false
set_option maxHeartbeats 4000000
namespace Go.Proofs.YtifjagfmfkemmaaGreatDoor
open Eng Go
def zt (t:Tk):Int×List UInt8×Int:=(t.Kind,t.Text,t.Int)
def Zq (a b:List Tk):Prop:=a.map zt=b.map zt
theorem Zq.len {a b:List Tk} (h:Zq a b):a.length=b.length:=by
 have:=congrArg List.length h
 simpa using this
theorem Zq.nil {b:List Tk} (h:Zq [] b):b=[]:=by
 cases b with
 | nil=>rfl
 | cons t b=>cases h
theorem Zq.cons {t:Tk} {a b:List Tk} (h:Zq (t :: a) b):∃ t' b',b=t' :: b'∧zt t=zt t'∧Zq a b':=by
 cases b with
 | nil=>cases h
 | cons t' b' =>
  unfold Zq at h;rw [List.map_cons,List.map_cons] at h;injection h with h1 h2;exact ⟨t',b',rfl,h1,h2⟩
theorem Zq.app {a1 a2 b:List Tk} (h:Zq (a1++a2) b):∃ b1 b2,b=b1++b2∧Zq a1 b1∧Zq a2 b2:=by
 induction a1 generalizing b with
 | nil=>exact ⟨[],b,rfl,rfl,h⟩
 | cons t a1 ih =>
  obtain ⟨t',b',rfl,h1,h2⟩:=Zq.cons h;obtain ⟨b1,b2,rfl,h3,h4⟩:=ih h2;refine ⟨t' :: b1,b2,rfl,?_,h4⟩;unfold Zq at h3 ⊢;rw [List.map_cons,List.map_cons,h1,h3]
theorem K0 {t t':Tk} (h:zt t=zt t') (s:List UInt8) (r r':List Tk):isS s (t :: r)=isS s (t' :: r'):=by
 unfold zt at h;injection h with h1 h2;injection h2 with h2 h3;unfold isS;simp only [h1,h2]
theorem Fh.app {a b:List Tk} (h:Fh (a++b)) (hb:b≠[]):Fh b:=by
 induction a with
 | nil=>exact h
 | cons t a ih =>
  apply ih;cases hx:a++b with
  | nil=>simp at hx; exact absurd hx.2 hb
  | cons u v=>rw [List.cons_append,hx] at h; exact h
def Lo2 {α:Type} (A:List UInt8→Prop) (n:Nat) (p p':List Tk→Rs α):Prop:=∀ pre r pre' r' a,Fh (pre++r)→Fh (pre'++r')→Fh r→Fh r'→Zq pre pre'→(∀ s,A s→isS s r=isS s r')→(pre'++r').length≤n→p (pre++r)=some (.ok (a,r))→p' (pre'++r')=some (.ok (a,r'))
abbrev Lo {α:Type} (A:List UInt8→Prop) (p:List Tk→Rs α):Prop:=∀ n,Lo2 A n p p
section
variable {α β:Type} {A B:List UInt8→Prop} {n:Nat}
theorem Lo2.mono {p p':List Tk→Rs α} (h:Lo2 A n p p') (hAB:∀ s,A s→B s) {m:Nat} (hm:m≤n):Lo2 B m p p':=fun pre r pre' r' a g1 g2 g3 g4 hz hA hn hr=>h pre r pre' r' a g1 g2 g3 g4 hz (fun s hs=>hA s (hAB s hs)) (by omega) hr
theorem Lj {pre r pre' r':List Tk} (hz:Zq pre pre') (hA:(∀ s,B s→isS s r=isS s r')∨pre≠[]):∀ s,B s→isS s (pre++r)=isS s (pre'++r'):=by
 intro s hs;cases pre with
 | nil =>
  obtain rfl:=Zq.nil hz;rcases hA with hA | hA
  ·exact hA s hs
  ·exact absurd rfl hA
 | cons t pre =>
  obtain ⟨t',b',rfl,h1,h2⟩:=Zq.cons hz;exact K0 h1 s _ _
theorem Lo2.seq {d e:Nat} {p p':List Tk→Rs α} {f f':α→List Tk→Rs β} (sp:Snd d p) (hp:Lo2 B n p p') (sf:∀ a,Snd e (f a)) (hf:∀ a,Lo2 A (n - d) (f a) (f' a)) (hAB:(∀ s,B s→A s)∨1≤e):Lo2 A n (sq p f) (sq p' f'):=by
 intro pre r pre' r' b g1 g2 g3 g4 hz hA hn hr;obtain ⟨a,ts,hx,hy⟩:=Ha hr;have e1:Eat d (pre++r) ts:=sp _ g1 _ hx;have e2:Eat e ts r:=sf a _ e1.2.2 _ hy;obtain ⟨x,hx1⟩:=e1.1;obtain ⟨y,hy1⟩:=e2.1;subst hy1;rw [← List.append_assoc] at hx1;obtain rfl:=List.append_cancel_right hx1;obtain ⟨x',y',rfl,z1,z2⟩:=Zq.app hz;rw [List.append_assoc] at g2 hn ⊢;rw [List.append_assoc] at hx;have g5:Fh (y'++r'):=Fh.app g2 (by intro h; simp at h; exact g4.ne h.2);have hd:d≤x.length:=by have:=e1.2.1; simp only [List.length_append] at this; omega
 have he:e≤y.length:=by have:=e2.2.1; simp only [List.length_append] at this; omega
 have l1:=z1.len;have hx':=hp x (y++r) x' (y'++r') a (by rw [← List.append_assoc]; exact g1) g2 e1.2.2 g5 z1 (Lj z2 (by
  rcases hAB with h | h
  ·exact .inl fun s hs=>hA s (h s hs)
  ·exact .inr (by intro h0; subst h0; simp at he; omega))) hn hx
 have hy':=hf a y r y' r' b e1.2.2 g5 g3 g4 z2 hA (by simp only [List.length_append] at hn ⊢; omega) hy;show bnd (p' _) f'=_;rw [hx']; exact hy'
theorem Lo2.pure (a:α):Lo2 A n (pok a) (pok a):=by
 intro pre r pre' r' b g1 g2 g3 g4 hz hA hn hr;have h:some (Except.ok (a,pre++r))=some (Except.ok (b,r)):=hr;injection h with h;injection h with h;injection h with h1 h2
 have:pre=[]:=by
  have:=congrArg List.length h2
  simp only [List.length_append] at this;exact List.eq_nil_of_length_eq_zero (by omega)
 subst this;obtain rfl:=Zq.nil hz;subst h1; rfl
theorem Lo2.fail {p':List Tk→Rs α}:Lo2 A n fl p':=by
 intro pre r pre' r' b g1 g2 g3 g4 hz hA hn hr;cases hr
theorem Lo2.test {p p' q q' P P':List Tk→Rs α} {s:List UInt8} (hP:∀ ts,P ts=if isS s ts=true then p ts.tail else q ts) (hP':∀ ts,P' ts=if isS s ts=true then p' ts.tail else q' ts) (sp:Snd 0 p) (hp:Lo2 A (n - 1) p p') (hq:Lo2 A n q q') (h:A s∨Snd 1 q):Lo2 A n P P':=by
 intro pre r pre' r' b g1 g2 g3 g4 hz hA hn hr;rw [hP] at hr;rw [hP'];cases pre with
 | nil =>
  obtain rfl:=Zq.nil hz;rw [List.nil_append] at *;by_cases h1:isS s r=true
  ·rw [if_pos h1] at hr;have e1:=Eat.isS g3 h1;have e2:Eat 0 _ r:=sp _ e1.2.2 _ hr
   have:=e1.2.1; have:=e2.2.1; omega
  ·rw [if_neg h1] at hr;rcases h with h | h
   ·rw [if_neg (by rw [← hA s h]; exact h1)];exact hq [] r [] r' b g1 g2 g3 g4 rfl hA hn hr
   ·have e2:Eat 1 r r:=h _ g3 _ hr
    have:=e2.2.1; omega
 | cons t pre =>
  obtain ⟨t',b',rfl,z1,z2⟩:=Zq.cons hz;have hs:=K0 z1 s (pre++r) (b'++r');by_cases h1:isS s (t :: pre++r)=true
  ·rw [if_pos h1] at hr;have h1':isS s (t' :: b'++r')=true:=by rw [← h1]; exact hs.symm
   rw [if_pos h1'];have e1:=Eat.isS g1 h1;have e2:=Eat.isS g2 h1';exact hp pre r b' r' b e1.2.2 e2.2.2 g3 g4 z2 hA (by simp at hn ⊢; omega) hr
  ·rw [if_neg h1] at hr;rw [if_neg (by intro h; exact h1 (hs.trans h))];exact hq (t :: pre) r (t' :: b') r' b g1 g2 g3 g4 hz hA hn hr
theorem Lo2.alt {p p' q q':List Tk→Rs α} {s:List UInt8} (sp:Snd 0 p) (hp:Lo2 A (n - 1) p p') (hq:Lo2 A n q q') (h:A s∨Snd 1 q):Lo2 A n (al s p q) (al s p' q'):=Lo2.test (fun _=>rfl) (fun _=>rfl) sp hp hq h
theorem Lo2.want (s:List UInt8):Lo2 A n (D5 s) (D5 s):=Lo2.test (p:=pok ()) (q:=fl) (p':=pok ()) (q':=fl) (fun _=>rfl) (fun _=>rfl) (Cn _) (Lo2.pure _) Lo2.fail (.inr Ks)
theorem Lo2.kind {k:Int} (hk:k≠0) {f f':Tk→List Tk→Rs α} (sf:∀ t,Snd 0 (f t)) (hf:∀ t t',zt t=zt t'→Lo2 A (n - 1) (f t) (f' t')):Lo2 A n (sq (Fo k) f) (sq (Fo k) f'):=by
 intro pre r pre' r' b g1 g2 g3 g4 hz hA hn hr;obtain ⟨t,ts,hx,hy⟩:=Ha hr;have e1:Eat 1 (pre++r) ts:=Gi hk _ g1 _ hx;have e2:Eat 0 ts r:=sf t _ e1.2.2 _ hy;cases pre with
 | nil=>have:=e1.2.1; have:=e2.2.1; simp at *; omega
 | cons u pre =>
  obtain ⟨t',b',rfl,z1,z2⟩:=Zq.cons hz;rw [List.cons_append] at hx g2;simp only [Fo] at hx;by_cases hu:u.Kind=k
  ·rw [if_pos hu] at hx;cases hx;have hu':t'.Kind=k:=by rw [← hu]; exact (congrArg Prod.fst z1).symm
   have:=hf t t' z1 pre r b' r' b e1.2.2 (g2.tl (by omega)) g3 g4 z2 hA (by simp at hn ⊢; omega) hy
   show bnd (Fo k (t' ::(b'++r'))) f'=_;simp only [Fo,if_pos hu'];exact this
  ·rw [if_neg hu] at hx; cases hx
theorem Lo2.name:Lo2 A n Fi Fi:=Lo2.kind (by decide) (fun t=>Cn _) fun t t' h=>by
 have e:t.Text=t'.Text:=congrArg (fun x=>x.2.1) h;rw [e]; exact Lo2.pure _
theorem Hc {ops:Ops} {ts us:List Tk} (h:∀ o∈ops,isS o.1 ts=isS o.1 us):Ev ops ts=Ev ops us:=by
 induction ops with
 | nil=>rfl
 | cons o l ih =>
  unfold Ev;rw [h o (.head _),ih fun o m=>h o (.tail _ m)]
theorem Lo2.ops {ops:Ops} {P P':List Tk→Rs α} {p p':Int→List Tk→Rs α} {q q':List Tk→Rs α} (hP:∀ ts,P ts=match Ev ops ts with | none=>q ts | some op=>p op ts.tail) (hP':∀ ts,P' ts=match Ev ops ts with | none=>q' ts | some op=>p' op ts.tail) (sp:∀ op,Snd 0 (p op)) (hp:∀ op,Lo2 A (n - 1) (p op) (p' op)) (hq:Lo2 A n q q') (h:(∀ o∈ops,A o.1)∨Snd 1 q):Lo2 A n P P':=by
 intro pre r pre' r' b g1 g2 g3 g4 hz hA hn hr;rw [hP] at hr;rw [hP'];have key:Ev ops (pre++r)=Ev ops (pre'++r')∨(pre=[]∧Snd 1 q):=by
  rcases h with h | h
  ·exact .inl (Hc fun o ho=>Lj hz (.inl hA) o.1 (h o ho))
  ·cases pre with
   | nil=>exact .inr ⟨rfl,h⟩
   | cons t pre=>exact .inl (Hc (fun o ho=>Lj (B:=fun _=>True) hz (.inr (by simp)) o.1 trivial))
 cases hf:Ev ops (pre++r) with
 | none =>
  rw [hf] at hr key;rcases key with key |⟨rfl,h⟩
  ·rw [← key];exact hq pre r pre' r' b g1 g2 g3 g4 hz hA hn hr
  ·have e2:Eat 1 r r:=h _ g3 _ hr
   have:=e2.2.1; omega
 | some op =>
  rw [hf] at hr;obtain ⟨s,hs⟩:=E4 hf;have e1:=Eat.isS g1 hs;have e2:Eat 0 _ r:=sp op _ e1.2.2 _ hr;cases pre with
  | nil=>have:=e1.2.1; have:=e2.2.1; simp at *; omega
  | cons t pre =>
   obtain ⟨t',b',rfl,z1,z2⟩:=Zq.cons hz;have hf':Ev ops (t' :: b'++r')=some op:=by
    rw [← hf];exact (Hc (fun o ho=>Lj (B:=fun _=>True) hz (.inr (by simp)) o.1 trivial)).symm
   rw [hf'];have e3:=Eat.isS g2 (s:=s) (by rw [← hs]; exact (K0 z1 s _ _).symm);exact hp op pre r b' r' b e1.2.2 e3.2.2 g3 g4 z2 hA (by simp at hn ⊢; omega) hr
theorem Lo2.iaa {p p' q q':List Tk→Rs α} (sp:Snd 2 p) (hp:Lo2 A n p p') (sk:Snd 2 q) (hq:Lo2 A n q q'):Lo2 A n (ia p q) (ia p' q'):=by
 intro pre r pre' r' b g1 g2 g3 g4 hz hA hn hr;unfold ia at hr ⊢;have hl:2≤pre.length:=by
  split at hr
  ·have e:Eat 2 _ r:=sp _ g1 _ hr
   have:=e.2.1; simp at this; omega
  ·have e:Eat 2 _ r:=sk _ g1 _ hr
   have:=e.2.1; simp at this; omega
 have ha:J8 (pre++r)=J8 (pre'++r'):=by
  match pre,hl,hz with
  | t :: u :: pre,_,hz =>
   obtain ⟨t',b',rfl,z1,z2⟩:=Zq.cons hz;obtain ⟨u',c',rfl,z3,z4⟩:=Zq.cons z2;unfold zt at z1 z3;injection z1 with z1 _;injection z3 with z3 z5;injection z5 with z5 _;simp only [List.cons_append,J8,z1,z3,z5]
 rw [← ha];by_cases h:J8 (pre++r)=true
 ·rw [if_pos h] at hr ⊢;exact hp pre r pre' r' b g1 g2 g3 g4 hz hA hn hr
 ·rw [if_neg h] at hr ⊢;exact hq pre r pre' r' b g1 g2 g3 g4 hz hA hn hr
theorem Lo2.len {p p':Nat→List Tk→Rs α} (h:∀ m,m≤n→∀ k k',m < k'→Lo2 A m (p k) (p' k')):Lo2 A n (fun ts=>p (ts.length+1) ts) (fun ts=>p' (ts.length+1) ts):=by
 intro pre r pre' r' b g1 g2 g3 g4 hz hA hn hr;exact h _ hn _ ((pre'++r').length+1) (by omega) pre r pre' r' b g1 g2 g3 g4 hz hA (Nat.le_refl _) hr
end
end Go.Proofs.YtifjagfmfkemmaaGreatDoor
