import Derived.Test.YtifjagfmfkemmaaGreatDoorLwR
set_option linter.unusedVariables false
set_option linter.unusedSimpArgs false
set_option maxHeartbeats 4000000
namespace Go.Proofs.YtifjagfmfkemmaaGreatDoor
open Eng Go
def TOK (t:Tk):Prop:=(t.Kind=1→Nm t.Text)∧(t.Kind=4→(t.Text.length:Int)≤4096)∧(t.Kind=3→0≤t.Int)
def Vl {α:Type} (P:α→Prop) (w:α→Nat) (c:Nat) (p:List Tk→Rs α):Prop:=∀ ts a ts',(∀ t∈ts,TOK t)→p ts=some (.ok (a,ts'))→ts'<:+ts∧w a+ts'.length≤ts.length+c∧P a
section
variable {α β:Type} {P:α→Prop} {Q:β→Prop} {w:α→Nat} {v:β→Nat}
theorem Ha {x:Rs α} {f:α→List Tk→Rs β} {r:β×List Tk} (h:bnd x f=some (.ok r)):∃ a ts,x=some (.ok (a,ts))∧f a ts=some (.ok r):=by
 match x,h with
 | none,h=>cases h
 | some (.error e),h=>cases h
 | some (.ok (a,ts)),h=>exact ⟨a,ts,rfl,h⟩
theorem Vl.sq' {e:Nat} {p:List Tk→Rs α} {f:α→List Tk→Rs β} (hp:Vl P w e p) (hf:∀ a,P a→Vl Q v (w a) (f a)):Vl Q v e (sq p f):=by
 intro ts b us ht h;obtain ⟨a,ts1,hx,hy⟩:=Ha h;obtain ⟨h1,h2,h3⟩:=hp ts a ts1 ht hx;obtain ⟨h4,h5,h6⟩:=hf a h3 ts1 b us (fun t m=>ht t (h1.subset m)) hy;exact ⟨h4.trans h1,by omega,h6⟩
theorem Vl.sq {e:Nat} {p:List Tk→Rs α} {f:α→List Tk→Rs β} (hp:Vl P w 0 p) (hf:∀ a,P a→Vl Q v (w a+e) (f a)):Vl Q v e (sq p f) :=
 Vl.sq' (P:=P) (w:=fun a=>w a+e) (fun ts a us ht h=>by obtain ⟨h1,h2,h3⟩:=hp ts a us ht h; exact ⟨h1,by dsimp only; omega,h3⟩) hf
theorem Vl.ok {c:Nat} {a:α} (h:P a) (hw:w a≤c):Vl P w c (pok a):=fun ts b us ht h'=>by cases h'; exact ⟨List.suffix_refl _,by omega,h⟩
theorem Vl.fl {c:Nat}:Vl P w c fl:=fun ts b us ht h'=>by cases h'
theorem Vl.is {c:Nat} {s:List UInt8} {p:List Tk→Rs α} (hp:Vl P w (c+1) p) {ts us:List Tk} {a:α} (ht:∀ t∈ts,TOK t) (hs:isS s ts=true) (h:p ts.tail=some (.ok (a,us))):us<:+ts∧w a+us.length≤ts.length+c∧P a:=by
 cases ts with
 | nil=>cases hs
 | cons t r =>
  obtain ⟨h1,h2,h3⟩:=hp r a us (fun t m=>ht t (.tail _ m)) h;exact ⟨h1.trans (List.suffix_cons t r),by simp; omega,h3⟩
theorem Vl.al {c:Nat} {s:List UInt8} {p q:List Tk→Rs α} (hp:Vl P w (c+1) p) (hq:Vl P w c q):Vl P w c (al s p q):=fun ts a us ht h=>by
 unfold Go.Proofs.YtifjagfmfkemmaaGreatDoor.al at h;split at h
 ·exact hp.is ht (by assumption) h
 ·exact hq ts a us ht h
theorem Vl.ia {c:Nat} {p q:List Tk→Rs α} (hp:Vl P w c p) (hq:Vl P w c q):Vl P w c (ia p q):=fun ts a us ht h=>by
 unfold Go.Proofs.YtifjagfmfkemmaaGreatDoor.ia at h;split at h
 ·exact hp ts a us ht h
 ·exact hq ts a us ht h
theorem Vl.le {c d:Nat} {p:List Tk→Rs α} (hp:Vl P w c p) (h:c≤d):Vl P w d p:=fun ts a us ht h'=>by
 obtain ⟨h1,h2,h3⟩:=hp ts a us ht h'; exact ⟨h1,by omega,h3⟩
theorem Vl.mono {c:Nat} {P':α→Prop} {p:List Tk→Rs α} (hp:Vl P w c p) (h:∀ a,P a→P' a):Vl P' w c p:=fun ts a us ht h'=>by
 obtain ⟨h1,h2,h3⟩:=hp ts a us ht h'; exact ⟨h1,h2,h a h3⟩
end
theorem Ff (s:List UInt8):Vl (fun _=>True) (fun _=>1) 0 (D5 s):=fun ts a us ht h=>by
 unfold D5 at h;split at h
 ·cases h;cases ts with
  | nil=>rename_i hs; cases hs
  | cons t r=>exact ⟨List.suffix_cons t r,by simp; omega,trivial⟩
 ·cases h
theorem Ji (k:Int):Vl (fun t=>TOK t∧t.Kind=k) (fun _=>1) 0 (Fo k):=fun ts a us ht h=>by
 cases ts with
 | nil=>cases h
 | cons t r =>
  simp only [Fo] at h;by_cases e:t.Kind=k
  ·rw [if_pos e] at h; cases h; exact ⟨List.suffix_cons _ _,by simp; omega,ht _ (.head _),e⟩
  ·rw [if_neg e] at h; cases h
theorem Gc:Vl Nm (fun _=>1) 0 Fi:=Vl.sq' (Ji 1) fun t h=>Vl.ok (h.1.1 h.2) (Nat.le_refl _)
theorem Pk (a b:Nd):lsz [a,b]=nsz a+nsz b:=by simp [lsz]
theorem G1 (a:Nd):lsz [a]=nsz a:=by simp [lsz]
theorem O8 {op:Int} (h:15≤op∧op≤28) {a b:Nd} (ha:IsE a) (hb:IsE b):IsE (nd op [a,b]):=by
 rw [Gw]; unfold EX; simp [Es,ha,hb,h]
theorem Na {op:Int} (h:op=12∨op=13∨op=14) {a:Nd} (ha:IsE a):IsE (nd op [a]):=by
 rw [Gw]; unfold EX; simp [Es,ha,h]
theorem Rk {s:List UInt8} (h:Nm s) {a:Nd} (ha:IsE a):IsE ⟨29,s,0,[],[a]⟩:=by
 rw [Gw]; unfold EX; simp [Es,ha,h]
theorem Ox {op:Int} (h:op=10∨op=11) {s:List UInt8} (hs:Nm s) {l:List Nd} (hl:∀ x∈l,IsE x):IsE ⟨op,s,0,[],l⟩:=by
 rw [← Kt] at hl;rw [Gw]; unfold EX; simp [hs,hl,h]
theorem Tj {l:List Nd} (hl:∀ x∈l,IsE x):IsE (nd 7 l):=by
 rw [← Kt] at hl;rw [Gw]; unfold EX; simp [hl]
theorem E_map {l:List Nd} (hl:∀ x∈l,IsP x):IsE (nd 8 l):=by
 rw [← Qf] at hl;rw [Gw]; unfold EX; simp [hl]
theorem Qe {s:List UInt8} (h:Nm s):IsE ⟨6,s,0,[],[]⟩:=by
 rw [Gw]; unfold EX; simp [h]
abbrev VE (c:Nat) (p:List Tk→Rs Nd):Prop:=Vl IsE nsz c p
theorem Kh {sub:List Tk→Rs Nd} {ops:Ops} (ho:∀ o∈ops,15≤o.2∧o.2≤28) (h:VE 0 sub):∀ (k:Nat) (a:Nd),IsE a→VE (nsz a) (Fx sub ops k a)
 | 0,a,ha=>fun ts b us ht hr=>by cases hr
 | k+1,a,ha=>fun ts b us ht hr=>by
  unfold Fx at hr;split at hr
  ·cases hr; exact ⟨List.suffix_refl _,by omega,ha⟩
  ·rename_i op hf;obtain ⟨s,hs⟩:=E4 hf;have hop:15≤op∧op≤28:=by
    clear hr hs
    induction ops with
    | nil=>cases hf
    | cons o l ih =>
     unfold Ev at hf;split at hf
     ·cases hf; exact ho _ (.head _)
     ·exact ih (fun o m=>ho o (.tail _ m)) hf
   exact (Vl.sq h fun c hc=>(Kh ho h k _ (O8 hop ha hc)).le (by simp only [Fz (nd op [a,c]),Pk]; omega)).is ht hs hr
theorem Ik {sub:List Tk→Rs Nd} {ops:Ops} (ho:∀ o∈ops,15≤o.2∧o.2≤28) (h:VE 0 sub):VE 0 (H3 sub ops) :=
 Vl.sq' (f:=fun a ts=>Fx sub ops (ts.length+1) a ts) h fun a ha ts=>Kh ho h _ a ha ts
theorem Lz {e:List UInt8} {elem:List Tk→Rs Nd} {P:Nd→Prop} (h:Vl P nsz 0 elem):∀ (k:Nat) (acc:List Nd),(∀ x∈acc,P x)→Vl (fun l=>∀ x∈l,P x) lsz (lsz acc) (F9 e elem k acc)
 | 0,acc,ha=>fun ts b us ht hr=>by cases hr
 | k+1,acc,ha=>by
  refine Vl.sq (f:=fun a=>al e (pok (acc++[a])) (sq (D5 [44]) fun _=>F9 e elem k (acc++[a]))) h fun a hp=>?_
  have h1:∀ x∈acc++[a],P x:=by
   intro x hx;rcases List.mem_append.1 hx with hx | hx
   ·exact ha x hx
   ·rw [List.mem_singleton.1 hx]; exact hp
  exact Vl.al (Vl.ok h1 (by rw [Gk,G1]; omega)) (Vl.sq (Ff _) fun _ _=>(Lz h k _ h1).le (by rw [Gk,G1]; omega))
theorem Ir {e:List UInt8} {elem:List Tk→Rs Nd} {P:Nd→Prop} (h:Vl P nsz 0 elem):Vl (fun l=>∀ x∈l,P x) lsz 0 (Fv e elem) :=
 Vl.al (q:=fun ts=>F9 e elem (ts.length+1) [] ts) (Vl.ok (by simp) (by simp [lsz])) fun ts=>Lz h _ [] (by simp) ts
theorem Ka {ex:List Tk→Rs Nd} (h:VE 0 ex):∀ (k:Nat) (a:Nd),IsE a→VE (nsz a) (Fw ex k a)
 | 0,a,ha=>fun ts b us ht hr=>by cases hr
 | k+1,a,ha =>
  Vl.al (p:=sq Fi fun s=>Fw ex k ⟨29,s,0,[],[a]⟩) (q:=al [91] (sq ex fun b=>sq (D5 [93]) fun _=>Fw ex k (nd 28 [a,b])) (pok a))
   (Vl.sq Gc fun s hs=>(Ka h k _ (Rk hs ha)).le (by simp only [Fz (⟨29,s,0,[],[a]⟩:Aa),G1]; omega))
   (Vl.al (Vl.sq h fun b hb=>Vl.sq (Ff _) fun _ _=>(Ka h k _ (O8 (by decide) ha hb)).le (by simp only [Fz (nd 28 [a,b]),Pk]; omega)) (Vl.ok ha (Nat.le_refl _)))
structure Od (R:SP):Prop where
 ex:VE 0 R.ex
 cj:VE 0 R.cj
 nt:VE 0 R.nt
 sm:VE 0 R.sm
 pd:VE 0 R.pd
 un:VE 0 R.un
 pm:VE 0 R.pm
 pr:Vl IsP nsz 0 R.pr
theorem J7 {R:SP} (hR:Od R) {P:Nd→Prop} (op:Int) {s:List UInt8} (hP:∀ l,(∀ x∈l,IsE x)→P ⟨op,s,0,[],l⟩):Vl P nsz 0 (Ga R op s):=by
 show Vl P nsz 0 (sq (D5 [40]) fun _=>sq (Fv [41] R.ex) fun ks=>pok ⟨op,s,0,[],ks⟩);exact Vl.sq (Ff _) fun _ _=>Vl.sq (Ir hR.ex) fun ks hk=>Vl.ok (hP ks hk) (by simp only [Fz (⟨op,s,0,[],ks⟩:Aa)]; omega)
theorem Pg {ts:List Tk} {a:Nd} {r:List Tk} (ht:∀ t∈ts,TOK t) (h:Hl ts=some (a,r)):r<:+ts∧nsz a+r.length≤ts.length∧(IsE a∧1≤a.Op∧a.Op≤5):=by
 cases ts with
 | nil=>cases h
 | cons t u =>
  obtain ⟨t1,t2,t3⟩:=ht t (.head _);simp only [Hl] at h;split at h
  ·cases h; exact ⟨List.suffix_cons _ _,by simp [nsz,lsz]; omega,by rw [Gw]; unfold EX; simp [*],(by decide:(1:Int)≤4),(by decide:(4:Int)≤5)⟩
  ·split at h
   ·cases h; exact ⟨List.suffix_cons _ _,by simp [nsz,lsz]; omega,by rw [Gw]; unfold EX; simp [*],(by decide:(1:Int)≤5),(by decide:(5:Int)≤5)⟩
   ·split at h
    ·rename_i op ho;cases h;have hop:op=1∨op=2∨op=3:=by
      simp only [Hj,Ev] at ho;split at ho
      ·cases ho; simp
      ·split at ho
       ·cases ho; simp
       ·split at ho
        ·cases ho; simp
        ·cases ho
     exact ⟨List.suffix_cons _ _,by simp [nsz,lsz]; omega,by rw [Gw]; unfold EX; simp [hop],by simp only [nd]; omega,by simp only [nd]; omega⟩
    ·cases h
theorem So {ts:List Tk} {op:Int} (h:Ev Gs ts=some op):15≤op∧op≤28:=by
 simp only [Gs,Ev] at h
 repeat' split at h
 all_goals cases h
 all_goals decide
theorem valF {R:SP} (hR:Od R):Od (SPF R) where
 ex:=Ik (by decide) hR.cj
 cj:=Ik (by decide) hR.nt
 sm:=Ik (by decide) hR.pd
 pd:=Ik (by decide) hR.un
 nt:=Vl.al (p:=sq R.nt fun a=>pok (nd 13 [a])) (q:=sq R.sm fun a ts=>match Ev Gs ts with
  | none=>pok a ts
  | some op=>bnd (R.sm ts.tail) fun b ts=>pok (nd op [a,b]) ts)
  (Vl.sq hR.nt fun a ha=>Vl.ok (Na (by decide) ha) (by simp only [Fz (nd 13 [a]),G1]; omega))
  (Vl.sq hR.sm fun a ha ts b us ht hr=>by
   split at hr
   ·cases hr; exact ⟨List.suffix_refl _,by omega,ha⟩
   ·rename_i op hf;obtain ⟨s,hs⟩:=E4 hf;exact Vl.is (p:=sq R.sm fun b=>pok (nd op [a,b])) (Vl.sq hR.sm fun c hc=>Vl.ok (O8 (So hf) ha hc) (by simp only [Fz (nd op [a,c]),Pk]; omega)) ht hs hr)
 un:=Vl.al (p:=sq R.un fun a=>pok (nd 14 [a])) (q:=al [97,119,97,105,116] (sq R.un fun a=>pok (nd 12 [a])) <| al [103,111] (sq Fi fun s=>Ga R 11 s) <| sq R.pm fun a ts=>Fw R.ex (ts.length+1) a ts)
  (Vl.sq hR.un fun a ha=>Vl.ok (Na (by decide) ha) (by simp only [Fz (nd 14 [a]),G1]; omega)) <|
  Vl.al (Vl.sq hR.un fun a ha=>Vl.ok (Na (by decide) ha) (by simp only [Fz (nd 12 [a]),G1]; omega)) <|
  Vl.al (Vl.sq Gc fun s hs=>(J7 hR 11 fun l hl=>Ox (by decide) hs hl).le (by omega)) <|
  Vl.sq hR.pm fun a ha ts=>(Ka hR.ex _ a ha).le (by omega) ts
 pm:=fun ts a us ht hr=>by
  replace hr:pmF R ts=some (.ok (a,us)):=hr;unfold pmF at hr;split at hr
  ·rename_i hl;cases hr;obtain ⟨h1,h2,h3⟩:=Pg ht hl;exact ⟨h1,by omega,h3.1⟩
  ·split at hr
   ·cases hr
   ·rename_i t u hk;refine Vl.sq (p:=Fo 1) (f:=fun t r=>if isS [40] r=true then Ga R 10 t.Text r else pok ⟨6,t.Text,0,[],[]⟩ r) (e:=0) (Ji 1) (fun t h ts a us ht hr=>?_) ts a us ht (by simp only [sq,hk]; exact hr);dsimp only at hr;split at hr
    ·exact (J7 hR 10 fun l hl=>Ox (by decide) (h.1.1 h.2) hl).le (by omega) ts a us ht hr
    ·exact Vl.ok (c:=1) (Qe (h.1.1 h.2)) (by simp [nsz,lsz]) ts a us ht hr
   ·rename_i u hk;have e:u=ts:=by
     cases ts with
     | nil=>cases hk
     | cons t v =>
      simp only [Fo] at hk;by_cases e:t.Kind=1
      ·rw [if_pos e] at hk; cases hk
      ·rw [if_neg e] at hk; cases hk; rfl
    subst e;exact Vl.al (c:=0) (p:=sq (Fv [93] R.ex) fun ks=>pok (nd 7 ks)) (q:=al [123] (sq (Fv [125] R.pr) fun ks=>pok (nd 8 ks)) <| sq (D5 [40]) fun _=>sq R.ex fun a=>sq (D5 [41]) fun _=>pok a)
     (Vl.sq (Ir hR.ex) fun ks hk=>Vl.ok (Tj hk) (by simp only [Fz (nd 7 ks)]; omega))
     (Vl.al (Vl.sq (Ir hR.pr) fun ks hk=>Vl.ok (E_map hk) (by simp only [Fz (nd 8 ks)]; omega))
      (Vl.sq (Ff _) fun _ _=>Vl.sq hR.ex fun a ha=>Vl.sq (Ff _) fun _ _=>Vl.ok ha (by omega))) u a us ht hr
 pr:=by
  show Vl IsP nsz 0 (sq (Fo 4) fun t=>sq (D5 [58]) fun _=>sq R.ex fun a=>pok ⟨9,[],0,t.Text,[a]⟩);exact Vl.sq (Ji 4) fun t h=>Vl.sq (Ff _) fun _ _=>Vl.sq hR.ex fun a ha=>Vl.ok
   (by rw [Se]; simp [Es,ha]; have:=h.1.2.1 h.2; omega) (by simp only [Fz (⟨9,[],0,t.Text,[a]⟩:Aa),G1]; omega)
theorem valU:∀ f,Od (SPu f)
 | 0=>⟨fun _ _ _ _ h=>(by cases h),fun _ _ _ _ h=>(by cases h),fun _ _ _ _ h=>(by cases h),fun _ _ _ _ h=>(by cases h),fun _ _ _ _ h=>(by cases h),fun _ _ _ _ h=>(by cases h),fun _ _ _ _ h=>(by cases h),fun _ _ _ _ h=>(by cases h)⟩
 | f+1=>valF (valU f)
end Go.Proofs.YtifjagfmfkemmaaGreatDoor
