import Derived.Test.YtifjagfmfkemmaaGreatDoorLwR
set_option linter.unusedVariables false
set_option linter.unusedSimpArgs false
set_option maxHeartbeats 4000000
namespace Go.Proofs.YtifjagfmfkemmaaGreatDoor
open Eng Go
def TOK (t:Tk):Prop:=(t.Kind=1→Nm t.Text)∧(t.Kind=4→(t.Text.length:Int)≤4096)∧(t.Kind=3→0≤t.Int)
def Vl {α:Type} (P:α→Prop) (w:α→Nat) (c:Nat) (p:List Tk→Rs α):Prop:=∀ ts a ts',(∀ t∈ts,TOK t)→p ts=some (.ok (a,ts'))→ts'<:+ts∧w a+ts'.length≤ts.length+c∧P a
section
variable {α β:Type} {P:α→Prop} {Q:β→Prop} {w:α→Nat} {v:β→Nat}
theorem Pf {x:Rs α} {f:α→List Tk→Rs β} {r:β×List Tk} (h:bnd x f=some (.ok r)):∃ a ts,x=some (.ok (a,ts))∧f a ts=some (.ok r):=by
 match x,h with
 | none,h=>cases h
 | some (.error e),h=>cases h
 | some (.ok (a,ts)),h=>exact ⟨a,ts,rfl,h⟩
theorem Vl.sq' {e:Nat} {p:List Tk→Rs α} {f:α→List Tk→Rs β} (hp:Vl P w e p) (hf:∀ a,P a→Vl Q v (w a) (f a)):Vl Q v e (sq p f):=by
 intro ts b us ht h
 obtain ⟨a,ts1,hx,hy⟩:=Pf h
 obtain ⟨h1,h2,h3⟩:=hp ts a ts1 ht hx
 obtain ⟨h4,h5,h6⟩:=hf a h3 ts1 b us (fun t m=>ht t (h1.subset m)) hy
 exact ⟨h4.trans h1,by omega,h6⟩
theorem Vl.sq {e:Nat} {p:List Tk→Rs α} {f:α→List Tk→Rs β} (hp:Vl P w 0 p) (hf:∀ a,P a→Vl Q v (w a+e) (f a)):Vl Q v e (sq p f) :=
 Vl.sq' (P:=P) (w:=fun a=>w a+e) (fun ts a us ht h=>by obtain ⟨h1,h2,h3⟩:=hp ts a us ht h; exact ⟨h1,by dsimp only; omega,h3⟩) hf
theorem Vl.ok {c:Nat} {a:α} (h:P a) (hw:w a≤c):Vl P w c (pok a):=fun ts b us ht h'=>by cases h'; exact ⟨List.suffix_refl _,by omega,h⟩
theorem Vl.fl {c:Nat}:Vl P w c fl:=fun ts b us ht h'=>by cases h'
theorem Vl.is {c:Nat} {s:List UInt8} {p:List Tk→Rs α} (hp:Vl P w (c+1) p) {ts us:List Tk} {a:α} (ht:∀ t∈ts,TOK t) (hs:isS s ts=true) (h:p ts.tail=some (.ok (a,us))):us<:+ts∧w a+us.length≤ts.length+c∧P a:=by
 cases ts with
 | nil=>cases hs
 | cons t r =>
  obtain ⟨h1,h2,h3⟩:=hp r a us (fun t m=>ht t (.tail _ m)) h
  exact ⟨h1.trans (List.suffix_cons t r),by simp; omega,h3⟩
theorem Vl.al {c:Nat} {s:List UInt8} {p q:List Tk→Rs α} (hp:Vl P w (c+1) p) (hq:Vl P w c q):Vl P w c (al s p q):=fun ts a us ht h=>by
 unfold Go.Proofs.YtifjagfmfkemmaaGreatDoor.al at h
 split at h
 ·exact hp.is ht (by assumption) h
 ·exact hq ts a us ht h
theorem Vl.le {c d:Nat} {p:List Tk→Rs α} (hp:Vl P w c p) (h:c≤d):Vl P w d p:=fun ts a us ht h'=>by
 obtain ⟨h1,h2,h3⟩:=hp ts a us ht h'; exact ⟨h1,by omega,h3⟩
theorem Vl.mono {c:Nat} {P':α→Prop} {p:List Tk→Rs α} (hp:Vl P w c p) (h:∀ a,P a→P' a):Vl P' w c p:=fun ts a us ht h'=>by
 obtain ⟨h1,h2,h3⟩:=hp ts a us ht h'; exact ⟨h1,h2,h a h3⟩
end
theorem Ho (s:List UInt8):Vl (fun _=>True) (fun _=>1) 0 (Fa s):=fun ts a us ht h=>by
 unfold Fa at h
 split at h
 ·cases h
  cases ts with
  | nil=>rename_i hs; cases hs
  | cons t r=>exact ⟨List.suffix_cons t r,by simp; omega,trivial⟩
 ·cases h
theorem Ke (k:Int):Vl (fun t=>TOK t∧t.Kind=k) (fun _=>1) 0 (F6 k):=fun ts a us ht h=>by
 cases ts with
 | nil=>cases h
 | cons t r =>
  simp only [F6] at h
  by_cases e:t.Kind=k
  ·rw [if_pos e] at h; cases h; exact ⟨List.suffix_cons _ _,by simp; omega,ht _ (.head _),e⟩
  ·rw [if_neg e] at h; cases h
theorem Mj:Vl Nm (fun _=>1) 0 G5:=Vl.sq' (Ke 1) fun t h=>Vl.ok (h.1.1 h.2) (Nat.le_refl _)
theorem Ny (a b:Nd):lsz [a,b]=nsz a+nsz b:=by simp [lsz]
theorem Jn (a:Nd):lsz [a]=nsz a:=by simp [lsz]
theorem Nw {op:Int} (h:15≤op∧op≤28) {a b:Nd} (ha:IsE a) (hb:IsE b):IsE (nd op [a,b]):=by
 rw [Gs]; unfold EX; simp [Es,ha,hb,h]
theorem On {op:Int} (h:op=12∨op=13∨op=14) {a:Nd} (ha:IsE a):IsE (nd op [a]):=by
 rw [Gs]; unfold EX; simp [Es,ha,h]
theorem O4 {s:List UInt8} (h:Nm s) {a:Nd} (ha:IsE a):IsE ⟨29,s,0,[],[a]⟩:=by
 rw [Gs]; unfold EX; simp [Es,ha,h]
theorem Oq {op:Int} (h:op=10∨op=11) {s:List UInt8} (hs:Nm s) {l:List Nd} (hl:∀ x∈l,IsE x):IsE ⟨op,s,0,[],l⟩:=by
 rw [← Kk] at hl
 rw [Gs]; unfold EX; simp [hs,hl,h]
theorem P4 {l:List Nd} (hl:∀ x∈l,IsE x):IsE (nd 7 l):=by
 rw [← Kk] at hl
 rw [Gs]; unfold EX; simp [hl]
theorem E_map {l:List Nd} (hl:∀ x∈l,IsP x):IsE (nd 8 l):=by
 rw [← L0] at hl
 rw [Gs]; unfold EX; simp [hl]
theorem Qn {s:List UInt8} (h:Nm s):IsE ⟨6,s,0,[],[]⟩:=by
 rw [Gs]; unfold EX; simp [h]
abbrev VE (c:Nat) (p:List Tk→Rs Nd):Prop:=Vl IsE nsz c p
theorem Jz {sub:List Tk→Rs Nd} {ops:Ops} (ho:∀ o∈ops,15≤o.2∧o.2≤28) (h:VE 0 sub):∀ (k:Nat) (a:Nd),IsE a→VE (nsz a) (Ge sub ops k a)
 | 0,a,ha=>fun ts b us ht hr=>by cases hr
 | k+1,a,ha=>fun ts b us ht hr=>by
  unfold Ge at hr
  split at hr
  ·cases hr; exact ⟨List.suffix_refl _,by omega,ha⟩
  ·rename_i op hf
   obtain ⟨s,hs⟩:=Fr hf
   have hop:15≤op∧op≤28:=by
    clear hr hs
    induction ops with
    | nil=>cases hf
    | cons o l ih =>
     unfold Fl at hf
     split at hf
     ·cases hf; exact ho _ (.head _)
     ·exact ih (fun o m=>ho o (.tail _ m)) hf
   exact (Vl.sq h fun c hc=>(Jz ho h k _ (Nw hop ha hc)).le (by simp only [Fy (nd op [a,c]),Ny]; omega)).is ht hs hr
theorem H7 {sub:List Tk→Rs Nd} {ops:Ops} (ho:∀ o∈ops,15≤o.2∧o.2≤28) (h:VE 0 sub):VE 0 (Hv sub ops) :=
 Vl.sq' (f:=fun a ts=>Ge sub ops (ts.length+1) a ts) h fun a ha ts=>Jz ho h _ a ha ts
theorem K9 {e:List UInt8} {elem:List Tk→Rs Nd} {P:Nd→Prop} (h:Vl P nsz 0 elem):∀ (k:Nat) (acc:List Nd),(∀ x∈acc,P x)→Vl (fun l=>∀ x∈l,P x) lsz (lsz acc) (Gf e elem k acc)
 | 0,acc,ha=>fun ts b us ht hr=>by cases hr
 | k+1,acc,ha=>by
  refine Vl.sq (f:=fun a=>al e (pok (acc++[a])) (sq (Fa [44]) fun _=>Gf e elem k (acc++[a]))) h fun a hp=>?_
  have h1:∀ x∈acc++[a],P x:=by
   intro x hx
   rcases List.mem_append.1 hx with hx | hx
   ·exact ha x hx
   ·rw [List.mem_singleton.1 hx]; exact hp
  exact Vl.al (Vl.ok h1 (by rw [Kj,Jn]; omega)) (Vl.sq (Ho _) fun _ _=>(K9 h k _ h1).le (by rw [Kj,Jn]; omega))
theorem Jk {e:List UInt8} {elem:List Tk→Rs Nd} {P:Nd→Prop} (h:Vl P nsz 0 elem):Vl (fun l=>∀ x∈l,P x) lsz 0 (Gb e elem) :=
 Vl.al (q:=fun ts=>Gf e elem (ts.length+1) [] ts) (Vl.ok (by simp) (by simp [lsz])) fun ts=>K9 h _ [] (by simp) ts
theorem Js {ex:List Tk→Rs Nd} (h:VE 0 ex):∀ (k:Nat) (a:Nd),IsE a→VE (nsz a) (Gk ex k a)
 | 0,a,ha=>fun ts b us ht hr=>by cases hr
 | k+1,a,ha =>
  Vl.al (p:=sq G5 fun s=>Gk ex k ⟨29,s,0,[],[a]⟩) (q:=al [91] (sq ex fun b=>sq (Fa [93]) fun _=>Gk ex k (nd 28 [a,b])) (pok a))
   (Vl.sq Mj fun s hs=>(Js h k _ (O4 hs ha)).le (by simp only [Fy (⟨29,s,0,[],[a]⟩:Aa),Jn]; omega))
   (Vl.al (Vl.sq h fun b hb=>Vl.sq (Ho _) fun _ _=>(Js h k _ (Nw (by decide) ha hb)).le (by simp only [Fy (nd 28 [a,b]),Ny]; omega)) (Vl.ok ha (Nat.le_refl _)))
structure Oe (R:SP):Prop where
 ex:VE 0 R.ex
 cj:VE 0 R.cj
 nt:VE 0 R.nt
 sm:VE 0 R.sm
 pd:VE 0 R.pd
 un:VE 0 R.un
 pm:VE 0 R.pm
 pr:Vl IsP nsz 0 R.pr
theorem K2 {R:SP} (hR:Oe R) {P:Nd→Prop} (op:Int) {s:List UInt8} (hP:∀ l,(∀ x∈l,IsE x)→P ⟨op,s,0,[],l⟩):Vl P nsz 0 (G8 R op s):=by
 show Vl P nsz 0 (sq (Fa [40]) fun _=>sq (Gb [41] R.ex) fun ks=>pok ⟨op,s,0,[],ks⟩)
 exact Vl.sq (Ho _) fun _ _=>Vl.sq (Jk hR.ex) fun ks hk=>Vl.ok (hP ks hk) (by simp only [Fy (⟨op,s,0,[],ks⟩:Aa)]; omega)
theorem Qj {ts:List Tk} {a:Nd} {r:List Tk} (ht:∀ t∈ts,TOK t) (h:Km ts=some (a,r)):r<:+ts∧nsz a+r.length≤ts.length∧(IsE a∧1≤a.Op∧a.Op≤5):=by
 cases ts with
 | nil=>cases h
 | cons t u =>
  obtain ⟨t1,t2,t3⟩:=ht t (.head _)
  simp only [Km] at h
  split at h
  ·cases h; exact ⟨List.suffix_cons _ _,by simp [nsz,lsz]; omega,by rw [Gs]; unfold EX; simp [*],(by decide:(1:Int)≤4),(by decide:(4:Int)≤5)⟩
  ·split at h
   ·cases h; exact ⟨List.suffix_cons _ _,by simp [nsz,lsz]; omega,by rw [Gs]; unfold EX; simp [*],(by decide:(1:Int)≤5),(by decide:(5:Int)≤5)⟩
   ·split at h
    ·rename_i op ho
     cases h
     have hop:op=1∨op=2∨op=3:=by
      simp only [G9,Fl] at ho
      split at ho
      ·cases ho; simp
      ·split at ho
       ·cases ho; simp
       ·split at ho
        ·cases ho; simp
        ·cases ho
     exact ⟨List.suffix_cons _ _,by simp [nsz,lsz]; omega,by rw [Gs]; unfold EX; simp [hop],by simp only [nd]; omega,by simp only [nd]; omega⟩
    ·cases h
theorem Qd {ts:List Tk} {op:Int} (h:Fl F3 ts=some op):15≤op∧op≤28:=by
 simp only [F3,Fl] at h
 repeat' split at h
 all_goals cases h
 all_goals decide
theorem valF {R:SP} (hR:Oe R):Oe (SPF R) where
 ex:=H7 (by decide) hR.cj
 cj:=H7 (by decide) hR.nt
 sm:=H7 (by decide) hR.pd
 pd:=H7 (by decide) hR.un
 nt:=Vl.al (p:=sq R.nt fun a=>pok (nd 13 [a])) (q:=sq R.sm fun a ts=>match Fl F3 ts with
  | none=>pok a ts
  | some op=>bnd (R.sm ts.tail) fun b ts=>pok (nd op [a,b]) ts)
  (Vl.sq hR.nt fun a ha=>Vl.ok (On (by decide) ha) (by simp only [Fy (nd 13 [a]),Jn]; omega))
  (Vl.sq hR.sm fun a ha ts b us ht hr=>by
   split at hr
   ·cases hr; exact ⟨List.suffix_refl _,by omega,ha⟩
   ·rename_i op hf
    obtain ⟨s,hs⟩:=Fr hf
    exact Vl.is (p:=sq R.sm fun b=>pok (nd op [a,b])) (Vl.sq hR.sm fun c hc=>Vl.ok (Nw (Qd hf) ha hc) (by simp only [Fy (nd op [a,c]),Ny]; omega)) ht hs hr)
 un:=Vl.al (p:=sq R.un fun a=>pok (nd 14 [a])) (q:=al [97,119,97,105,116] (sq R.un fun a=>pok (nd 12 [a])) <| al [103,111] (sq G5 fun s=>G8 R 11 s) <| sq R.pm fun a ts=>Gk R.ex (ts.length+1) a ts)
  (Vl.sq hR.un fun a ha=>Vl.ok (On (by decide) ha) (by simp only [Fy (nd 14 [a]),Jn]; omega)) <|
  Vl.al (Vl.sq hR.un fun a ha=>Vl.ok (On (by decide) ha) (by simp only [Fy (nd 12 [a]),Jn]; omega)) <|
  Vl.al (Vl.sq Mj fun s hs=>(K2 hR 11 fun l hl=>Oq (by decide) hs hl).le (by omega)) <|
  Vl.sq hR.pm fun a ha ts=>(Js hR.ex _ a ha).le (by omega) ts
 pm:=fun ts a us ht hr=>by
  replace hr:pmF R ts=some (.ok (a,us)):=hr
  unfold pmF at hr
  split at hr
  ·rename_i hl
   cases hr
   obtain ⟨h1,h2,h3⟩:=Qj ht hl
   exact ⟨h1,by omega,h3.1⟩
  ·split at hr
   ·cases hr
   ·rename_i t u hk
    refine Vl.sq (p:=F6 1) (f:=fun t r=>if isS [40] r=true then G8 R 10 t.Text r else pok ⟨6,t.Text,0,[],[]⟩ r) (e:=0) (Ke 1) (fun t h ts a us ht hr=>?_) ts a us ht (by simp only [sq,hk]; exact hr)
    dsimp only at hr
    split at hr
    ·exact (K2 hR 10 fun l hl=>Oq (by decide) (h.1.1 h.2) hl).le (by omega) ts a us ht hr
    ·exact Vl.ok (c:=1) (Qn (h.1.1 h.2)) (by simp [nsz,lsz]) ts a us ht hr
   ·rename_i u hk
    have e:u=ts:=by
     cases ts with
     | nil=>cases hk
     | cons t v =>
      simp only [F6] at hk
      by_cases e:t.Kind=1
      ·rw [if_pos e] at hk; cases hk
      ·rw [if_neg e] at hk; cases hk; rfl
    subst e
    exact Vl.al (c:=0) (p:=sq (Gb [93] R.ex) fun ks=>pok (nd 7 ks)) (q:=al [123] (sq (Gb [125] R.pr) fun ks=>pok (nd 8 ks)) <| sq (Fa [40]) fun _=>sq R.ex fun a=>sq (Fa [41]) fun _=>pok a)
     (Vl.sq (Jk hR.ex) fun ks hk=>Vl.ok (P4 hk) (by simp only [Fy (nd 7 ks)]; omega))
     (Vl.al (Vl.sq (Jk hR.pr) fun ks hk=>Vl.ok (E_map hk) (by simp only [Fy (nd 8 ks)]; omega))
      (Vl.sq (Ho _) fun _ _=>Vl.sq hR.ex fun a ha=>Vl.sq (Ho _) fun _ _=>Vl.ok ha (by omega))) u a us ht hr
 pr:=by
  show Vl IsP nsz 0 (sq (F6 4) fun t=>sq (Fa [58]) fun _=>sq R.ex fun a=>pok ⟨9,[],0,t.Text,[a]⟩)
  exact Vl.sq (Ke 4) fun t h=>Vl.sq (Ho _) fun _ _=>Vl.sq hR.ex fun a ha=>Vl.ok
   (by rw [Ob]; simp [Es,ha]; have:=h.1.2.1 h.2; omega) (by simp only [Fy (⟨9,[],0,t.Text,[a]⟩:Aa),Jn]; omega)
theorem valU:∀ f,Oe (SPu f)
 | 0=>⟨fun _ _ _ _ h=>(by cases h),fun _ _ _ _ h=>(by cases h),fun _ _ _ _ h=>(by cases h),fun _ _ _ _ h=>(by cases h),fun _ _ _ _ h=>(by cases h),fun _ _ _ _ h=>(by cases h),fun _ _ _ _ h=>(by cases h),fun _ _ _ _ h=>(by cases h)⟩
 | f+1=>valF (valU f)
end Go.Proofs.YtifjagfmfkemmaaGreatDoor
