import Derived.Test.YtifjagfmfkemmaaGreatDoorLw6
set_option linter.unusedVariables false
set_option linter.unusedSimpArgs false
set_option maxHeartbeats 4000000
namespace Go.Proofs.YtifjagfmfkemmaaGreatDoor
open Eng Go
theorem It {p:List Tk→Rs Nd} (ht:Tot 16385 p) {src:List UInt8} {a:Nd} {b:Int} (h:Jc p src=(a,b,0)):src.length≤16384∧b=0∧∃ l ts,Fq (src.length+1) src 0 []=.ok l∧Fh l∧p l=some (.ok (a,ts))∧hdK 0 ts=true∧nsz a≤4000∧ndp a≤40:=by
 unfold Jc at h;by_cases h1:16384 < src.length
 ·rw [if_pos h1] at h; cases h
 rw [if_neg h1] at h;refine ⟨by omega,?_⟩;cases hs:Fq (src.length+1) src 0 [] with
 | error q =>
  obtain ⟨x,e⟩:=q
  have:=J5 _ _ _ _ _ _ (by omega) (by omega) hs
  rw [hs] at h;cases h;exact absurd rfl this
 | ok l =>
  rw [hs] at h;obtain ⟨b',e,h2,h3,h4⟩:=Jk _ _ _ _ _ hs (by omega);obtain rfl:l=b':=by simpa using e
  obtain ⟨r,hr⟩:=ht l h2 (by omega);dsimp only at h;unfold O1 fin at h;rw [hr] at h
  match r,hr,h with
  | .error e,hr,h=>cases h
  | .ok (x,ts),hr,h =>
   dsimp only at h;split at h
   ·split at h
    ·cases h
    ·split at h
     ·cases h
     ·rename_i h5 h6 h7;cases h;exact ⟨rfl,l,ts,rfl,h2,hr,h5,by omega,by omega⟩
   ·cases h
theorem Rh {p:List Tk→Rs Nd} {src:List UInt8} (hl:src.length≤16384) {l ts:List Tk} {a:Nd} (hs:Fq (src.length+1) src 0 []=.ok l) (hp:p l=some (.ok (a,ts))) (hk:hdK 0 ts=true):Jc p src=if 4000 < nsz a then (B5,0,6) else if 40 < ndp a then (B5,0,7) else (a,0,0):=by
 unfold Jc;rw [if_neg (by omega),hs];show O1 p l=_;unfold O1 fin;rw [hp];show (if hdK 0 ts=true then _ else _)=_;rw [if_pos hk]
theorem Pw {b ts:List Tk} {e:Tk} (h:ts<:+b++[e]) (hk:hdK 0 ts=true) (hb:∀ t∈b,t.Kind≠0):ts=[e]:=by
 obtain ⟨x,hx⟩:=h;cases ts with
 | nil=>cases hk
 | cons t u =>
  have hk0:t.Kind=0:=by simpa [hdK] using hk
  rcases List.eq_nil_or_concat u with rfl |⟨v,w,rfl⟩
  ·have:=List.append_inj' hx rfl
   exact this.2
  ·exfalso;rw [List.concat_eq_append,show x++t ::(v++[w])=(x++t :: v)++[w] by simp] at hx
   have:=(List.append_inj' hx rfl).1
   exact hb t (by rw [← this]; simp) hk0
end Go.Proofs.YtifjagfmfkemmaaGreatDoor
