import Derived.Test.YtifjagfmfkemmaaGreatDoorLwB
set_option linter.unusedVariables false
set_option linter.unusedSimpArgs false
set_option maxHeartbeats 4000000
namespace Go.Proofs.YtifjagfmfkemmaaGreatDoor
open Eng
theorem gd {p0:List UInt8} {i:Nat} {c:UInt8} {r:List UInt8} (h:p0.drop i=c :: r):p0.getD (Int.toNat (i:Int)) 0=c:=by
 rw [Int.toNat_natCast]; exact (F2 _ _ c r 0 h).1
def Hb (acc:Nat):List UInt8→Nat
 | []=>acc
 | c :: r=>Hb (10 * acc+(c.toNat - 48)) r
theorem Nj:∀ (l:List UInt8) (acc:Nat),acc≤Hb acc l
 | [],acc=>Nat.le_refl _
 | c :: r,acc=>by
  have:=Nj r (10 * acc+(c.toNat - 48))
  unfold Hb;omega
theorem Km:∀ (l:List UInt8) (acc:Nat),(∀ c∈l,isD c=true)→acc≤18446744073709551615→Lib.parseUintM 18446744073709551615 acc l=if Hb acc l≤18446744073709551615 then .ok (Hb acc l) else .range
 | [],acc,_,h=>by unfold Lib.parseUintM Hb; rw [if_pos h]
 | c :: r,acc,hd,h=>by
  have hc:48≤c.toNat∧c.toNat≤57:=by simpa [isD] using hd c (.head _)
  have hge:=Nj r (10 * acc+(c.toNat - 48));unfold Lib.parseUintM;rw [if_pos hc];by_cases h1:1844674407370955162≤acc
  ·rw [if_pos h1,if_neg];unfold Hb; omega
  ·rw [if_neg h1];by_cases h2:18446744073709551615 < acc * 10+(c.toNat - 48)
   ·rw [if_pos h2,if_neg];unfold Hb; omega
   ·rw [if_neg h2,Km r _ (fun x hx=>hd x (.tail _ hx)) (by omega),show acc * 10=10 * acc from Nat.mul_comm _ _];rfl
theorem Ob {l:List UInt8} (hne:l≠[]) (h:∀ c∈l,isD c=true):(Jz l=decide (Hb 0 l≤9223372036854775807))∧(Hb 0 l≤9223372036854775807→Io l=(Hb 0 l:Int)):=by
 cases l with
 | nil=>exact absurd rfl hne
 | cons c r =>
  have hc:48≤c.toNat∧c.toNat≤57:=by simpa [isD] using h c (.head _)
  have hp:Lib.parseUintB 64 (c :: r)=if Hb 0 (c :: r)≤18446744073709551615 then .ok (Hb 0 (c :: r)) else .range:=by
   unfold Lib.parseUintB;rw [if_neg (by simp)];exact Km (c :: r) 0 h (by omega)
  have hq:Lib.parseIntB 64 (c :: r)=if Hb 0 (c :: r)≤9223372036854775807 then .ok (Hb 0 (c :: r):Int) else .range:=by
   unfold Lib.parseIntB;simp only;rw [if_neg (by omega),hp];by_cases h1:Hb 0 (c :: r)≤18446744073709551615
   ·rw [if_pos h1];simp only;by_cases h2:Hb 0 (c :: r)≤9223372036854775807
    ·rw [if_neg (by omega),if_neg (by omega),if_neg (by omega),if_pos h2]
    ·rw [if_pos (by omega),if_neg h2]
   ·rw [if_neg h1,if_neg (by omega)]
  unfold Jz Io;rw [hq];by_cases h2:Hb 0 (c :: r)≤9223372036854775807
  ·rw [if_pos h2]; exact ⟨by simp [h2],fun _=>rfl⟩
  ·rw [if_neg h2]; exact ⟨by simp [h2],fun h=>absurd h h2⟩
theorem H1:∀ (s:List UInt8) (p:UInt8→Bool),∀ c∈s.takeWhile p,p c=true
 | [],p=>by simp
 | c :: r,p=>by
  rw [List.takeWhile_cons];by_cases h:p c=true
  ·rw [if_pos h];intro x hx;rcases List.mem_cons.1 hx with rfl | hx
   ·exact h
   ·exact H1 r p x hx
  ·rw [if_neg h]; simp
def okR (p0:List UInt8) (i:Nat) (r:Except Int (List UInt8×List UInt8)) (x:Option (T5 (List UInt8×Int×Int) Unit)):Prop :=
 match r with
 | .ok (t,rest)=>∃ j:Nat,i < j∧j≤p0.length∧rest=p0.drop j∧x=some (.done (t,(j:Int),0))
 | .error e=>e≠0∧(x=some (.done ([],0,e))∨(e=4∧x=some (.go ())))
theorem okR.err {p0:List UInt8} {i:Nat} {e:Int} (h:e≠0):okR p0 i (.error e) (some (.done ([],0,e))):=⟨h,.inl rfl⟩
theorem okR.le {p0:List UInt8} {i i':Nat} {r:Except Int (List UInt8×List UInt8)} {x:Option (T5 (List UInt8×Int×Int) Unit)} (h:okR p0 i' r x) (hi:i≤i'):okR p0 i r x:=by
 unfold okR at h ⊢;split at h
 ·obtain ⟨j,h1,h2⟩:=h; exact ⟨j,by omega,h2⟩
 ·exact h
def Fq:Nat→List UInt8→Nat→List Aq→Except (Int×Int) (List Aq)
 | 0,_,_,_=>.error (0,0)
 | f+1,s,i,acc =>
  match s.dropWhile isB with
  | []=>.ok (acc++[⟨0,((i+s.length:Nat):Int),[],0⟩])
  | c :: r =>
   match H7 (c :: r) with
   | .error e=>.error (((i+(s.takeWhile isB).length:Nat):Int),e)
   | .ok (t,rest)=>Fq f rest (i+s.length - rest.length) (acc++[⟨t.Kind,((i+(s.takeWhile isB).length:Nat):Int),t.Text,t.Int⟩])
def ans:Except (Int×Int) (List Aq)→List Aq×Int×Int
 | .ok l=>(l,0,0)
 | .error (at_,e)=>([],at_,e)
theorem I4 (f:Nat) (c:UInt8) (r:List UInt8) (i:Nat) (acc:List Aq) (h:isB c=true):Fq (f+1) (c :: r) i acc=Fq (f+1) r (i+1) acc:=by
 unfold Fq;rw [List.dropWhile_cons,if_pos h,List.takeWhile_cons,if_pos h,List.length_cons,List.length_cons];rw [show i+(r.length+1)=i+1+r.length by omega,show i+((r.takeWhile isB).length+1)=i+1+(r.takeWhile isB).length by omega]
theorem Kp {K:Nat} {src:List UInt8} (hK:src.length < K) (hK2:1000≤K) (hb:src.length+K < 9000000):∀ (k f i:Nat) (acc:List Aq),(src.drop i).length < k→(src.drop i).length < f→i≤src.length→acc.length+(src.drop i).length < 9000000 →
  Ec.l16 K src k src (i:Int) acc=some (.done (ans (Fq f (src.drop i) i acc)))
 | 0,f,i,acc,h,_,_,_=>by omega
 | k+1,0,i,acc,_,h,_,_=>by omega
 | k+1,f+1,i,acc,h,hf,hi,ha=>by
  have hbd:=G9 src isB i hi;have hlen:(src.drop i).length=src.length - i:=List.length_drop;unfold Ec.l16 Fq;rw [N3 hi hK (by omega),Option.bind_some];simp only;have hdw:=Nq src isB i;cases hs:(src.drop i).dropWhile isB with
  | nil =>
   rw [hdw] at hs;have hge:src.length≤i+((src.drop i).takeWhile isB).length:=List.drop_eq_nil_iff.1 hs;have e:i+((src.drop i).takeWhile isB).length=i+(src.drop i).length:=by omega
   rw [if_pos (show ((i+((src.drop i).takeWhile isB).length:Nat):Int)≥(src.length:Int) by omega),if_pos (show (acc.length+([(⟨0,((i+((src.drop i).takeWhile isB).length:Nat):Int),[],0⟩:Aq)]:List Aq).length) * 40≤140737488355328 by simp only [List.length_cons,List.length_nil]; omega),e];rfl
  | cons c r =>
   rw [hdw] at hs;have hlt:i+((src.drop i).takeWhile isB).length < src.length:=by
    rcases Nat.lt_or_ge (i+((src.drop i).takeWhile isB).length) src.length with h' | h'
    ·exact h'
    ·rw [List.drop_eq_nil_of_le h'] at hs; cases hs
   rw [if_neg (show ¬ ((i+((src.drop i).takeWhile isB).length:Nat):Int)≥(src.length:Int) by omega)];have hn:=K4 (i:=i+((src.drop i).takeWhile isB).length) (by omega) hK hK2 hb hlt;rw [hs] at hn;simp only;revert hn;unfold okS;cases H7 (c :: r) with
   | error e =>
    rintro ⟨he,t,q,hx⟩;rw [hx,Option.bind_some];simp only;rw [if_pos he];rfl
   | ok p =>
    obtain ⟨t,rest⟩:=p;rintro ⟨j,h1,h2,rfl,hx⟩;rw [hx,Option.bind_some];simp only;have hlj:(src.drop j).length=src.length - j:=List.length_drop;rw [if_neg (show ¬ (0:Int)≠0 by decide),if_pos (show (acc.length+([(⟨t.Kind,((i+((src.drop i).takeWhile isB).length:Nat):Int),t.Text,t.Int⟩:Aq)]:List Aq).length) * 40≤140737488355328 by simp only [List.length_cons,List.length_nil]; omega)];rw [Kp hK hK2 hb k f j _ (by omega) (by omega) h2 (by simp only [List.length_append,List.length_cons,List.length_nil]; omega),show i+(src.drop i).length - (src.drop j).length=j by omega]
theorem Qh {K:Nat} {src:List UInt8} (hs:src.length≤16384) (hK:20000≤K) (hb:K < 8000000):Ec K src=some (ans (Fq (src.length+1) src 0 [])):=by
 have h:=Kp (K:=K) (src:=src) (by omega) (by omega) (by omega) K (src.length+1) 0 [] (by simp; omega) (by simp) (by omega) (by simp; omega);have h':Ec.l16 K src K src 0 []=some (.done (ans (Fq (src.length+1) src 0 []))):=h;unfold Ec;rw [if_neg (by omega),h'];rfl
end Go.Proofs.YtifjagfmfkemmaaGreatDoor
