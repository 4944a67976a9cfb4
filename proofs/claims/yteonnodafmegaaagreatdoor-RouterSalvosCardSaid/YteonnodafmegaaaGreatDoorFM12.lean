/- Parts of the proof: LI LJ LK LL LM LN LO. -/
import Derived.Test.YteonnodafmegaaaGreatDoorFM11
import Derived.Test.YteonnodafmegaaaGreatDoorFM04
import Derived.Test.YteonnodafmegaaaGreatDoorFM10
import Derived.Lib.AppendIntMem
import Derived.KernelRfl
set_option linter.unusedSectionVars false
set_option linter.unusedVariables false
set_option linter.unusedSimpArgs false
namespace Go.Proofs.A1
open Go Go.SL
open Tryz
open Tryz renaming prog->T_
def o7 (n:Int):ByteArray:=⟨#[UInt8.ofNat (48+n.toNat)]⟩
theorem X0:∀ i,i<=9->(⟨(Lib.decDigits i).toArray⟩:ByteArray)=⟨#[UInt8.ofNat (48+i)]⟩:=by
 intro i h
 match i,h with
 | 0,_=>simp [Lib.decDigits]
 | 1,_=>simp [Lib.decDigits]
 | 2,_=>simp [Lib.decDigits]
 | 3,_=>simp [Lib.decDigits]
 | 4,_=>simp [Lib.decDigits]
 | 5,_=>simp [Lib.decDigits]
 | 6,_=>simp [Lib.decDigits]
 | 7,_=>simp [Lib.decDigits]
 | 8,_=>simp [Lib.decDigits]
 | 9,_=>simp [Lib.decDigits]
theorem Ph (n:Int) (h0:0<=n) (h1:n<=9) (w:World):ak T_ 279 [.q n] w (.string (o7 n)):=by
 obtain ⟨i,rfl⟩:∃ i:Nat,n=(i:Nat):=⟨n.toNat,by omega⟩;refine Calls.mono (internal_strconv_Itoa_small i (by omega) w) fun e w' ⟨he,hw⟩=>⟨?_,by rw [hw];exact .refl _ _⟩;rw [he,X0 i (by omega)];unfold o7;rw [ZL]
theorem pO (n:Int) (h0:0<=n) (h1:n<=9) (w:World):ak T_ 193 [.q n] w (.string (o7 n)):=by
 refine ah func193 I I ?_
 (refine Jr<|Ja I<|Ji<|Jv I<|aj bN I (fun w' aB=>(Ph n h0 h1 w'))<|Ja I<|Jn<|Je<|JT ?_)
 rfl
theorem LC (n:Int):(o7 n).size=1:=rfl
def zK (l:List ByteArray) (sep:ByteArray):ByteArray:=⟨(Lib.join (l.map (·.data.toList)) sep.data.toList).toArray⟩
variable {a:ByteArray} {c:Cx} {d:Value} {hs hs':List bd} {k:Nat} {kv:Value} {l:List ByteArray} {lv p:Value} {r:Ro} {s t v v1 v2:Value} {w:World} {x:Value×Value×Value×Value}
theorem Tt (sep:ByteArray) {w:World} (h:Rd w lv 1 (gT l)) (hl:l.length<=1000) (hlen:(Lib.join (l.map (·.data.toList)) sep.data.toList).length<=140737488355328) :
  ak T_ 278 [lv,.string sep] w (.string (zK l sep)):=by
 obtain ⟨a,cap,b,o,rfl,dy,bT,ha,hc⟩:=h;rw [bF] at *;cases l with
 | nil=>exact Calls.mono (strings_Join_none a cap sep w) fun e w' ⟨he,hw⟩=>⟨he,by rw [hw];exact .refl _ _⟩
 | cons x r =>
  have:=ha (by simp [gT]);subst this;have aC:∀ (j:Nat) y,(x::r)[j]? = some y->w.cell? ⟨b,o+j,none⟩=some (.string y):=fun j y hj=>by
   have:=(hc j [.string y] (by unfold gT;rw [ZI,hj];rfl)).2 0 _ I;simpa using this
  refine Calls.mono (Calls.up (strings_Join b o cap (x::r) sep w aC ?_ (by omega) dy hlen)) fun e w' ⟨he,hw,hd⟩=>⟨he,aJ.Lh hw hd⟩;exact World.block_lt_of_cell? w _ (aC 0 x I)
theorem LB (l:List (List UInt8)) (sep:List UInt8) (n:Nat) (h:∀ x∈l,x.length<=n):(Lib.join l sep).length<=l.length*(n+sep.length):=by
 cases l with
 | nil=>simp [Lib.join]
 | cons x r =>
  have key:∀ (r:List (List UInt8)),(∀ y∈r,y.length<=n)->(Lib.joinTail sep r).length<=r.length*(n+sep.length):=by
   intro r
   induction r with
   | nil=>intro _;simp [Lib.joinTail]
   | cons y r ih =>
    intro hy;have h1:=hy y (by simp);have h2:=ih fun z hz=>hy z (by simp [hz])
    simp only [Lib.joinTail,Z9,ZaE,Zg,ZE,Zaj] at h2 ⊢;omega
  rw [Lib.join_cons,Zg,ZE,Zaj];have h1:=h x (by simp);have h2:=key r fun z hz=>h z (by simp [hz])
  omega
def Q7 (l:List ByteArray):ByteArray:=zK l ⟨#[32]⟩++⟨#[10]⟩
theorem zJ (h4:l.length<=4) (h:∀ x∈l,x.size<=24):(Lib.join (l.map (·.data.toList)) [32]).length<=100:=by
 have:=LB (l.map (·.data.toList)) [32] 24 (by
  intro x hx;obtain ⟨y,hy,rfl⟩:=Zy.1 hx;have:=h y hy;rw [ZaV];exact this)
 rw [Zd] at this;have h2:([32]:List UInt8).length=1:=rfl;rw [h2] at this;omega
theorem wV (h4:l.length<=4) (h:∀ x∈l,x.size<=24):(zK l ⟨#[32]⟩).size<=100:=by
 have:=zJ h4 h;unfold zK;show Array.size _<=100;rw [Zbr];exact this
theorem iG (h4:l.length<=4) (h:∀ x∈l,x.size<=24):(Q7 l).size<=101:=by
 have:=wV h4 h;unfold Q7;rw [ByteArray.size_append];have:ByteArray.size ⟨#[10]⟩=1:=rfl;omega
theorem tS (h:Rd w v 1 (gT l)) (h4:l.length<=4) (hs:∀ x∈l,x.size<=24):ak T_ 192 [v] w (.string (Q7 l)):=by
 have hj:∀ w',aJ [] w w'->ak T_ 278 [v,.string ⟨#[32]⟩] w' (.string (zK l ⟨#[32]⟩)):=fun w' hk=>Tt (l:=l) ⟨#[32]⟩ (h.keeps hk) (by omega) (ZS (zJ h4 hs) (by decide))
 have hz:=wV h4 hs;have h1:ByteArray.size ⟨#[10]⟩=1:=rfl;have hb:(zK l ⟨#[32]⟩).size+ByteArray.size ⟨#[10]⟩<=9223372036854775807:=by omega
 refine ah func192 I I ?_
 (refine Jr<|Ja I<|Ji<|Jv I<|aj bb I (fun w' aB=>(hj w' (Mem.keeps aB)))<|ab (tL (.of I) (.of I) hb) I<|Ja I<|Jn<|Je<|JT ?_)
 rfl
def E9:List Value:=[.string ⟨#[114,111,117,116,101,114]⟩,.func (.func 271) #[] #[],.string ⟨#[115,111,117,114,99,101]⟩,.func (.func 273) #[] #[],.string ⟨#[100,101,115,116,105,110,97,116,105,111,110]⟩,.func (.func 275) #[] #[],.string ⟨#[116,105,101]⟩,.func (.func 276) #[] #[],.string ⟨#[112,111,105,110,116]⟩,.func (.func 277) #[] #[]]
theorem P4 (w:World):ak T_ 191 [] w (.agg E9.toArray):=by
 unfold E9;refine ah func191 I I ?_
 (refine Jr<|Jz I I fun _ _=>Ji<|ab (aU (.o I (.o I .nil)) ai) I<|ab (aU (.o I (.o I .nil)) ai) I<|ab (aU (.o I (.o I .nil)) ai) I<|ab (aU (.o I (.o I .nil)) ai) I<|ab (aU (.o I (.o I .nil)) ai) I<|ab (aU (.o I (.o I (.o I (.o I (.o I .nil))))) ai) I<|ao (.of I) (.of I) .here I I (bO I (bO I (Yn I I I I I I I I))) (bu I) ai<|Jn<|Je<|qp I (iP I inferInstance I .here ai (by rfl)) ?_)
 rfl
def wR:ByteArray:=⟨#[114,111,117,116,101,114]⟩
def wS:ByteArray:=⟨#[115,111,117,114,99,101]⟩
def wD:ByteArray:=⟨#[100,101,115,116,105,110,97,116,105,111,110]⟩
def wT:ByteArray:=⟨#[116,105,101]⟩
def wP:ByteArray:=⟨#[112,111,105,110,116]⟩
def JO:ByteArray:=⟨#[102,114,101,101]⟩
def JM:ByteArray:=⟨#[112,114,111,116,101,99,116,101,100]⟩
def YA (r:Ro):ByteArray:=Q7 [wR,o7 r.lv,o7 r.ma]
def Pd (x:Sr):ByteArray:=Q7 [wS,x.nm,o7 x.mx]
def stD (b:Bool):ByteArray:=if b=true then JM else JO
def Nz (x:De):ByteArray:=Q7 [wD,x.nm,o7 x.mx,stD x.pr]
def Pc (x:Ti):ByteArray:=Q7 [wT,x.nm,o7 x.fr,o7 x.to]
def Vb (x:Po):ByteArray:=Q7 [wP,o7 x.lv,x.ou,x.ip]
def nV (a:ByteArray) (l:List ByteArray):ByteArray:=l.foldl (fun a b=>a++b) a
theorem qM {α:Type} {f:α->ByteArray} {l:List α} (h:k<l.length):nV a ((l.take (k+1)).map f)=nV a ((l.take k).map f)++f l[k]:=by
 unfold nV;rw [Zm h,Zt,List.foldl_append];rfl
theorem nS {n:Nat}:∀ {l:List ByteArray} {a:ByteArray},(∀ x∈l,x.size<=n)->(nV a l).size<=a.size+n*l.length
 | [],a,_=>Zz _
 | x :: l, a, h => by
  have:=nS (l:=l) (a:=a++x) fun y hy=>h y (ZP _ hy)
  rw [ByteArray.size_append] at this;have h1:=h x Zs;show (nV (a++x) l).size<=_;rw [ZE,Nat.mul_succ];omega
theorem qN {n:Nat} {α:Type} {f:α->ByteArray} {l:List α} (hn:∀ x∈l,(f x).size<=n):(nV a ((l.take k).map f)).size<=a.size+n*l.length:=by
 have:=nS (n:=n) (a:=a) (l:=(l.take k).map f) (by
  intro x hx;obtain ⟨y,hy,rfl⟩:=Zy.1 hx;exact hn y (ZaR hy))
 rw [Zd,Zq] at this;have:n*min k l.length<=n*l.length:=Zbg _ (Nat.min_le_right _ _);omega
def prB (r:Ro):ByteArray:=nV (nV (nV (nV (YA r) (r.sr.map Pd)) (r.de.map Nz)) (r.ti.map Pc)) (r.po.map Vb)
def KY (r:Ro):ByteArray:=if fZ r=0 then prB r else ⟨#[]⟩
theorem O5 {s:ByteArray} (h:k7 s=true):s.size<=24:=by
 unfold k7 at h;simp only [Zn,decide_eq_true_eq] at h;exact h.1.1.2
structure Prn (r:Ro):Prop where
 n0:(0<=r.lv/\r.lv<=9)/\0<=r.ma/\r.ma<=9
 sr:∀ x∈r.sr,x.nm.size<=24/\0<=x.mx/\x.mx<=9
 de:∀ x∈r.de,x.nm.size<=24/\0<=x.mx/\x.mx<=9
 ti:∀ x∈r.ti,x.nm.size<=24/\(0<=x.fr/\x.fr<=9)/\0<=x.to/\x.to<=9
 po:∀ x∈r.po,(x.ou.size<=24/\x.ip.size<=24)/\0<=x.lv/\x.lv<=9
 len:(r.sr.length<=8/\r.de.length<=8/\r.ti.length<=6)/\r.po.length<=42
theorem prn (h:fZ r=0):Prn r:=by
 have ho:=BY h;have hp:=prt (uu h).2.1;have hl:=ho.lim;have na:∀ s∈eI r,s.size<=24:=fun s hs=>O5 (hp.nm s hs)
 have n1:∀ s∈cK r,s.size<=24:=fun s hs=>na s (ZJ _ (ZJ _ hs))
 have n2:∀ s∈cy r,s.size<=24:=fun s hs=>na s (ZJ _ (ZW _ hs))
 have n3:∀ s∈cR r,s.size<=24:=fun s hs=>na s (ZW _ hs)
 refine ⟨by omega,fun x hx=>?_,fun x hx=>?_,fun x hx=>?_,fun x hx=>?_,hp.len,lG ho ho.val⟩
 ·have:=ho.sm x hx;exact ⟨n1 _ (Z0 hx),by omega,by omega⟩
 ·have:=ho.dm x hx;exact ⟨n2 _ (Z0 hx),by omega,by omega⟩
 ·have:=ho.tm x hx;exact ⟨n3 _ (Z0 hx),by omega,by omega⟩
 ·have:=ho.val.Lx x hx;exact ⟨⟨(ho.val.out x hx).elim (n2 _) (n3 _),(ho.val.yf x hx).elim (n1 _) (n3 _)⟩,by omega,by omega⟩
theorem tR {a b c:ByteArray} (ha:a.size<=24) (hb:b.size<=24) (hc:c.size<=24):∀ x∈[a,b,c],x.size<=24:=by
 intro x hx;simp only [ZT,Zp,or_false] at hx;rcases hx with rfl | rfl | rfl <;> assumption
theorem j5 {a b c d:ByteArray} (ha:a.size<=24) (hb:b.size<=24) (hc:c.size<=24) (hd:d.size<=24):∀ x∈[a,b,c,d],x.size<=24:=by
 intro x hx;simp only [ZT,Zp,or_false] at hx;rcases hx with rfl | rfl | rfl | rfl <;> assumption
theorem fL (n:Int):(o7 n).size<=24:=by rw [LC];decide
theorem Em (b:Bool):(stD b).size<=24:=by cases b <;> decide
theorem QD (h:RR w r s d t p) (c8:og r):ak T_ 85 [RA r s d t p] w (.tuple #[.string (KY r),.q (fZ r)]):=by
 obtain ⟨h1,h2,h3,h4⟩:=h.one;have gD:∀ w',aJ [] w w'->ak T_ 34 [.agg #[.int .i64 r.lv,.int .i64 r.ma,s,d,t,p]] w' (.int .i64 (fZ r)):=fun w' hk=>fj (h.keeps hk) c8
 have C9:=h.sr;have Dk:=h.de;have yy:=h.ti;have EZ:=h.po;obtain ⟨a1,ei,IW,IL,rfl,oP,iI,lF,kS⟩:=C9;obtain ⟨a2,db,IV,IK,rfl,kq,eU,jB,kr⟩:=Dk;obtain ⟨a3,dV,G1,Gj,rfl,nb,gC,se,o9⟩:=yy;obtain ⟨a4,eV,NN,IJ,rfl,re,jV,zS,ud⟩:=EZ;rw [ct] at *;rw [bY] at *;rw [bQ] at *;rw [cT] at *;unfold maxLen at iI eU gC jV;unfold RA;refine ah func85 I I ?_
 (refine Jr<|Jy I I fun _ _=>Ja I<|Ja I<|Jn<|Jq<|Jr<|ab (cm .here) I<|aj bN I (fun w' aB=>(gD w' (Mem.keeps aB)))<|Ja I<|Ji<|Jv I<|JD I<|Jn<|gG I (fun au=>?_) fun au=>?_;refine Jr<|Jv I<|Ja I<|Ja I<|Jn<|Ju<|qp I (gF I I I) ?_;rotate_left;refine Jk<|Jr<|aj nC I (fun w' aB=>(P4 w'))<|Jz I I fun _ _=>ao (.of I) (.of I) .here I I (bO I (bO I (Yn I I I I I I I I))) (bu I) ai<|Jn<|Jq ?_;rotate_right)
 ·unfold KY;rw [if_neg au]
 have h0:fZ r=0:=Zo.1 au;have hN:=prn h0;have e0:KY r=prB r:=if_pos h0;rw [e0,h0];unfold E9
 skip
 try simp only [setCells,List.set_cons_zero,List.set_cons_succ]
 have q1:=hN.n0
 with_reducible refine dO 12 (by kernel_rfl) ?_
 (refine aA (fun β=>(iJ (.of I) (.of I) (by omega) (by omega) aW)) bo I<|aA (fun β=>(aq (.of I) ae)) bo I<|aA (fun β=>(ag (.of I) (At.lit .here I))) bo I<|aA (fun β=>(aq (.of I) ae)) bo I<|aA (fun β=>(ag (.of I) (At.lit (.there .here) I))) bo I ?_)
 dsimp only [Nat.zero_add,Nat.reduceAdd]
 with_reducible apply c7 (B:=[]) (F:=fun _=>.string (o7 r.lv)) (args:=fun _=>[.q r.lv])
 case hB=>rfl
 case hr=>exact fun β=>bj (.of I) (.o I .nil) inferInstance I
 case hi=>exact bo
 case hd=>rfl
 case hc=>exact fun β w' dM=>pO _ (by omega) (by omega) _
 dsimp only [Nat.reduceAdd]
 (refine aA (fun β=>(aq (.of I) ae)) bo I<|aA (fun β=>(ag (.of I) (At.lit (.there .here) I))) bo I ?_)
 dsimp only [Nat.zero_add,Nat.reduceAdd]
 with_reducible apply c7 (B:=[]) (F:=fun _=>.string (o7 r.ma)) (args:=fun _=>[.q r.ma])
 case hB=>rfl
 case hr=>exact fun β=>bj (.of I) (.o I .nil) inferInstance I
 case hi=>exact bo
 case hd=>rfl
 case hc=>exact fun β w' dM=>pO _ (by omega) (by omega) _
 dsimp only [Nat.reduceAdd]
 skip
 refine kD (fun β=>(aD (.o I (.o I (.o I .nil))) I I I I)) (fun _ _ _=>rfl) I ?_;dsimp only [Nat.zero_add,Nat.reduceAdd]
 with_reducible apply c7 (B:=[9]) (F:=fun _=>.string (YA r)) (args:=fun β=>[.slice (some ⟨ed (β 9),0,none⟩) 3 3])
 case hB=>kernel_rfl
 case hr=>exact fun β=>bj (.of I) (.o I .nil) inferInstance I
 case hi=>exact bo
 case hd=>rfl
 case hc=>
  intro β w' dM;have mK:=dM.at 9 Zs (s:=⟨fun β=>.slice (some ⟨ed (β 9),0,none⟩) 3 3,fun β=>[bz (ed (β 9)) (.cells #[.string wR,.string (o7 r.lv),.string (o7 r.ma)] 9)]⟩) (by kernel_rfl)
  dsimp only [Zb,Za] at mK;exact tS (l:=[wR,o7 r.lv,o7 r.ma]) (Mem.dH mK (by exact .here) I I) (by simp) (tR (by decide) (fL _) (fL _))
 dsimp only [Nat.reduceAdd];refine aA (fun β=>(cC (.of I))) bo I ?_;refine fq fun β=>?_;dsimp only [ez,Za,Zb,List.append_eq,Nat.reduceAdd]
 with_reducible refine cE (by kernel_rfl) ?_
 (refine Jt<|Jq<|Jr<|bG I I ae<|JL I bI I<|JI I<|Jv I<|Jn<|J0 ?_)
 rename_i b1 r9 b5 H7;generalize ed (β 9)=b9;clear β;have hA:(YA r).size<=101:=iG (by simp) (tR (by decide) (fL _) (fL _));unfold prB;generalize YA r=A at hA ⊢;refine aV (ι:=Nat×ByteArray) (fun y=>y.1<=r.sr.length/\y.2=nV A ((r.sr.take y.1).map Pd)) (fun y=>[(36,.q (y.1:Nat)),(35,.q r.sr.length),(34,.slice a1 r.sr.length ei),(6,.string y.2),(5,.p b5),(1,.p b1)]) (fun _=>[bz b5 (.cells #[.string ⟨#[114,111,117,116,101,114]⟩,.func (.func 271) #[] #[],.string ⟨#[115,111,117,114,99,101]⟩,.func (.func 273) #[] #[],.string ⟨#[100,101,115,116,105,110,97,116,105,111,110]⟩,.func (.func 275) #[] #[],.string ⟨#[116,105,101]⟩,.func (.func 276) #[] #[],.string ⟨#[112,111,105,110,116]⟩,.func (.func 277) #[] #[]] 265 (0,0)),JP b1 r (.slice a1 r.sr.length ei) (.slice a2 r.de.length db) (.slice a3 r.ti.length dV) (.slice a4 r.po.length eV)]) (fun y=>r.sr.length-y.1) ?_ ?_
 ·apply aI (0,A) ⟨Zi _,I⟩
  case hs1=>exact bS
  case ht=>
   exact .cons (.there .here) (.cons (.there .here) .nil)
 rintro ⟨k,S⟩ ⟨hk,hS⟩;dsimp only at hk hS ⊢;by_cases aM:k<r.sr.length
 ·have cu:=lF (iK aM);have aC:=(kS k _ (fV aM)).2;have hx:=hN.sr _ (Zj aM);have gn:=qM (a:=A) (f:=Pd) aM;rw [<- hS] at gn;unfold Sr.cells at aC;generalize r.sr[k]=x at aC hx gn;have hz:(Pd x).size<=101:=iG (by simp) (tR (by decide) hx.1 (fL _));have Uq:S.size<=A.size+101*r.sr.length:=by rw [hS];exact qN fun y hy=>iG (by simp) (tR (by decide) (hN.sr y hy).1 (fL _))
  have W9:=hN.len;have hb:S.size+(Pd x).size<=9223372036854775807:=by omega
  (refine Jr<|JA I<|Jn<|Jq<|Jd I fun au=>Jk<|Jq<|J0<|Jr<|ab (fY cu au) I<|ab (iU (eR.base aC I)) I<|Jz I I fun _ _=>ao (.of I) (.of I) .here I I (gO I I) (bu I) ai<|Jn ?_)
  with_reducible refine dO 13 (by kernel_rfl) ?_
  (refine aA (fun β=>(aS (.of I))) bo I<|aA (fun β=>(iJ (.of I) (.of I) (by omega) (by omega) aW)) bo I<|aA (fun β=>(aq (.of I) ae)) bo I<|aA (fun β=>(ag (.of I) (At.lit (.there .here) I))) bo I<|aA (fun β=>(aq (.of I) ae)) bo I<|aA (fun β=>(ag (.of I) (At.lit .here I))) bo I<|aA (fun β=>(aq (.of I) ae)) bo I<|aA (fun β=>(ag (.of I) (At.lit .here I))) bo I ?_)
  dsimp only [Nat.zero_add,Nat.reduceAdd]
  with_reducible apply c7 (B:=[]) (F:=fun _=>.string (o7 x.mx)) (args:=fun _=>[.q x.mx])
  case hB=>rfl
  case hr=>exact fun β=>bj (.of I) (.o I .nil) inferInstance I
  case hi=>exact bo
  case hd=>rfl
  case hc=>exact fun β w' dM=>pO _ (by omega) (by omega) _
  dsimp only [Nat.reduceAdd]
  skip
  refine kD (fun β=>(aD (.o I (.o I (.o I .nil))) I I I I)) (fun _ _ _=>rfl) I ?_;dsimp only [Nat.zero_add,Nat.reduceAdd]
  with_reducible apply c7 (B:=[9]) (F:=fun _=>.string (Pd x)) (args:=fun β=>[.slice (some ⟨ed (β 9),0,none⟩) 3 3])
  case hB=>kernel_rfl
  case hr=>exact fun β=>bj (.of I) (.o I .nil) inferInstance I
  case hi=>exact bo
  case hd=>rfl
  case hc=>
   intro β w' dM;have mK:=dM.at 9 Zs (s:=⟨fun β=>.slice (some ⟨ed (β 9),0,none⟩) 3 3,fun β=>[bz (ed (β 9)) (.cells #[.string wS,.string x.nm,.string (o7 x.mx)] 9)]⟩) (by kernel_rfl)
   dsimp only [Zb,Za] at mK;exact tS (l:=[wS,x.nm,o7 x.mx]) (Mem.dH mK (by exact .here) I I) (by simp) (tR (by decide) hx.1 (fL _))
  dsimp only [Nat.reduceAdd]
  (refine aA (fun β=>(tL (.of I) (.of I) hb)) bo I<|aA (fun β=>(cC (.of I))) bo I ?_)
  refine fq fun β=>?_;dsimp only [ez,Za,Zb,List.append_eq,Nat.reduceAdd]
  with_reducible refine cE (by kernel_rfl) ?_
  refine Jj<|Jt<|Jg<|JB I (by omega)<|Jv I<|Jn ?_;apply aG (k+1,_) (show _/\_ from ⟨by omega,gn.symm⟩) (show r.sr.length-(k+1)<r.sr.length-k by omega)
  case hs1=>exact bS
  case ht=>
   exact .cons bI (.cons bI .nil)
 obtain rfl:k=r.sr.length:=by omega
 rw [ZO] at hS;subst hS;have hA:(nV A (r.sr.map Pd)).size<=909:=by
  have:=nS (n:=101) (a:=A) (l:=r.sr.map Pd) (by
   intro x hx;obtain ⟨y,hy,rfl⟩:=Zy.1 hx;exact iG (by simp) (tR (by decide) (hN.sr y hy).1 (fL _)))
  rw [Zd] at this;have:=hN.len;omega
 generalize nV A (r.sr.map Pd)=A at hA ⊢;clear aM hk
 (refine Jr<|JA I<|Jn<|Jq<|Jc I fun au=>Jp<|Jl<|Jo<|Jt<|Jq<|Jr<|bG I I ae<|JL I (.there .here) I<|JI I<|Jv I<|Jn<|J0 ?_)
 refine aV (ι:=Nat×ByteArray) (fun y=>y.1<=r.de.length/\y.2=nV A ((r.de.take y.1).map Nz)) (fun y=>[(56,.q (y.1:Nat)),(55,.q r.de.length),(54,.slice a2 r.de.length db),(6,.string y.2),(5,.p b5),(1,.p b1)]) (fun _=>[bz b5 (.cells #[.string ⟨#[114,111,117,116,101,114]⟩,.func (.func 271) #[] #[],.string ⟨#[115,111,117,114,99,101]⟩,.func (.func 273) #[] #[],.string ⟨#[100,101,115,116,105,110,97,116,105,111,110]⟩,.func (.func 275) #[] #[],.string ⟨#[116,105,101]⟩,.func (.func 276) #[] #[],.string ⟨#[112,111,105,110,116]⟩,.func (.func 277) #[] #[]] 265 (0,0)),JP b1 r (.slice a1 r.sr.length ei) (.slice a2 r.de.length db) (.slice a3 r.ti.length dV) (.slice a4 r.po.length eV)]) (fun y=>r.de.length-y.1) ?_ ?_
 ·apply aI (0,A) ⟨Zi _,I⟩
  case hs1=>exact bS
  case ht=>
   exact .h2 .nil
 rintro ⟨k,S⟩ ⟨hk,hS⟩;dsimp only at hk hS ⊢;by_cases aM:k<r.de.length
 ·have cu:=jB (iy aM);have aC:=(kr k _ (fN aM)).2;have hx:=hN.de _ (Zj aM);have gn:=qM (a:=A) (f:=Nz) aM;rw [<- hS] at gn;unfold De.cells at aC;generalize r.de[k]=x at aC hx gn;have hz:(Nz x).size<=101:=iG (by simp) (j5 (by decide) hx.1 (fL _) (Em _));have Uq:S.size<=A.size+101*r.de.length:=by rw [hS];exact qN fun y hy=>iG (by simp) (j5 (by decide) (hN.de y hy).1 (fL _) (Em _))
  have W9:=hN.len;have hb:S.size+(Nz x).size<=9223372036854775807:=by omega
  clear hz Uq W9;obtain ⟨xn,xm,xp⟩:=x;dsimp only at aC hx gn hb ⊢;cases xp
  ·(refine Jr<|JA I<|Jn<|Jq<|Jd I fun au=>Jk<|Jq<|J0<|Jr<|ab (fY cu au) I<|ab (iU (eR.base aC I)) I<|Jz I I fun _ _=>ao (.of I) (.of I) .here I I (fv I I I) (bu I) ai<|Ji<|Ja I<|Jn<|Jq<|Jr<|bG I I ae<|JL I .here I<|Jn<|bZ (.of I)<|Jk ?_)
   with_reducible refine dO 14 (by kernel_rfl) ?_
   (refine aA (fun β=>(aS (.of I))) bo I<|aA (fun β=>(iJ (.of I) (.of I) (by omega) (by omega) aW)) bo I<|aA (fun β=>(aq (.of I) ae)) bo I<|aA (fun β=>(ag (.of I) (At.lit (.there .here) I))) bo I<|aA (fun β=>(aq (.of I) ae)) bo I<|aA (fun β=>(ag (.of I) (At.lit .here I))) bo I<|aA (fun β=>(aq (.of I) ae)) bo I<|aA (fun β=>(ag (.of I) (At.lit .here I))) bo I ?_)
   dsimp only [Nat.zero_add,Nat.reduceAdd]
   with_reducible apply c7 (B:=[]) (F:=fun _=>.string (o7 xm)) (args:=fun _=>[.q xm])
   case hB=>rfl
   case hr=>exact fun β=>bj (.of I) (.o I .nil) inferInstance I
   case hi=>exact bo
   case hd=>rfl
   case hc=>exact fun β w' dM=>pO _ (by omega) (by omega) _
   dsimp only [Nat.reduceAdd];refine aA (fun β=>(aS (.of I))) bo I ?_;refine kD (fun β=>(aD (.o I (.o I (.o I (.o I .nil)))) I I I I)) (fun _ _ _=>rfl) I ?_;dsimp only [Nat.zero_add,Nat.reduceAdd]
   with_reducible apply c7 (B:=[10]) (F:=fun _=>.string (Nz ⟨xn,xm,false⟩)) (args:=fun β=>[.slice (some ⟨ed (β 10),0,none⟩) 4 4])
   case hB=>kernel_rfl
   case hr=>exact fun β=>bj (.of I) (.o I .nil) inferInstance I
   case hi=>exact bo
   case hd=>rfl
   case hc=>
    intro β w' dM;have mK:=dM.at 10 Zs (s:=⟨fun β=>.slice (some ⟨ed (β 10),0,none⟩) 4 4,fun β=>[bz (ed (β 10)) (.cells #[.string wD,.string xn,.string (o7 xm),.string JO] 9)]⟩) (by kernel_rfl)
    dsimp only [Zb,Za] at mK;exact tS (l:=[wD,xn,o7 xm,JO]) (Mem.dH mK (by exact .here) I I) (by simp) (j5 (by decide) hx.1 (fL _) (by decide))
   dsimp only [Nat.reduceAdd]
   (refine aA (fun β=>(tL (.of I) (.of I) hb)) bo I<|aA (fun β=>(cC (.of I))) bo I ?_)
   refine fq fun β=>?_;dsimp only [ez,Za,Zb,List.append_eq,Nat.reduceAdd]
   with_reducible refine cE (by kernel_rfl) ?_
   refine Jj<|Jt<|Jg<|JB I (by omega)<|Jv I<|Jn ?_;apply aG (k+1,_) (show _/\_ from ⟨by omega,gn.symm⟩) (show r.de.length-(k+1)<r.de.length-k by omega)
   case hs1=>exact bS
   case ht=>
    exact .cons bI (.cons bI .nil)
  ·(refine Jr<|JA I<|Jn<|Jq<|Jd I fun au=>Jk<|Jq<|J0<|Jr<|ab (fY cu au) I<|ab (iU (eR.base aC I)) I<|Jz I I fun _ _=>ao (.of I) (.of I) .here I I (fv I I I) (bu I) ai<|Ji<|Ja I<|Jn<|Jq<|Jr<|bG I I ae<|JL I .here I<|Jn<|cY (.of I)<|Jg<|Ja I<|Jn ?_)
   with_reducible refine dO 14 (by kernel_rfl) ?_
   (refine aA (fun β=>(aS (.of I))) bo I<|aA (fun β=>(iJ (.of I) (.of I) (by omega) (by omega) aW)) bo I<|aA (fun β=>(aq (.of I) ae)) bo I<|aA (fun β=>(ag (.of I) (At.lit (.there .here) I))) bo I<|aA (fun β=>(aq (.of I) ae)) bo I<|aA (fun β=>(ag (.of I) (At.lit .here I))) bo I<|aA (fun β=>(aq (.of I) ae)) bo I<|aA (fun β=>(ag (.of I) (At.lit .here I))) bo I ?_)
   dsimp only [Nat.zero_add,Nat.reduceAdd]
   with_reducible apply c7 (B:=[]) (F:=fun _=>.string (o7 xm)) (args:=fun _=>[.q xm])
   case hB=>rfl
   case hr=>exact fun β=>bj (.of I) (.o I .nil) inferInstance I
   case hi=>exact bo
   case hd=>rfl
   case hc=>exact fun β w' dM=>pO _ (by omega) (by omega) _
   dsimp only [Nat.reduceAdd];refine aA (fun β=>(aS (.of I))) bo I ?_;refine kD (fun β=>(aD (.o I (.o I (.o I (.o I .nil)))) I I I I)) (fun _ _ _=>rfl) I ?_;dsimp only [Nat.zero_add,Nat.reduceAdd]
   with_reducible apply c7 (B:=[10]) (F:=fun _=>.string (Nz ⟨xn,xm,true⟩)) (args:=fun β=>[.slice (some ⟨ed (β 10),0,none⟩) 4 4])
   case hB=>kernel_rfl
   case hr=>exact fun β=>bj (.of I) (.o I .nil) inferInstance I
   case hi=>exact bo
   case hd=>rfl
   case hc=>
    intro β w' dM;have mK:=dM.at 10 Zs (s:=⟨fun β=>.slice (some ⟨ed (β 10),0,none⟩) 4 4,fun β=>[bz (ed (β 10)) (.cells #[.string wD,.string xn,.string (o7 xm),.string JM] 9)]⟩) (by kernel_rfl)
    dsimp only [Zb,Za] at mK;exact tS (l:=[wD,xn,o7 xm,JM]) (Mem.dH mK (by exact .here) I I) (by simp) (j5 (by decide) hx.1 (fL _) (by decide))
   dsimp only [Nat.reduceAdd]
   (refine aA (fun β=>(tL (.of I) (.of I) hb)) bo I<|aA (fun β=>(cC (.of I))) bo I ?_)
   refine fq fun β=>?_;dsimp only [ez,Za,Zb,List.append_eq,Nat.reduceAdd]
   with_reducible refine cE (by kernel_rfl) ?_
   refine Jj<|Jt<|Jg<|JB I (by omega)<|Jv I<|Jn ?_;apply aG (k+1,_) (show _/\_ from ⟨by omega,gn.symm⟩) (show r.de.length-(k+1)<r.de.length-k by omega)
   case hs1=>exact bS
   case ht=>
    exact .cons bI (.cons bI .nil)
 obtain rfl:k=r.de.length:=by omega
 rw [ZO] at hS;subst hS;have hA:(nV A (r.de.map Nz)).size<=1717:=by
  have:=nS (n:=101) (a:=A) (l:=r.de.map Nz) (by
   intro x hx;obtain ⟨y,hy,rfl⟩:=Zy.1 hx;exact iG (by simp) (j5 (by decide) (hN.de y hy).1 (fL _) (Em _)))
  rw [Zd] at this;have:=hN.len;omega
 generalize nV A (r.de.map Nz)=A at hA ⊢;clear aM hk
 (refine Jr<|JA I<|Jn<|Jq<|Jc I fun au=>Jp<|Jl<|Jo<|Jt<|Jq<|Jr<|bG I I ae<|JL I (.there .here) I<|JI I<|Jv I<|Jn<|J0 ?_)
 refine aV (ι:=Nat×ByteArray) (fun y=>y.1<=r.ti.length/\y.2=nV A ((r.ti.take y.1).map Pc)) (fun y=>[(79,.q (y.1:Nat)),(78,.q r.ti.length),(77,.slice a3 r.ti.length dV),(6,.string y.2),(5,.p b5),(1,.p b1)]) (fun _=>[bz b5 (.cells #[.string ⟨#[114,111,117,116,101,114]⟩,.func (.func 271) #[] #[],.string ⟨#[115,111,117,114,99,101]⟩,.func (.func 273) #[] #[],.string ⟨#[100,101,115,116,105,110,97,116,105,111,110]⟩,.func (.func 275) #[] #[],.string ⟨#[116,105,101]⟩,.func (.func 276) #[] #[],.string ⟨#[112,111,105,110,116]⟩,.func (.func 277) #[] #[]] 265 (0,0)),JP b1 r (.slice a1 r.sr.length ei) (.slice a2 r.de.length db) (.slice a3 r.ti.length dV) (.slice a4 r.po.length eV)]) (fun y=>r.ti.length-y.1) ?_ ?_
 ·apply aI (0,A) ⟨Zi _,I⟩
  case hs1=>exact bS
  case ht=>
   exact .h2 .nil
 rintro ⟨k,S⟩ ⟨hk,hS⟩;dsimp only at hk hS ⊢;by_cases aM:k<r.ti.length
 ·have cu:=se (fm aM);have aC:=(o9 k _ (ef aM)).2;have hx:=hN.ti _ (Zj aM);have gn:=qM (a:=A) (f:=Pc) aM;rw [<- hS] at gn;unfold Ti.cells at aC;generalize r.ti[k]=x at aC hx gn;have hz:(Pc x).size<=101:=iG (by simp) (j5 (by decide) hx.1 (fL _) (fL _));have Uq:S.size<=A.size+101*r.ti.length:=by rw [hS];exact qN fun y hy=>iG (by simp) (j5 (by decide) (hN.ti y hy).1 (fL _) (fL _))
  have W9:=hN.len;have hb:S.size+(Pc x).size<=9223372036854775807:=by omega
  (refine Jr<|JA I<|Jn<|Jq<|Jd I fun au=>Jk<|Jq<|J0<|Jr<|ab (fY cu au) I<|ab (iU (eR.base aC I)) I<|Jz I I fun _ _=>ao (.of I) (.of I) .here I I (fv I I I) (bu I) ai<|Jn ?_)
  with_reducible refine dO 16 (by kernel_rfl) ?_
  (refine aA (fun β=>(aS (.of I))) bo I<|aA (fun β=>(iJ (.of I) (.of I) (by omega) (by omega) aW)) bo I<|aA (fun β=>(aq (.of I) ae)) bo I<|aA (fun β=>(ag (.of I) (At.lit (.there .here) I))) bo I<|aA (fun β=>(aq (.of I) ae)) bo I<|aA (fun β=>(ag (.of I) (At.lit .here I))) bo I<|aA (fun β=>(aq (.of I) ae)) bo I<|aA (fun β=>(ag (.of I) (At.lit .here I))) bo I ?_)
  dsimp only [Nat.zero_add,Nat.reduceAdd]
  with_reducible apply c7 (B:=[]) (F:=fun _=>.string (o7 x.fr)) (args:=fun _=>[.q x.fr])
  case hB=>rfl
  case hr=>exact fun β=>bj (.of I) (.o I .nil) inferInstance I
  case hi=>exact bo
  case hd=>rfl
  case hc=>exact fun β w' dM=>pO _ (by omega) (by omega) _
  dsimp only [Nat.reduceAdd]
  (refine aA (fun β=>(aq (.of I) ae)) bo I<|aA (fun β=>(ag (.of I) (At.lit .here I))) bo I ?_)
  dsimp only [Nat.zero_add,Nat.reduceAdd]
  with_reducible apply c7 (B:=[]) (F:=fun _=>.string (o7 x.to)) (args:=fun _=>[.q x.to])
  case hB=>rfl
  case hr=>exact fun β=>bj (.of I) (.o I .nil) inferInstance I
  case hi=>exact bo
  case hd=>rfl
  case hc=>exact fun β w' dM=>pO _ (by omega) (by omega) _
  dsimp only [Nat.reduceAdd]
  skip
  refine kD (fun β=>(aD (.o I (.o I (.o I (.o I .nil)))) I I I I)) (fun _ _ _=>rfl) I ?_;dsimp only [Nat.zero_add,Nat.reduceAdd]
  with_reducible apply c7 (B:=[12]) (F:=fun _=>.string (Pc x)) (args:=fun β=>[.slice (some ⟨ed (β 12),0,none⟩) 4 4])
  case hB=>kernel_rfl
  case hr=>exact fun β=>bj (.of I) (.o I .nil) inferInstance I
  case hi=>exact bo
  case hd=>rfl
  case hc=>
   intro β w' dM;have mK:=dM.at 12 Zs (s:=⟨fun β=>.slice (some ⟨ed (β 12),0,none⟩) 4 4,fun β=>[bz (ed (β 12)) (.cells #[.string wT,.string x.nm,.string (o7 x.fr),.string (o7 x.to)] 9)]⟩) (by kernel_rfl)
   dsimp only [Zb,Za] at mK;exact tS (l:=[wT,x.nm,o7 x.fr,o7 x.to]) (Mem.dH mK (by exact .here) I I) (by simp) (j5 (by decide) hx.1 (fL _) (fL _))
  dsimp only [Nat.reduceAdd]
  (refine aA (fun β=>(tL (.of I) (.of I) hb)) bo I<|aA (fun β=>(cC (.of I))) bo I ?_)
  refine fq fun β=>?_;dsimp only [ez,Za,Zb,List.append_eq,Nat.reduceAdd]
  with_reducible refine cE (by kernel_rfl) ?_
  refine Jj<|Jt<|Jg<|JB I (by omega)<|Jv I<|Jn ?_;apply aG (k+1,_) (show _/\_ from ⟨by omega,gn.symm⟩) (show r.ti.length-(k+1)<r.ti.length-k by omega)
  case hs1=>exact bS
  case ht=>
   exact .cons bI (.cons bI .nil)
 obtain rfl:k=r.ti.length:=by omega
 rw [ZO] at hS;subst hS;have hA:(nV A (r.ti.map Pc)).size<=2323:=by
  have:=nS (n:=101) (a:=A) (l:=r.ti.map Pc) (by
   intro x hx;obtain ⟨y,hy,rfl⟩:=Zy.1 hx;exact iG (by simp) (j5 (by decide) (hN.ti y hy).1 (fL _) (fL _)))
  rw [Zd] at this;have:=hN.len;omega
 generalize nV A (r.ti.map Pc)=A at hA ⊢;clear aM hk
 (refine Jr<|JA I<|Jn<|Jq<|Jc I fun au=>Jp<|Jl<|Jo<|Jt<|Jq<|Jr<|bG I I ae<|JL I (.there .here) I<|JI I<|Jv I<|Jn<|J0 ?_)
 refine aV (ι:=Nat×ByteArray) (fun y=>y.1<=r.po.length/\y.2=nV A ((r.po.take y.1).map Vb)) (fun y=>[(102,.q (y.1:Nat)),(101,.q r.po.length),(100,.slice a4 r.po.length eV),(6,.string y.2),(5,.p b5),(1,.p b1)]) (fun _=>[bz b5 (.cells #[.string ⟨#[114,111,117,116,101,114]⟩,.func (.func 271) #[] #[],.string ⟨#[115,111,117,114,99,101]⟩,.func (.func 273) #[] #[],.string ⟨#[100,101,115,116,105,110,97,116,105,111,110]⟩,.func (.func 275) #[] #[],.string ⟨#[116,105,101]⟩,.func (.func 276) #[] #[],.string ⟨#[112,111,105,110,116]⟩,.func (.func 277) #[] #[]] 265 (0,0)),JP b1 r (.slice a1 r.sr.length ei) (.slice a2 r.de.length db) (.slice a3 r.ti.length dV) (.slice a4 r.po.length eV)]) (fun y=>r.po.length-y.1) ?_ ?_
 ·apply aI (0,A) ⟨Zi _,I⟩
  case hs1=>exact bS
  case ht=>
   exact .h2 .nil
 rintro ⟨k,S⟩ ⟨hk,hS⟩;dsimp only at hk hS ⊢;by_cases aM:k<r.po.length
 ·have cu:=zS (kl aM);have aC:=(ud k _ (iq aM)).2;have hx:=hN.po _ (Zj aM);have gn:=qM (a:=A) (f:=Vb) aM;rw [<- hS] at gn;unfold Po.cells at aC;generalize r.po[k]=x at aC hx gn;have hz:(Vb x).size<=101:=iG (by simp) (j5 (by decide) (fL _) hx.1.1 hx.1.2);have Uq:S.size<=A.size+101*r.po.length:=by rw [hS];exact qN fun y hy=>iG (by simp) (j5 (by decide) (fL _) (hN.po y hy).1.1 (hN.po y hy).1.2)
  have W9:=hN.len;have hb:S.size+(Vb x).size<=9223372036854775807:=by omega
  (refine Jr<|JA I<|Jn<|Jq<|Jd I fun au=>Jk<|Jq<|J0<|Jr<|ab (fY cu au) I<|ab (iU (eR.base aC I)) I<|Jz I I fun _ _=>ao (.of I) (.of I) .here I I (fv I I I) (bu I) ai<|Jn ?_)
  with_reducible refine dO 15 (by kernel_rfl) ?_
  (refine aA (fun β=>(aS (.of I))) bo I<|aA (fun β=>(iJ (.of I) (.of I) (by omega) (by omega) aW)) bo I<|aA (fun β=>(aq (.of I) ae)) bo I<|aA (fun β=>(ag (.of I) (At.lit (.there .here) I))) bo I<|aA (fun β=>(aq (.of I) ae)) bo I<|aA (fun β=>(ag (.of I) (At.lit .here I))) bo I ?_)
  dsimp only [Nat.zero_add,Nat.reduceAdd]
  with_reducible apply c7 (B:=[]) (F:=fun _=>.string (o7 x.lv)) (args:=fun _=>[.q x.lv])
  case hB=>rfl
  case hr=>exact fun β=>bj (.of I) (.o I .nil) inferInstance I
  case hi=>exact bo
  case hd=>rfl
  case hc=>exact fun β w' dM=>pO _ (by omega) (by omega) _
  dsimp only [Nat.reduceAdd]
  (refine aA (fun β=>(aq (.of I) ae)) bo I<|aA (fun β=>(ag (.of I) (At.lit .here I))) bo I<|aA (fun β=>(aq (.of I) ae)) bo I<|aA (fun β=>(ag (.of I) (At.lit .here I))) bo I ?_)
  refine kD (fun β=>(aD (.o I (.o I (.o I (.o I .nil)))) I I I I)) (fun _ _ _=>rfl) I ?_;dsimp only [Nat.zero_add,Nat.reduceAdd]
  with_reducible apply c7 (B:=[11]) (F:=fun _=>.string (Vb x)) (args:=fun β=>[.slice (some ⟨ed (β 11),0,none⟩) 4 4])
  case hB=>kernel_rfl
  case hr=>exact fun β=>bj (.of I) (.o I .nil) inferInstance I
  case hi=>exact bo
  case hd=>rfl
  case hc=>
   intro β w' dM;have mK:=dM.at 11 Zs (s:=⟨fun β=>.slice (some ⟨ed (β 11),0,none⟩) 4 4,fun β=>[bz (ed (β 11)) (.cells #[.string wP,.string (o7 x.lv),.string x.ou,.string x.ip] 9)]⟩) (by kernel_rfl)
   dsimp only [Zb,Za] at mK;exact tS (l:=[wP,o7 x.lv,x.ou,x.ip]) (Mem.dH mK (by exact .here) I I) (by simp) (j5 (by decide) (fL _) hx.1.1 hx.1.2)
  dsimp only [Nat.reduceAdd]
  (refine aA (fun β=>(tL (.of I) (.of I) hb)) bo I<|aA (fun β=>(cC (.of I))) bo I ?_)
  refine fq fun β=>?_;dsimp only [ez,Za,Zb,List.append_eq,Nat.reduceAdd]
  with_reducible refine cE (by kernel_rfl) ?_
  refine Jj<|Jt<|Jg<|JB I (by omega)<|Jv I<|Jn ?_;apply aG (k+1,_) (show _/\_ from ⟨by omega,gn.symm⟩) (show r.po.length-(k+1)<r.po.length-k by omega)
  case hs1=>exact bS
  case ht=>
   exact .cons bI (.cons bI .nil)
 obtain rfl:k=r.po.length:=by omega
 rw [ZO] at hS;rw [<- hS];refine Jr<|JA I<|Jn<|Jq<|Jc I fun au=>Jp<|Jl<|Jo<|Jt<|Jr<|Jv I<|Ja I<|Ja I<|Jn<|Je<|qp I (gF I I I) ?_
 rfl
def qt (r:Ro) (x:Value×Value×Value×Value):List bd:=[row 118 2 x.1 r.sr.length (kG r.sr),row 88 3 x.2.1 r.de.length (jX r.de),row 122 3 x.2.2.1 r.ti.length (kU r.ti),row 180 3 x.2.2.2 r.po.length (gA r.po)]
def kE (r:Ro):Prop:=r.sr.length<=1000000/\r.de.length<=1000000/\r.ti.length<=1000000/\r.po.length<=1000000
theorem Wg (h:RR w r s d t p) (c8:kE r):bh T_ 21 [RA r s d t p] w [] (fun _:Value×Value×Value×Value=>True) (fun x=>RA r x.1 x.2.1 x.2.2.1 x.2.2.2) (fun x=>u3 r x):=by
 obtain ⟨h1,h2,h3,h4⟩:=h.one;have C9:=h.sr;have Dk:=h.de;have yy:=h.ti;have EZ:=h.po;obtain ⟨a1,ei,IW,IL,rfl,oP,iI,lF,kS⟩:=C9;obtain ⟨a2,db,IV,IK,rfl,kq,eU,jB,kr⟩:=Dk;obtain ⟨a3,dV,G1,Gj,rfl,nb,gC,se,o9⟩:=yy;obtain ⟨a4,eV,NN,IJ,rfl,re,jV,zS,ud⟩:=EZ;rw [ct] at *;rw [bY] at *;rw [bQ] at *;rw [cT] at *;unfold maxLen at iI eU gC jV;obtain ⟨f1,f2,f3,f4⟩:=c8;unfold RA;refine aR func21 I I ?_
 (refine Jr<|Jy I I fun _ _=>Jz I I fun _ _=>Ji<|bG I I ae<|JL I (.there .here) I<|bG I I ae<|JL I (.there .here) I<|ab (aU (.o I (.o I .nil)) ai) I<|Jz I I fun _ _=>ao (.of I) (.of I) .here I I (fk I I I I I I) (bu I) ai<|Jn<|Jq<|Jr<|bG I I ae<|JL I bI I<|JI I<|Jv I<|Jn<|J0 ?_)
 rename_i b1 r9 b2 rf b3 uf;refine aN 186 2 ?_;refine aV (ι:=Nat×Option Addr×Nat) (fun y=>y.1<=r.sr.length) (fun y=>[(20,.q (y.1:Nat)),(19,.q r.sr.length),(18,.slice a1 r.sr.length ei),(3,.p b3),(2,.p b2),(1,.p b1)]) (fun y=>[row 186 2 (.slice y.2.1 y.1 y.2.2) y.1 (kG (r.sr.take y.1)),JP b3 r (.slice y.2.1 y.1 y.2.2) (.z) (.z) (.z),bz b2 (.cells #[.q 0,.q 0,.z,.z,.z,.z] 41 (0,0)),JQ b1 r (.slice a1 r.sr.length ei) (.slice a2 r.de.length db) (.slice a3 r.ti.length dV) (.slice a4 r.po.length eV)]) (fun y=>r.sr.length-y.1) ?_ ?_
 ·apply aI (0,none,0) (Zi _)
  case hs1=>exact bS
  case ht=>
   exact .h4 .nil
 rintro ⟨k,g1,oX⟩ hk;dsimp only at hk ⊢;by_cases aM:k<r.sr.length
 ·have cu:=lF (iK aM);have aC:=(kS k _ (fV aM)).2;have a7:=Cr aM;have hlen:(kG (r.sr.take k)).length=k*2:=by rw [F4,Zq];omega
  unfold Sr.cells at aC a7;generalize r.sr[k]=x at aC a7
  (refine Jr<|JA I<|Jn<|Jq<|Jd I fun au=>Jk<|Jq<|J0<|Jr<|ab (fY cu au) I<|ab (iU (eR.base aC I)) I<|Jz I I fun _ _=>ao (.of I) (.of I) .here I I (gO I I) (bu I) ai<|Jn<|Jg<|bG I I ae<|JL I bI I<|ab (cm .here) I<|a8 (ba (.o I .nil) I I bB bB ai) I fun _ _=>?_)
  refine bn (.of I) (.of I) bI .here ai (by rfl) (gO I I) (by rfl) (by rfl) (by rfl) dW (by rfl) ?_;intro v';refine aK (v:=v') (by exact .here) fun gx cx e=>?_;subst e
  (refine bG I I ae<|ao (.of I) (.of I) cZ I I (dG I) (bu I) ai<|Jx<|Jj<|Jt<|Jg<|JB I (by omega)<|Jv I<|Jn ?_)
  apply aG (k+1,gx,cx) (by show k+1<=r.sr.length;omega) (by show r.sr.length-(k+1)<r.sr.length-k;omega)
  case hs1=>exact bS
  case ht=>
   show bC _ [row 186 2 (.slice gx (k+1) cx) (k+1) (kG (r.sr.take (k+1))),JP b3 r (.slice gx (k+1) cx) (.z) (.z) (.z),bz b2 (.cells #[.q 0,.q 0,.z,.z,.z,.z] 41 (0,0)),JQ b1 r (.slice a1 r.sr.length ei) (.slice a2 r.de.length db) (.slice a3 r.ti.length dV) (.slice a4 r.po.length eV)] _;rw [a7];exact .cons (.there .here) (.h1 (.cons bI (.cons bI .nil)))
 obtain rfl:k=r.sr.length:=by omega
 rw [ZO];clear hk aM
 (refine Jr<|JA I<|Jn<|Jq<|Jc I fun au=>Jp<|Jl<|Jo<|Jt<|Jq<|Jr<|bG I I ae<|JL I cZ I<|JI I<|Jv I<|Jn<|J0 ?_)
 refine aN 90 3 ?_;refine aV (ι:=Nat×Option Addr×Nat) (fun y=>y.1<=r.de.length) (fun y=>[(34,.q (y.1:Nat)),(33,.q r.de.length),(32,.slice a2 r.de.length db),(3,.p b3),(2,.p b2),(1,.p b1)]) (fun y=>[row 90 3 (.slice y.2.1 y.1 y.2.2) y.1 (jX (r.de.take y.1)),row 186 2 (.slice g1 r.sr.length oX) r.sr.length (kG r.sr),JP b3 r (.slice g1 r.sr.length oX) (.slice y.2.1 y.1 y.2.2) (.z) (.z),bz b2 (.cells #[.q 0,.q 0,.z,.z,.z,.z] 41 (0,0)),JQ b1 r (.slice a1 r.sr.length ei) (.slice a2 r.de.length db) (.slice a3 r.ti.length dV) (.slice a4 r.po.length eV)]) (fun y=>r.de.length-y.1) ?_ ?_
 ·apply aI (0,none,0) (Zi _)
  case hs1=>exact bS
  case ht=>
   exact .h5 .nil
 rintro ⟨k,g2,yI⟩ hk;dsimp only at hk ⊢;by_cases aM:k<r.de.length
 ·have cu:=jB (iy aM);have aC:=(kr k _ (fN aM)).2;have a7:=Dx aM;have hlen:(jX (r.de.take k)).length=k*3:=by rw [GW,Zq];omega
  unfold De.cells at aC a7;generalize r.de[k]=x at aC a7
  (refine Jr<|JA I<|Jn<|Jq<|Jd I fun au=>Jk<|Jq<|J0<|Jr<|ab (fY cu au) I<|ab (iU (eR.base aC I)) I<|Jz I I fun _ _=>ao (.of I) (.of I) .here I I (fv I I I) (bu I) ai<|Jn<|Jg<|bG I I ae<|JL I cZ I<|ab (cm .here) I<|a8 (ba (.o I .nil) I I bB bB ai) I fun _ _=>?_)
  refine bn (.of I) (.of I) bI .here ai (by rfl) (fv I I I) (by rfl) (by rfl) (by rfl) dW (by rfl) ?_;intro v';refine aK (v:=v') (by exact .here) fun gx cx e=>?_;subst e
  (refine bG I I ae<|ao (.of I) (.of I) dL I I (dG I) (bu I) ai<|Jx<|Jj<|Jt<|Jg<|JB I (by omega)<|Jv I<|Jn ?_)
  apply aG (k+1,gx,cx) (by show k+1<=r.de.length;omega) (by show r.de.length-(k+1)<r.de.length-k;omega)
  case hs1=>exact bS
  case ht=>
   show bC _ [row 90 3 (.slice gx (k+1) cx) (k+1) (jX (r.de.take (k+1))),row 186 2 (.slice g1 r.sr.length oX) r.sr.length (kG r.sr),JP b3 r (.slice g1 r.sr.length oX) (.slice gx (k+1) cx) (.z) (.z),bz b2 (.cells #[.q 0,.q 0,.z,.z,.z,.z] 41 (0,0)),JQ b1 r (.slice a1 r.sr.length ei) (.slice a2 r.de.length db) (.slice a3 r.ti.length dV) (.slice a4 r.po.length eV)] _;rw [a7];exact .cons (.there .here) (.cons cZ (.h1 (.cons bI (.cons bI .nil))))
 obtain rfl:k=r.de.length:=by omega
 rw [ZO];clear hk aM
 (refine Jr<|JA I<|Jn<|Jq<|Jc I fun au=>Jp<|Jl<|Jo<|Jt<|Jq<|Jr<|bG I I ae<|JL I dL I<|JI I<|Jv I<|Jn<|J0 ?_)
 refine aN 187 3 ?_;refine aV (ι:=Nat×Option Addr×Nat) (fun y=>y.1<=r.ti.length) (fun y=>[(48,.q (y.1:Nat)),(47,.q r.ti.length),(46,.slice a3 r.ti.length dV),(3,.p b3),(2,.p b2),(1,.p b1)]) (fun y=>[row 187 3 (.slice y.2.1 y.1 y.2.2) y.1 (kU (r.ti.take y.1)),row 90 3 (.slice g2 r.de.length yI) r.de.length (jX r.de),row 186 2 (.slice g1 r.sr.length oX) r.sr.length (kG r.sr),JP b3 r (.slice g1 r.sr.length oX) (.slice g2 r.de.length yI) (.slice y.2.1 y.1 y.2.2) (.z),bz b2 (.cells #[.q 0,.q 0,.z,.z,.z,.z] 41 (0,0)),JQ b1 r (.slice a1 r.sr.length ei) (.slice a2 r.de.length db) (.slice a3 r.ti.length dV) (.slice a4 r.po.length eV)]) (fun y=>r.ti.length-y.1) ?_ ?_
 ·apply aI (0,none,0) (Zi _)
  case hs1=>exact bS
  case ht=>
   exact .h6 .nil
 rintro ⟨k,g3,H9⟩ hk;dsimp only at hk ⊢;by_cases aM:k<r.ti.length
 ·have cu:=se (fm aM);have aC:=(o9 k _ (ef aM)).2;have a7:=Cp aM;have hlen:(kU (r.ti.take k)).length=k*3:=by rw [FY,Zq];omega
  unfold Ti.cells at aC a7;generalize r.ti[k]=x at aC a7
  (refine Jr<|JA I<|Jn<|Jq<|Jd I fun au=>Jk<|Jq<|J0<|Jr<|ab (fY cu au) I<|ab (iU (eR.base aC I)) I<|Jz I I fun _ _=>ao (.of I) (.of I) .here I I (fv I I I) (bu I) ai<|Jn<|Jg<|bG I I ae<|JL I dL I<|ab (cm .here) I<|a8 (ba (.o I .nil) I I bB bB ai) I fun _ _=>?_)
  refine bn (.of I) (.of I) bI .here ai (by rfl) (fv I I I) (by rfl) (by rfl) (by rfl) dW (by rfl) ?_;intro v';refine aK (v:=v') (by exact .here) fun gx cx e=>?_;subst e
  (refine bG I I ae<|ao (.of I) (.of I) eD I I (dG I) (bu I) ai<|Jx<|Jj<|Jt<|Jg<|JB I (by omega)<|Jv I<|Jn ?_)
  apply aG (k+1,gx,cx) (by show k+1<=r.ti.length;omega) (by show r.ti.length-(k+1)<r.ti.length-k;omega)
  case hs1=>exact bS
  case ht=>
   show bC _ [row 187 3 (.slice gx (k+1) cx) (k+1) (kU (r.ti.take (k+1))),row 90 3 (.slice g2 r.de.length yI) r.de.length (jX r.de),row 186 2 (.slice g1 r.sr.length oX) r.sr.length (kG r.sr),JP b3 r (.slice g1 r.sr.length oX) (.slice g2 r.de.length yI) (.slice gx (k+1) cx) (.z),bz b2 (.cells #[.q 0,.q 0,.z,.z,.z,.z] 41 (0,0)),JQ b1 r (.slice a1 r.sr.length ei) (.slice a2 r.de.length db) (.slice a3 r.ti.length dV) (.slice a4 r.po.length eV)] _;rw [a7];exact .cons (.there .here) (.cons cZ (.cons cZ (.h1 (.cons bI (.cons bI .nil)))))
 obtain rfl:k=r.ti.length:=by omega
 rw [ZO];clear hk aM
 (refine Jr<|JA I<|Jn<|Jq<|Jc I fun au=>Jp<|Jl<|Jo<|Jt<|Jq<|Jr<|bG I I ae<|JL I eD I<|JI I<|Jv I<|Jn<|J0 ?_)
 refine aN 188 3 ?_;refine aV (ι:=Nat×Option Addr×Nat) (fun y=>y.1<=r.po.length) (fun y=>[(62,.q (y.1:Nat)),(61,.q r.po.length),(60,.slice a4 r.po.length eV),(3,.p b3),(2,.p b2),(1,.p b1)]) (fun y=>[row 188 3 (.slice y.2.1 y.1 y.2.2) y.1 (gA (r.po.take y.1)),row 187 3 (.slice g3 r.ti.length H9) r.ti.length (kU r.ti),row 90 3 (.slice g2 r.de.length yI) r.de.length (jX r.de),row 186 2 (.slice g1 r.sr.length oX) r.sr.length (kG r.sr),JP b3 r (.slice g1 r.sr.length oX) (.slice g2 r.de.length yI) (.slice g3 r.ti.length H9) (.slice y.2.1 y.1 y.2.2),bz b2 (.cells #[.q 0,.q 0,.z,.z,.z,.z] 41 (0,0)),JQ b1 r (.slice a1 r.sr.length ei) (.slice a2 r.de.length db) (.slice a3 r.ti.length dV) (.slice a4 r.po.length eV)]) (fun y=>r.po.length-y.1) ?_ ?_
 ·apply aI (0,none,0) (Zi _)
  case hs1=>exact bS
  case ht=>
   exact .h7 .nil
 rintro ⟨k,g4,XN⟩ hk;dsimp only at hk ⊢;by_cases aM:k<r.po.length
 ·have cu:=zS (kl aM);have aC:=(ud k _ (iq aM)).2;have a7:=CR aM;have hlen:(gA (r.po.take k)).length=k*3:=by rw [im,Zq];omega
  unfold Po.cells at aC a7;generalize r.po[k]=x at aC a7
  (refine Jr<|JA I<|Jn<|Jq<|Jd I fun au=>Jk<|Jq<|J0<|Jr<|ab (fY cu au) I<|ab (iU (eR.base aC I)) I<|Jz I I fun _ _=>ao (.of I) (.of I) .here I I (fv I I I) (bu I) ai<|Jn<|Jg<|bG I I ae<|JL I eD I<|ab (cm .here) I<|a8 (ba (.o I .nil) I I bB bB ai) I fun _ _=>?_)
  refine bn (.of I) (.of I) bI .here ai (by rfl) (fv I I I) (by rfl) (by rfl) (by rfl) dW (by rfl) ?_;intro v';refine aK (v:=v') (by exact .here) fun gx cx e=>?_;subst e
  (refine bG I I ae<|ao (.of I) (.of I) mN I I (dG I) (bu I) ai<|Jx<|Jj<|Jt<|Jg<|JB I (by omega)<|Jv I<|Jn ?_)
  apply aG (k+1,gx,cx) (by show k+1<=r.po.length;omega) (by show r.po.length-(k+1)<r.po.length-k;omega)
  case hs1=>exact bS
  case ht=>
   show bC _ [row 188 3 (.slice gx (k+1) cx) (k+1) (gA (r.po.take (k+1))),row 187 3 (.slice g3 r.ti.length H9) r.ti.length (kU r.ti),row 90 3 (.slice g2 r.de.length yI) r.de.length (jX r.de),row 186 2 (.slice g1 r.sr.length oX) r.sr.length (kG r.sr),JP b3 r (.slice g1 r.sr.length oX) (.slice g2 r.de.length yI) (.slice g3 r.ti.length H9) (.slice gx (k+1) cx),bz b2 (.cells #[.q 0,.q 0,.z,.z,.z,.z] 41 (0,0)),JQ b1 r (.slice a1 r.sr.length ei) (.slice a2 r.de.length db) (.slice a3 r.ti.length dV) (.slice a4 r.po.length eV)] _;rw [a7];exact .cons (.there .here) (.cons cZ (.cons cZ (.cons cZ (.h1 (.cons bI (.cons bI .nil))))))
 obtain rfl:k=r.po.length:=by omega
 rw [ZO];clear hk aM
 (refine Jr<|JA I<|Jn<|Jq<|Jc I fun au=>Jp<|Jl<|Jo<|Jt<|Jr<|ab (cm dL) I<|ao (.of I) (.of I) eD I I (fk I I I I I I) (bu I) ai<|Jn<|Je ?_)
 first | with_reducible apply aO | with_reducible apply aQ
 case he=>exact iP I inferInstance I .here ai (by rfl)
 case hR=>
  intro w' aB;exact aF (.slice g1 r.sr.length oX,.slice g2 r.de.length yI,.slice g3 r.ti.length H9,.slice g4 r.po.length XN) trivial (by exact .cons dL (.cons cZ (.cons bI (.cons (.there .here) .nil)))) aB I
theorem AB (h:RR w r s d t p) (c8:kE r):bh T_ 57 [RA r s d t p] w [] (fun _:Value×Value×Value×Value=>True) (fun x=>RA r x.1 x.2.1 x.2.2.1 x.2.2.2) (fun x=>qt r x):=by
 obtain ⟨h1,h2,h3,h4⟩:=h.one;have C9:=h.sr;have Dk:=h.de;have yy:=h.ti;have EZ:=h.po;obtain ⟨a1,ei,IW,IL,rfl,oP,iI,lF,kS⟩:=C9;obtain ⟨a2,db,IV,IK,rfl,kq,eU,jB,kr⟩:=Dk;obtain ⟨a3,dV,G1,Gj,rfl,nb,gC,se,o9⟩:=yy;obtain ⟨a4,eV,NN,IJ,rfl,re,jV,zS,ud⟩:=EZ;rw [ct] at *;rw [bY] at *;rw [bQ] at *;rw [cT] at *;unfold maxLen at iI eU gC jV;obtain ⟨f1,f2,f3,f4⟩:=c8;unfold RA;refine aR func57 I I ?_
 (refine Jr<|Jy I I fun _ _=>Jz I I fun _ _=>Ji<|bG I I ae<|JL I (.there .here) I<|bG I I ae<|JL I (.there .here) I<|ab (aU (.o I (.o I .nil)) ai) I<|Jz I I fun _ _=>ao (.of I) (.of I) .here I I (fk I I I I I I) (bu I) ai<|Jn<|Jq<|Jr<|bG I I ae<|JL I bI I<|JI I<|Jv I<|Jn<|J0 ?_)
 rename_i b1 r9 b2 rf b3 uf;refine aN 118 2 ?_;refine aV (ι:=Nat×Option Addr×Nat) (fun y=>y.1<=r.sr.length) (fun y=>[(20,.q (y.1:Nat)),(19,.q r.sr.length),(18,.slice a1 r.sr.length ei),(3,.p b3),(2,.p b2),(1,.p b1)]) (fun y=>[row 118 2 (.slice y.2.1 y.1 y.2.2) y.1 (kG (r.sr.take y.1)),JQ b3 r (.slice y.2.1 y.1 y.2.2) (.z) (.z) (.z),bz b2 (.cells #[.q 0,.q 0,.z,.z,.z,.z] 27 (0,0)),JP b1 r (.slice a1 r.sr.length ei) (.slice a2 r.de.length db) (.slice a3 r.ti.length dV) (.slice a4 r.po.length eV)]) (fun y=>r.sr.length-y.1) ?_ ?_
 ·apply aI (0,none,0) (Zi _)
  case hs1=>exact bS
  case ht=>
   exact .h4 .nil
 rintro ⟨k,g1,oX⟩ hk;dsimp only at hk ⊢;by_cases aM:k<r.sr.length
 ·have cu:=lF (iK aM);have aC:=(kS k _ (fV aM)).2;have a7:=Cr aM;have hlen:(kG (r.sr.take k)).length=k*2:=by rw [F4,Zq];omega
  unfold Sr.cells at aC a7;generalize r.sr[k]=x at aC a7
  (refine Jr<|JA I<|Jn<|Jq<|Jd I fun au=>Jk<|Jq<|J0<|Jr<|ab (fY cu au) I<|ab (iU (eR.base aC I)) I<|Jz I I fun _ _=>ao (.of I) (.of I) .here I I (gO I I) (bu I) ai<|Jn<|Jg<|bG I I ae<|JL I bI I<|ab (cm .here) I<|a8 (ba (.o I .nil) I I bB bB ai) I fun _ _=>?_)
  refine bn (.of I) (.of I) bI .here ai (by rfl) (gO I I) (by rfl) (by rfl) (by rfl) dW (by rfl) ?_;intro v';refine aK (v:=v') (by exact .here) fun gx cx e=>?_;subst e
  (refine bG I I ae<|ao (.of I) (.of I) cZ I I (dG I) (bu I) ai<|Jx<|Jj<|Jt<|Jg<|JB I (by omega)<|Jv I<|Jn ?_)
  apply aG (k+1,gx,cx) (by show k+1<=r.sr.length;omega) (by show r.sr.length-(k+1)<r.sr.length-k;omega)
  case hs1=>exact bS
  case ht=>
   show bC _ [row 118 2 (.slice gx (k+1) cx) (k+1) (kG (r.sr.take (k+1))),JQ b3 r (.slice gx (k+1) cx) (.z) (.z) (.z),bz b2 (.cells #[.q 0,.q 0,.z,.z,.z,.z] 27 (0,0)),JP b1 r (.slice a1 r.sr.length ei) (.slice a2 r.de.length db) (.slice a3 r.ti.length dV) (.slice a4 r.po.length eV)] _;rw [a7];exact .cons (.there .here) (.h1 (.cons bI (.cons bI .nil)))
 obtain rfl:k=r.sr.length:=by omega
 rw [ZO];clear hk aM
 (refine Jr<|JA I<|Jn<|Jq<|Jc I fun au=>Jp<|Jl<|Jo<|Jt<|Jq<|Jr<|bG I I ae<|JL I cZ I<|JI I<|Jv I<|Jn<|J0 ?_)
 refine aN 88 3 ?_;refine aV (ι:=Nat×Option Addr×Nat) (fun y=>y.1<=r.de.length) (fun y=>[(34,.q (y.1:Nat)),(33,.q r.de.length),(32,.slice a2 r.de.length db),(3,.p b3),(2,.p b2),(1,.p b1)]) (fun y=>[row 88 3 (.slice y.2.1 y.1 y.2.2) y.1 (jX (r.de.take y.1)),row 118 2 (.slice g1 r.sr.length oX) r.sr.length (kG r.sr),JQ b3 r (.slice g1 r.sr.length oX) (.slice y.2.1 y.1 y.2.2) (.z) (.z),bz b2 (.cells #[.q 0,.q 0,.z,.z,.z,.z] 27 (0,0)),JP b1 r (.slice a1 r.sr.length ei) (.slice a2 r.de.length db) (.slice a3 r.ti.length dV) (.slice a4 r.po.length eV)]) (fun y=>r.de.length-y.1) ?_ ?_
 ·apply aI (0,none,0) (Zi _)
  case hs1=>exact bS
  case ht=>
   exact .h5 .nil
 rintro ⟨k,g2,yI⟩ hk;dsimp only at hk ⊢;by_cases aM:k<r.de.length
 ·have cu:=jB (iy aM);have aC:=(kr k _ (fN aM)).2;have a7:=Dx aM;have hlen:(jX (r.de.take k)).length=k*3:=by rw [GW,Zq];omega
  unfold De.cells at aC a7;generalize r.de[k]=x at aC a7
  (refine Jr<|JA I<|Jn<|Jq<|Jd I fun au=>Jk<|Jq<|J0<|Jr<|ab (fY cu au) I<|ab (iU (eR.base aC I)) I<|Jz I I fun _ _=>ao (.of I) (.of I) .here I I (fv I I I) (bu I) ai<|Jn<|Jg<|bG I I ae<|JL I cZ I<|ab (cm .here) I<|a8 (ba (.o I .nil) I I bB bB ai) I fun _ _=>?_)
  refine bn (.of I) (.of I) bI .here ai (by rfl) (fv I I I) (by rfl) (by rfl) (by rfl) dW (by rfl) ?_;intro v';refine aK (v:=v') (by exact .here) fun gx cx e=>?_;subst e
  (refine bG I I ae<|ao (.of I) (.of I) dL I I (dG I) (bu I) ai<|Jx<|Jj<|Jt<|Jg<|JB I (by omega)<|Jv I<|Jn ?_)
  apply aG (k+1,gx,cx) (by show k+1<=r.de.length;omega) (by show r.de.length-(k+1)<r.de.length-k;omega)
  case hs1=>exact bS
  case ht=>
   show bC _ [row 88 3 (.slice gx (k+1) cx) (k+1) (jX (r.de.take (k+1))),row 118 2 (.slice g1 r.sr.length oX) r.sr.length (kG r.sr),JQ b3 r (.slice g1 r.sr.length oX) (.slice gx (k+1) cx) (.z) (.z),bz b2 (.cells #[.q 0,.q 0,.z,.z,.z,.z] 27 (0,0)),JP b1 r (.slice a1 r.sr.length ei) (.slice a2 r.de.length db) (.slice a3 r.ti.length dV) (.slice a4 r.po.length eV)] _;rw [a7];exact .cons (.there .here) (.cons cZ (.h1 (.cons bI (.cons bI .nil))))
 obtain rfl:k=r.de.length:=by omega
 rw [ZO];clear hk aM
 (refine Jr<|JA I<|Jn<|Jq<|Jc I fun au=>Jp<|Jl<|Jo<|Jt<|Jq<|Jr<|bG I I ae<|JL I dL I<|JI I<|Jv I<|Jn<|J0 ?_)
 refine aN 122 3 ?_;refine aV (ι:=Nat×Option Addr×Nat) (fun y=>y.1<=r.ti.length) (fun y=>[(48,.q (y.1:Nat)),(47,.q r.ti.length),(46,.slice a3 r.ti.length dV),(3,.p b3),(2,.p b2),(1,.p b1)]) (fun y=>[row 122 3 (.slice y.2.1 y.1 y.2.2) y.1 (kU (r.ti.take y.1)),row 88 3 (.slice g2 r.de.length yI) r.de.length (jX r.de),row 118 2 (.slice g1 r.sr.length oX) r.sr.length (kG r.sr),JQ b3 r (.slice g1 r.sr.length oX) (.slice g2 r.de.length yI) (.slice y.2.1 y.1 y.2.2) (.z),bz b2 (.cells #[.q 0,.q 0,.z,.z,.z,.z] 27 (0,0)),JP b1 r (.slice a1 r.sr.length ei) (.slice a2 r.de.length db) (.slice a3 r.ti.length dV) (.slice a4 r.po.length eV)]) (fun y=>r.ti.length-y.1) ?_ ?_
 ·apply aI (0,none,0) (Zi _)
  case hs1=>exact bS
  case ht=>
   exact .h6 .nil
 rintro ⟨k,g3,H9⟩ hk;dsimp only at hk ⊢;by_cases aM:k<r.ti.length
 ·have cu:=se (fm aM);have aC:=(o9 k _ (ef aM)).2;have a7:=Cp aM;have hlen:(kU (r.ti.take k)).length=k*3:=by rw [FY,Zq];omega
  unfold Ti.cells at aC a7;generalize r.ti[k]=x at aC a7
  (refine Jr<|JA I<|Jn<|Jq<|Jd I fun au=>Jk<|Jq<|J0<|Jr<|ab (fY cu au) I<|ab (iU (eR.base aC I)) I<|Jz I I fun _ _=>ao (.of I) (.of I) .here I I (fv I I I) (bu I) ai<|Jn<|Jg<|bG I I ae<|JL I dL I<|ab (cm .here) I<|a8 (ba (.o I .nil) I I bB bB ai) I fun _ _=>?_)
  refine bn (.of I) (.of I) bI .here ai (by rfl) (fv I I I) (by rfl) (by rfl) (by rfl) dW (by rfl) ?_;intro v';refine aK (v:=v') (by exact .here) fun gx cx e=>?_;subst e
  (refine bG I I ae<|ao (.of I) (.of I) eD I I (dG I) (bu I) ai<|Jx<|Jj<|Jt<|Jg<|JB I (by omega)<|Jv I<|Jn ?_)
  apply aG (k+1,gx,cx) (by show k+1<=r.ti.length;omega) (by show r.ti.length-(k+1)<r.ti.length-k;omega)
  case hs1=>exact bS
  case ht=>
   show bC _ [row 122 3 (.slice gx (k+1) cx) (k+1) (kU (r.ti.take (k+1))),row 88 3 (.slice g2 r.de.length yI) r.de.length (jX r.de),row 118 2 (.slice g1 r.sr.length oX) r.sr.length (kG r.sr),JQ b3 r (.slice g1 r.sr.length oX) (.slice g2 r.de.length yI) (.slice gx (k+1) cx) (.z),bz b2 (.cells #[.q 0,.q 0,.z,.z,.z,.z] 27 (0,0)),JP b1 r (.slice a1 r.sr.length ei) (.slice a2 r.de.length db) (.slice a3 r.ti.length dV) (.slice a4 r.po.length eV)] _;rw [a7];exact .cons (.there .here) (.cons cZ (.cons cZ (.h1 (.cons bI (.cons bI .nil)))))
 obtain rfl:k=r.ti.length:=by omega
 rw [ZO];clear hk aM
 (refine Jr<|JA I<|Jn<|Jq<|Jc I fun au=>Jp<|Jl<|Jo<|Jt<|Jq<|Jr<|bG I I ae<|JL I eD I<|JI I<|Jv I<|Jn<|J0 ?_)
 refine aN 180 3 ?_;refine aV (ι:=Nat×Option Addr×Nat) (fun y=>y.1<=r.po.length) (fun y=>[(62,.q (y.1:Nat)),(61,.q r.po.length),(60,.slice a4 r.po.length eV),(3,.p b3),(2,.p b2),(1,.p b1)]) (fun y=>[row 180 3 (.slice y.2.1 y.1 y.2.2) y.1 (gA (r.po.take y.1)),row 122 3 (.slice g3 r.ti.length H9) r.ti.length (kU r.ti),row 88 3 (.slice g2 r.de.length yI) r.de.length (jX r.de),row 118 2 (.slice g1 r.sr.length oX) r.sr.length (kG r.sr),JQ b3 r (.slice g1 r.sr.length oX) (.slice g2 r.de.length yI) (.slice g3 r.ti.length H9) (.slice y.2.1 y.1 y.2.2),bz b2 (.cells #[.q 0,.q 0,.z,.z,.z,.z] 27 (0,0)),JP b1 r (.slice a1 r.sr.length ei) (.slice a2 r.de.length db) (.slice a3 r.ti.length dV) (.slice a4 r.po.length eV)]) (fun y=>r.po.length-y.1) ?_ ?_
 ·apply aI (0,none,0) (Zi _)
  case hs1=>exact bS
  case ht=>
   exact .h7 .nil
 rintro ⟨k,g4,XN⟩ hk;dsimp only at hk ⊢;by_cases aM:k<r.po.length
 ·have cu:=zS (kl aM);have aC:=(ud k _ (iq aM)).2;have a7:=CR aM;have hlen:(gA (r.po.take k)).length=k*3:=by rw [im,Zq];omega
  unfold Po.cells at aC a7;generalize r.po[k]=x at aC a7
  (refine Jr<|JA I<|Jn<|Jq<|Jd I fun au=>Jk<|Jq<|J0<|Jr<|ab (fY cu au) I<|ab (iU (eR.base aC I)) I<|Jz I I fun _ _=>ao (.of I) (.of I) .here I I (fv I I I) (bu I) ai<|Jn<|Jg<|bG I I ae<|JL I eD I<|ab (cm .here) I<|a8 (ba (.o I .nil) I I bB bB ai) I fun _ _=>?_)
  refine bn (.of I) (.of I) bI .here ai (by rfl) (fv I I I) (by rfl) (by rfl) (by rfl) dW (by rfl) ?_;intro v';refine aK (v:=v') (by exact .here) fun gx cx e=>?_;subst e
  (refine bG I I ae<|ao (.of I) (.of I) mN I I (dG I) (bu I) ai<|Jx<|Jj<|Jt<|Jg<|JB I (by omega)<|Jv I<|Jn ?_)
  apply aG (k+1,gx,cx) (by show k+1<=r.po.length;omega) (by show r.po.length-(k+1)<r.po.length-k;omega)
  case hs1=>exact bS
  case ht=>
   show bC _ [row 180 3 (.slice gx (k+1) cx) (k+1) (gA (r.po.take (k+1))),row 122 3 (.slice g3 r.ti.length H9) r.ti.length (kU r.ti),row 88 3 (.slice g2 r.de.length yI) r.de.length (jX r.de),row 118 2 (.slice g1 r.sr.length oX) r.sr.length (kG r.sr),JQ b3 r (.slice g1 r.sr.length oX) (.slice g2 r.de.length yI) (.slice g3 r.ti.length H9) (.slice gx (k+1) cx),bz b2 (.cells #[.q 0,.q 0,.z,.z,.z,.z] 27 (0,0)),JP b1 r (.slice a1 r.sr.length ei) (.slice a2 r.de.length db) (.slice a3 r.ti.length dV) (.slice a4 r.po.length eV)] _;rw [a7];exact .cons (.there .here) (.cons cZ (.cons cZ (.cons cZ (.h1 (.cons bI (.cons bI .nil))))))
 obtain rfl:k=r.po.length:=by omega
 rw [ZO];clear hk aM
 (refine Jr<|JA I<|Jn<|Jq<|Jc I fun au=>Jp<|Jl<|Jo<|Jt<|Jr<|ab (cm dL) I<|ao (.of I) (.of I) eD I I (fk I I I I I I) (bu I) ai<|Jn<|Je ?_)
 first | with_reducible apply aO | with_reducible apply aQ
 case he=>exact iP I inferInstance I .here ai (by rfl)
 case hR=>
  intro w' aB;exact aF (.slice g1 r.sr.length oX,.slice g2 r.de.length yI,.slice g3 r.ti.length H9,.slice g4 r.po.length XN) trivial (by exact .cons dL (.cons cZ (.cons bI (.cons (.there .here) .nil)))) aB I
theorem kM {α:Type} {l m:List α} (hl:k<l.length) (hm:k<m.length) (h:l[k]=m[k]):(l.drop k=m.drop k)↔l.drop (k+1)=m.drop (k+1):=by
 rw [Zu hl,Zu hm,h];exact ⟨fun e=>(List.cons.inj e).2,fun e=>by rw [e]⟩
theorem F7 {l m:List ByteArray} (h1:Rd w v1 1 (gT l)) (h2:Rd w v2 1 (gT m)) :
  ak T_ 58 [v1,v2] w (.bool (decide (l=m))):=by
 obtain ⟨a1,X1,b1,o1,rfl,oP,iI,lF,kS⟩:=h1;obtain ⟨a2,pb,b2,o2,rfl,kq,eU,jB,kr⟩:=h2;rw [bF] at *;rw [bF] at *;unfold maxLen at iI eU;refine ah func58 I I ?_
 (refine Jr<|Ja I<|Jn<|Jq<|Jr<|Jv I<|JI I<|Jv I<|JI I<|JD I<|Jn<|gG I (fun au=>?_) fun au=>?_;refine Jr<|Ja I<|Jn<|Ju<|JT ?_;rotate_left;refine Jk<|Jq<|Jr<|Ja I<|Jn<|J0 ?_;rotate_right)
 ·rw [decide_eq_false fun e=>au (by rw [e])]
 have W7:l.length=m.length:=by omega
 refine aV (ι:=Nat) (fun k=>k<=l.length/\(l=m↔l.drop k=m.drop k)) (fun k=>[(5,.q (k:Int)),(0,.slice a1 l.length X1),(1,.slice a2 m.length pb)]) (fun _=>[]) (fun k=>l.length-k) ?_ ?_
 ·apply aI (0:Nat) ⟨Zi _,Iff.rfl⟩
  case hs1=>exact bS
  case ht=>(try simp only [Ze,Zf,Za]);exact .nil
 rintro k ⟨hk,hf⟩;by_cases aM:k<l.length
 ·have fU:k<m.length:=by omega
  have xr:=lF (ij aM);have qU:=jB (ij fU);have mg:=(kS k _ (fw aM)).2;have fE:=(kr k _ (fw fU)).2;have hd:=kM (l:=l) (m:=m) aM fU;have fO:l[k]≠m[k]->l.drop k≠m.drop k:=fun hne e=>hne (by
   rw [Zu aM,Zu fU] at e;exact (List.cons.inj e).1)
  generalize l[k]=x at mg hd fO;generalize m[k]=y at fE hd fO;have c1:w.cell? ⟨b1,o1+k*1,none⟩=some (.string x):=mg 0 _ I;have c2:w.cell? ⟨b2,o2+k*1,none⟩=some (.string y):=fE 0 _ I;refine Jq<|Jr<|Jv I<|Jv I<|JI I<|JA I<|Jn<|Jd I fun au=>Jk<|Jq<|J0<|Jq ?_
  with_reducible refine cJ 9 (by kernel_rfl) ?_
  (refine fW I I<|fW I I<|ar (fY xr au) I<|ar (ag (.of I) (At.base c1 I)) I<|fW I I<|fW I I<|ar (an (.of I) (.of I) qU (by omega) (by omega) aW) I<|ar (ag (.of I) (At.base c2 I)) I<|ar (fy (.of I) (.of I)) I ?_)
  with_reducible refine cN ?_
  (refine Jn<|gG I (fun au=>?_) fun au=>?_;refine Jr<|Ja I<|Jn<|Je<|Jm<|Jh<|Jh<|Jm<|Jh<|JT ?_;rotate_left;refine Jw<|Jj<|Jt<|Jg<|Jv I<|JB I (by omega)<|Ja I<|Jn ?_;rotate_right)
  ·have hne:x≠y:=au;rw [decide_eq_false fun e=>fO hne (hf.1 e)]
  ·have he:x=y:=Zo.1 au;clear au;apply aG (k+1) ⟨(show k+1<=l.length from aM),hf.trans (hd he)⟩ (show l.length-(k+1)<l.length-k by omega)
   case hs1=>exact bS
   case ht=>(try simp only [Ze,Zf,Za]);exact .nil
 ·obtain rfl:k=l.length:=by omega
  have:l=m:=hf.2 (by rw [Z3,W7,Z3]);refine Jq<|Jr<|Jv I<|Jv I<|JI I<|JA I<|Jn<|Jc I fun au=>Jp<|Jl<|Jo<|Jt<|Jr<|Ja I<|Jn<|Je<|JT ?_;rw [decide_eq_true this]
theorem OD {l m:List Int} (h1:Rd w v1 1 (ints l)) (h2:Rd w v2 1 (ints m)) :
  ak T_ 109 [v1,v2] w (.bool (decide (l=m))):=by
 obtain ⟨a1,X1,b1,o1,rfl,oP,iI,lF,kS⟩:=h1;obtain ⟨a2,pb,b2,o2,rfl,kq,eU,jB,kr⟩:=h2;rw [dz] at *;rw [dz] at *;unfold maxLen at iI eU;refine ah func109 I I ?_
 (refine Jr<|Ja I<|Jn<|Jq<|Jr<|Jv I<|JI I<|Jv I<|JI I<|JD I<|Jn<|gG I (fun au=>?_) fun au=>?_;refine Jr<|Ja I<|Jn<|Ju<|JT ?_;rotate_left;refine Jk<|Jq<|Jr<|Ja I<|Jn<|J0 ?_;rotate_right)
 ·rw [decide_eq_false fun e=>au (by rw [e])]
 have W7:l.length=m.length:=by omega
 refine aV (ι:=Nat) (fun k=>k<=l.length/\(l=m↔l.drop k=m.drop k)) (fun k=>[(5,.q (k:Int)),(0,.slice a1 l.length X1),(1,.slice a2 m.length pb)]) (fun _=>[]) (fun k=>l.length-k) ?_ ?_
 ·apply aI (0:Nat) ⟨Zi _,Iff.rfl⟩
  case hs1=>exact bS
  case ht=>(try simp only [Ze,Zf,Za]);exact .nil
 rintro k ⟨hk,hf⟩;by_cases aM:k<l.length
 ·have fU:k<m.length:=by omega
  have xr:=lF (kp aM);have qU:=jB (kp fU);have mg:=(kS k _ (jd aM)).2;have fE:=(kr k _ (jd fU)).2;have hd:=kM (l:=l) (m:=m) aM fU;have fO:l[k]≠m[k]->l.drop k≠m.drop k:=fun hne e=>hne (by
   rw [Zu aM,Zu fU] at e;exact (List.cons.inj e).1)
  generalize l[k]=x at mg hd fO;generalize m[k]=y at fE hd fO;have c1:w.cell? ⟨b1,o1+k*1,none⟩=some (.q x):=mg 0 _ I;have c2:w.cell? ⟨b2,o2+k*1,none⟩=some (.q y):=fE 0 _ I;refine Jq<|Jr<|Jv I<|Jv I<|JI I<|JA I<|Jn<|Jd I fun au=>Jk<|Jq<|J0<|Jq ?_
  with_reducible refine cJ 9 (by kernel_rfl) ?_
  (refine fW I I<|fW I I<|ar (fY xr au) I<|ar (ag (.of I) (At.base c1 I)) I<|fW I I<|fW I I<|ar (an (.of I) (.of I) qU (by omega) (by omega) aW) I<|ar (ag (.of I) (At.base c2 I)) I<|ar (j8 (.of I) (.of I)) I ?_)
  with_reducible refine cN ?_
  (refine Jn<|gG I (fun au=>?_) fun au=>?_;refine Jr<|Ja I<|Jn<|Je<|Jm<|Jh<|Jh<|Jm<|Jh<|JT ?_;rotate_left;refine Jw<|Jj<|Jt<|Jg<|Jv I<|JB I (by omega)<|Ja I<|Jn ?_;rotate_right)
  ·have hne:x≠y:=au;rw [decide_eq_false fun e=>fO hne (hf.1 e)]
  ·have he:x=y:=Zo.1 au;clear au;apply aG (k+1) ⟨(show k+1<=l.length from aM),hf.trans (hd he)⟩ (show l.length-(k+1)<l.length-k by omega)
   case hs1=>exact bS
   case ht=>(try simp only [Ze,Zf,Za]);exact .nil
 ·obtain rfl:k=l.length:=by omega
  have:l=m:=hf.2 (by rw [Z3,W7,Z3]);refine Jq<|Jr<|Jv I<|Jv I<|JI I<|JA I<|Jn<|Jc I fun au=>Jp<|Jl<|Jo<|Jt<|Jr<|Ja I<|Jn<|Je<|JT ?_;rw [decide_eq_true this]
theorem FG (h:Rd w lv 1 (gT l)) (hl:l.length<=1000000) :
  bh T_ 72 [lv] w [] (fun _:Value=>True) id (fun v=>[row 9 1 v l.length (aP l)]):=by
 refine aR func72 I I ?_
 (refine Jr<|Ja I<|Ji<|a8 (aD .nil I I I I) I fun _ _=>Jv I ?_)
 rename_i bq nf;refine bP (g:=bq) (E:=9) (ys:=[]) 0 1 (by exact .here) I I I ?_
 skip
 with_reducible apply eX
 case hx=>exact Is.of I
 case hy=>exact Is.of I
 case ht=>exact .here
 case hsrc=>exact fun w' aB=>h.keeps aB.keeps
 case h1=>exact vn l
 case hz=>exact I
 case hsz=>exact I
 case hb0=>exact I
 case hb=>rw [bF];omega
 case hd=>rfl
 intro v';rw [bF,Zx,Za,<- pj];refine Ja I<|Jn<|Je ?_
 first | with_reducible apply aO | with_reducible apply aQ
 case he=>exact dI I I
 case hR=>
  intro w' aB;exact aF v' trivial (by exact .h1 .nil) aB I
theorem V3 {r q:Ro}:r=q↔(((((r.lv=q.lv/\r.ma=q.ma)/\r.sr=q.sr)/\r.de=q.de)/\r.ti=q.ti)/\r.po=q.po):=by
 cases r;cases q;simp [and_assoc]
theorem Fz {r q:Ro} {s d t p s' d' t' p':Value} (h:RR w r s d t p) (h':RR w q s' d' t' p'):ak T_ 84 [RA r s d t p,RA q s' d' t' p'] w (.bool (decide (r=q))):=by
 obtain ⟨h1,h2,h3,h4⟩:=h.one;have g1:=Rd.one h'.sr;have g2:=Rd.one h'.de;have g3:=Rd.one h'.ti;have g4:=Rd.one h'.po;have C9:=h.sr;have Dk:=h.de;have yy:=h.ti;have EZ:=h.po;have gs_:=h'.sr;have gd_:=h'.de;have gt_:=h'.ti;have gp_:=h'.po;obtain ⟨a1,ei,IW,IL,rfl,oP,iI,lF,kS⟩:=C9;obtain ⟨x1,NV,xs1,xo1,rfl,adJ,XM,ga1,oX⟩:=gs_;obtain ⟨a2,db,IV,IK,rfl,kq,eU,jB,kr⟩:=Dk;obtain ⟨x2,NU,U5,xo2,rfl,adI,XL,ga2,yI⟩:=gd_;obtain ⟨a3,dV,G1,Gj,rfl,nb,gC,se,o9⟩:=yy;obtain ⟨x3,NT,xs3,xo3,rfl,adH,XK,ga3,H9⟩:=gt_;obtain ⟨a4,eV,NN,IJ,rfl,re,jV,zS,ud⟩:=EZ;obtain ⟨x4,NS,xs4,xo4,rfl,adG,XJ,ga4,XN⟩:=gp_;rw [ct] at *;rw [ct] at *;rw [bY] at *;rw [bY] at *;rw [bQ] at *;rw [bQ] at *;rw [cT] at *;rw [cT] at *;unfold maxLen at iI eU gC jV XM XL XK XJ;unfold RA;refine ah func84 I I ?_
 (refine Jr<|Jy I I fun _ _=>Jy I I fun _ _=>Ja I<|Jn<|Jq<|Jr<|bG I I ae<|JL I (.there .here) I<|bG I I ae<|JL I .here I<|JD I<|Jv I<|aH I I inferInstance (fun hg bE=>(aq (.of I) ae)) I<|aH I I inferInstance (fun hg bE=>(ag (.bM hg I) (At.lit (.there .here) I))) I<|aH I I inferInstance (fun hg bE=>(aq (.of I) ae)) I<|aH I I inferInstance (fun hg bE=>(ag (.bM hg I) (At.lit .here I))) I<|aH I I inferInstance (fun hg bE=>(j8 (.bM hg I) (.bM hg I))) I<|ab (bH (.of I) I) I<|Jv I<|aH I I inferInstance (fun hg bE=>(aq (.of I) ae)) I<|aH I I inferInstance (fun hg bE=>(ag (.bM hg I) (At.lit (.there .here) I))) I<|aH I I inferInstance (fun hg bE=>(cq (.bM hg I))) I<|aH I I inferInstance (fun hg bE=>(aq (.of I) ae)) I<|aH I I inferInstance (fun hg bE=>(ag (.bM hg I) (At.lit .here I))) I<|aH I I inferInstance (fun hg bE=>(cq (.bM hg I))) I<|aH I I inferInstance (fun hg bE=>(j8 (.bM hg I) (.bM hg I))) I<|ab (bH (.of I) I) I<|Jv I<|aH I I inferInstance (fun hg bE=>(aq (.of I) ae)) I<|aH I I inferInstance (fun hg bE=>(ag (.bM hg I) (At.lit (.there .here) I))) I<|aH I I inferInstance (fun hg bE=>(cq (.bM hg I))) I<|aH I I inferInstance (fun hg bE=>(aq (.of I) ae)) I<|aH I I inferInstance (fun hg bE=>(ag (.bM hg I) (At.lit .here I))) I<|aH I I inferInstance (fun hg bE=>(cq (.bM hg I))) I<|aH I I inferInstance (fun hg bE=>(j8 (.bM hg I) (.bM hg I))) I<|ab (bH (.of I) I) I<|Jv I<|aH I I inferInstance (fun hg bE=>(aq (.of I) ae)) I<|aH I I inferInstance (fun hg bE=>(ag (.bM hg I) (At.lit (.there .here) I))) I<|aH I I inferInstance (fun hg bE=>(cq (.bM hg I))) I<|aH I I inferInstance (fun hg bE=>(aq (.of I) ae)) I<|aH I I inferInstance (fun hg bE=>(ag (.bM hg I) (At.lit .here I))) I<|aH I I inferInstance (fun hg bE=>(cq (.bM hg I))) I<|aH I I inferInstance (fun hg bE=>(j8 (.bM hg I) (.bM hg I))) I<|ab (bH (.of I) I) I<|Jv I<|aH I I inferInstance (fun hg bE=>(aq (.of I) ae)) I<|aH I I inferInstance (fun hg bE=>(ag (.bM hg I) (At.lit (.there .here) I))) I<|aH I I inferInstance (fun hg bE=>(cq (.bM hg I))) I<|aH I I inferInstance (fun hg bE=>(aq (.of I) ae)) I<|aH I I inferInstance (fun hg bE=>(ag (.bM hg I) (At.lit .here I))) I<|aH I I inferInstance (fun hg bE=>(cq (.bM hg I))) I<|aH I I inferInstance (fun hg bE=>(j8 (.bM hg I) (.bM hg I))) I<|ab (bH (.of I) I) I<|Jn<|nW I (fun au=>?_) fun au=>?_;refine Jr<|Ja I<|Jn<|Ju<|JT ?_;rotate_left;refine Jk<|Jq<|Jr<|Ja I<|Jn<|J0 ?_;rotate_right)
 ·rw [decide_eq_false fun e=>by subst e;simp at au]
 simp only [not_or,ne_eq,Zo] at au;obtain ⟨⟨⟨⟨⟨e1,e2⟩,e3⟩,e4⟩,e5⟩,e6⟩:=au;rename_i b1 r9 b2 rf;refine aV (ι:=Nat) (fun k=>k<=r.sr.length/\(r.sr=q.sr↔r.sr.drop k=q.sr.drop k)) (fun k=>[(5,.int .i64 (k:Nat)),(3,.pointer (some ⟨b2,0,none⟩)),(2,.pointer (some ⟨b1,0,none⟩))]) (fun _=>[bz b2 (.cells #[.int .i64 q.lv,.int .i64 q.ma,.slice x1 q.sr.length NV,.slice x2 q.de.length NU,.slice x3 q.ti.length NT,.slice x4 q.po.length NS] 27 (0,0)),JQ b1 r (.slice a1 r.sr.length ei) (.slice a2 r.de.length db) (.slice a3 r.ti.length dV) (.slice a4 r.po.length eV)]) (fun k=>r.sr.length-k) ?_ ?_
 ·apply aI (0:Nat) ⟨Zi _,Iff.rfl⟩
  case hs1=>exact bS
  case ht=>
   exact .h2 .nil
 rintro k ⟨hk,hf⟩;have el:r.sr.length=q.sr.length:=by omega
 by_cases aM:k<r.sr.length
 ·have fU:k<q.sr.length:=by omega
  have cu:=lF (iK aM);have Uw:=ga1 (iK fU);have aC:=(kS k _ (fV aM)).2;have mh:=(oX k _ (fV fU)).2;have hd:=kM (l:=r.sr) (m:=q.sr) aM fU;have fO:r.sr[k]≠q.sr[k]->r.sr.drop k≠q.sr.drop k:=fun hne e=>hne (by
   rw [Zu aM,Zu fU] at e;exact (List.cons.inj e).1)
  generalize r.sr[k]=x at aC hd fO;generalize q.sr[k]=y at mh hd fO;unfold Sr.cells at aC mh
  (refine Jq<|Jr<|Jv I<|bG I I ae<|JL I (.there .here) I<|JI I<|JA I<|Jn<|Jd I fun au=>Jk<|Jq<|J0<|Jq ?_)
  with_reducible refine cJ 10 (by kernel_rfl) ?_
  (refine lU I I ae<|ar (iB (.there .here)) I<|fW I I<|ar (fY cu au) I<|ar (iU (eR.base aC I)) I<|lU I I ae<|ar (iB .here) I<|fW I I<|ar (an (.of I) (.of I) Uw (by omega) (by omega) aW) I<|ar (iU (eR.base mh I)) I ?_)
  with_reducible refine cN ?_
  (refine ab (vr (.of I) (.of I) (fT (kQ mU)) I) I<|Jn<|nW I (fun au=>?_) fun au=>?_;refine Jr<|Ja I<|Jn<|Je<|Jm<|Jh<|Jh<|Jm<|Jh<|JT ?_;rotate_left;refine Jw<|Jj<|Jt<|Jg<|Jv I<|JB I (by omega)<|Ja I<|Jn ?_;rotate_right)
  ·have hne:x≠y:=by
    intro e;subst e;simp at au
   rw [decide_eq_false fun e=>fO hne (hf.1 (by rw [e]))]
  ·have he:x=y:=by
    obtain ⟨q1,q2,_⟩:=au;cases x;cases y;dsimp only at q1 q2;subst q1;subst q2
    rfl
   clear au;apply aG (k+1) ⟨(show k+1<=r.sr.length from aM),hf.trans (hd he)⟩ (show r.sr.length-(k+1)<r.sr.length-k by omega)
   case hs1=>exact bS
   case ht=>
    exact .h2 .nil
 have z1:r.sr=q.sr:=by
  obtain rfl:k=r.sr.length:=by omega
  exact hf.2 (by rw [Z3,el,Z3])
 obtain rfl:k=r.sr.length:=by omega
 clear hk hf aM
 (refine Jq<|Jr<|Jv I<|bG I I ae<|JL I (.there .here) I<|JI I<|JA I<|Jn<|Jc I fun au=>Jp<|Jl<|Jo<|Jt<|Jq<|Jr<|Ja I<|Jn<|J0 ?_)
 refine aV (ι:=Nat) (fun k=>k<=r.de.length/\(r.de=q.de↔r.de.drop k=q.de.drop k)) (fun k=>[(6,.q (k:Nat)),(3,.p b2),(2,.p b1)]) (fun _=>[bz b2 (.cells #[.q q.lv,.q q.ma,.slice x1 q.sr.length NV,.slice x2 q.de.length NU,.slice x3 q.ti.length NT,.slice x4 q.po.length NS] 27 (0,0)),JQ b1 r (.slice a1 r.sr.length ei) (.slice a2 r.de.length db) (.slice a3 r.ti.length dV) (.slice a4 r.po.length eV)]) (fun k=>r.de.length-k) ?_ ?_
 ·apply aI (0:Nat) ⟨Zi _,Iff.rfl⟩
  case hs1=>exact bS
  case ht=>
   exact .h2 .nil
 rintro k ⟨hk,hf⟩;have el:r.de.length=q.de.length:=by omega
 by_cases aM:k<r.de.length
 ·have fU:k<q.de.length:=by omega
  have cu:=jB (iy aM);have Uw:=ga2 (iy fU);have aC:=(kr k _ (fN aM)).2;have mh:=(yI k _ (fN fU)).2;have hd:=kM (l:=r.de) (m:=q.de) aM fU;have fO:r.de[k]≠q.de[k]->r.de.drop k≠q.de.drop k:=fun hne e=>hne (by
   rw [Zu aM,Zu fU] at e;exact (List.cons.inj e).1)
  generalize r.de[k]=x at aC hd fO;generalize q.de[k]=y at mh hd fO;unfold De.cells at aC mh
  (refine Jq<|Jr<|Jv I<|bG I I ae<|JL I (.there .here) I<|JI I<|JA I<|Jn<|Jd I fun au=>Jk<|Jq<|J0<|Jq ?_)
  with_reducible refine cJ 10 (by kernel_rfl) ?_
  (refine lU I I ae<|ar (iB (.there .here)) I<|fW I I<|ar (fY cu au) I<|ar (iU (eR.base aC I)) I<|lU I I ae<|ar (iB .here) I<|fW I I<|ar (an (.of I) (.of I) Uw (by omega) (by omega) aW) I<|ar (iU (eR.base mh I)) I ?_)
  with_reducible refine cN ?_
  (refine ab (vr (.of I) (.of I) (fT (kQ (Lg mU))) I) I<|Jn<|nW I (fun au=>?_) fun au=>?_;refine Jr<|Ja I<|Jn<|Je<|Jm<|Jh<|Jh<|Jm<|Jh<|JT ?_;rotate_left;refine Jw<|Jj<|Jt<|Jg<|Jv I<|JB I (by omega)<|Ja I<|Jn ?_;rotate_right)
  ·have hne:x≠y:=by
    intro e;subst e;simp at au
   rw [decide_eq_false fun e=>fO hne (hf.1 (by rw [e]))]
  ·have he:x=y:=by
    obtain ⟨q1,q2,q3,_⟩:=au;cases x;cases y;dsimp only at q1 q2 q3;have q3:=eq_of_beq q3;subst q1;subst q2;subst q3
    rfl
   clear au;apply aG (k+1) ⟨(show k+1<=r.de.length from aM),hf.trans (hd he)⟩ (show r.de.length-(k+1)<r.de.length-k by omega)
   case hs1=>exact bS
   case ht=>
    exact .h2 .nil
 have z2:r.de=q.de:=by
  obtain rfl:k=r.de.length:=by omega
  exact hf.2 (by rw [Z3,el,Z3])
 obtain rfl:k=r.de.length:=by omega
 clear hk hf aM
 (refine Jq<|Jr<|Jv I<|bG I I ae<|JL I (.there .here) I<|JI I<|JA I<|Jn<|Jc I fun au=>Jp<|Jl<|Jo<|Jt<|Jq<|Jr<|Ja I<|Jn<|J0 ?_)
 refine aV (ι:=Nat) (fun k=>k<=r.ti.length/\(r.ti=q.ti↔r.ti.drop k=q.ti.drop k)) (fun k=>[(7,.q (k:Nat)),(3,.p b2),(2,.p b1)]) (fun _=>[bz b2 (.cells #[.q q.lv,.q q.ma,.slice x1 q.sr.length NV,.slice x2 q.de.length NU,.slice x3 q.ti.length NT,.slice x4 q.po.length NS] 27 (0,0)),JQ b1 r (.slice a1 r.sr.length ei) (.slice a2 r.de.length db) (.slice a3 r.ti.length dV) (.slice a4 r.po.length eV)]) (fun k=>r.ti.length-k) ?_ ?_
 ·apply aI (0:Nat) ⟨Zi _,Iff.rfl⟩
  case hs1=>exact bS
  case ht=>
   exact .h2 .nil
 rintro k ⟨hk,hf⟩;have el:r.ti.length=q.ti.length:=by omega
 by_cases aM:k<r.ti.length
 ·have fU:k<q.ti.length:=by omega
  have cu:=se (fm aM);have Uw:=ga3 (fm fU);have aC:=(o9 k _ (ef aM)).2;have mh:=(H9 k _ (ef fU)).2;have hd:=kM (l:=r.ti) (m:=q.ti) aM fU;have fO:r.ti[k]≠q.ti[k]->r.ti.drop k≠q.ti.drop k:=fun hne e=>hne (by
   rw [Zu aM,Zu fU] at e;exact (List.cons.inj e).1)
  generalize r.ti[k]=x at aC hd fO;generalize q.ti[k]=y at mh hd fO;unfold Ti.cells at aC mh
  (refine Jq<|Jr<|Jv I<|bG I I ae<|JL I (.there .here) I<|JI I<|JA I<|Jn<|Jd I fun au=>Jk<|Jq<|J0<|Jq ?_)
  with_reducible refine cJ 10 (by kernel_rfl) ?_
  (refine lU I I ae<|ar (iB (.there .here)) I<|fW I I<|ar (fY cu au) I<|ar (iU (eR.base aC I)) I<|lU I I ae<|ar (iB .here) I<|fW I I<|ar (an (.of I) (.of I) Uw (by omega) (by omega) aW) I<|ar (iU (eR.base mh I)) I ?_)
  with_reducible refine cN ?_
  (refine ab (vr (.of I) (.of I) (fT (kQ (kQ mU))) I) I<|Jn<|nW I (fun au=>?_) fun au=>?_;refine Jr<|Ja I<|Jn<|Je<|Jm<|Jh<|Jh<|Jm<|Jh<|JT ?_;rotate_left;refine Jw<|Jj<|Jt<|Jg<|Jv I<|JB I (by omega)<|Ja I<|Jn ?_;rotate_right)
  ·have hne:x≠y:=by
    intro e;subst e;simp at au
   rw [decide_eq_false fun e=>fO hne (hf.1 (by rw [e]))]
  ·have he:x=y:=by
    obtain ⟨q1,q2,q3,_⟩:=au;cases x;cases y;dsimp only at q1 q2 q3;subst q1;subst q2;subst q3
    rfl
   clear au;apply aG (k+1) ⟨(show k+1<=r.ti.length from aM),hf.trans (hd he)⟩ (show r.ti.length-(k+1)<r.ti.length-k by omega)
   case hs1=>exact bS
   case ht=>
    exact .h2 .nil
 have z3:r.ti=q.ti:=by
  obtain rfl:k=r.ti.length:=by omega
  exact hf.2 (by rw [Z3,el,Z3])
 obtain rfl:k=r.ti.length:=by omega
 clear hk hf aM
 (refine Jq<|Jr<|Jv I<|bG I I ae<|JL I (.there .here) I<|JI I<|JA I<|Jn<|Jc I fun au=>Jp<|Jl<|Jo<|Jt<|Jq<|Jr<|Ja I<|Jn<|J0 ?_)
 refine aV (ι:=Nat) (fun k=>k<=r.po.length/\(r.po=q.po↔r.po.drop k=q.po.drop k)) (fun k=>[(8,.q (k:Nat)),(3,.p b2),(2,.p b1)]) (fun _=>[bz b2 (.cells #[.q q.lv,.q q.ma,.slice x1 q.sr.length NV,.slice x2 q.de.length NU,.slice x3 q.ti.length NT,.slice x4 q.po.length NS] 27 (0,0)),JQ b1 r (.slice a1 r.sr.length ei) (.slice a2 r.de.length db) (.slice a3 r.ti.length dV) (.slice a4 r.po.length eV)]) (fun k=>r.po.length-k) ?_ ?_
 ·apply aI (0:Nat) ⟨Zi _,Iff.rfl⟩
  case hs1=>exact bS
  case ht=>
   exact .h2 .nil
 rintro k ⟨hk,hf⟩;have el:r.po.length=q.po.length:=by omega
 by_cases aM:k<r.po.length
 ·have fU:k<q.po.length:=by omega
  have cu:=zS (kl aM);have Uw:=ga4 (kl fU);have aC:=(ud k _ (iq aM)).2;have mh:=(XN k _ (iq fU)).2;have hd:=kM (l:=r.po) (m:=q.po) aM fU;have fO:r.po[k]≠q.po[k]->r.po.drop k≠q.po.drop k:=fun hne e=>hne (by
   rw [Zu aM,Zu fU] at e;exact (List.cons.inj e).1)
  generalize r.po[k]=x at aC hd fO;generalize q.po[k]=y at mh hd fO;unfold Po.cells at aC mh
  (refine Jq<|Jr<|Jv I<|bG I I ae<|JL I (.there .here) I<|JI I<|JA I<|Jn<|Jd I fun au=>Jk<|Jq<|J0<|Jq ?_)
  with_reducible refine cJ 10 (by kernel_rfl) ?_
  (refine lU I I ae<|ar (iB (.there .here)) I<|fW I I<|ar (fY cu au) I<|ar (iU (eR.base aC I)) I<|lU I I ae<|ar (iB .here) I<|fW I I<|ar (an (.of I) (.of I) Uw (by omega) (by omega) aW) I<|ar (iU (eR.base mh I)) I ?_)
  with_reducible refine cN ?_
  (refine ab (vr (.of I) (.of I) (kQ (fT (fT mU))) I) I<|Jn<|nW I (fun au=>?_) fun au=>?_;refine Jr<|Ja I<|Jn<|Je<|Jm<|Jh<|Jh<|Jm<|Jh<|JT ?_;rotate_left;refine Jw<|Jj<|Jt<|Jg<|Jv I<|JB I (by omega)<|Ja I<|Jn ?_;rotate_right)
  ·have hne:x≠y:=by
    intro e;subst e;simp at au
   rw [decide_eq_false fun e=>fO hne (hf.1 (by rw [e]))]
  ·have he:x=y:=by
    obtain ⟨q1,q2,q3,_⟩:=au;cases x;cases y;dsimp only at q1 q2 q3;subst q1;subst q2;subst q3
    rfl
   clear au;apply aG (k+1) ⟨(show k+1<=r.po.length from aM),hf.trans (hd he)⟩ (show r.po.length-(k+1)<r.po.length-k by omega)
   case hs1=>exact bS
   case ht=>
    exact .h2 .nil
 have z4:r.po=q.po:=by
  obtain rfl:k=r.po.length:=by omega
  exact hf.2 (by rw [Z3,el,Z3])
 obtain rfl:k=r.po.length:=by omega
 clear hk hf aM
 (refine Jq<|Jr<|Jv I<|bG I I ae<|JL I (.there .here) I<|JI I<|JA I<|Jn<|Jc I fun au=>Jp<|Jl<|Jo<|Jt<|Jr<|Ja I<|Jn<|Je<|JT ?_)
 rw [decide_eq_true (V3.2 ⟨⟨⟨⟨⟨e1,e2⟩,z1⟩,z2⟩,z3⟩,z4⟩)]
theorem bh.Es {P:Program} {f:FuncId} {args:List Value} {md:List Nat} {E:TypeId} {sz n:Nat} {xs:List Value} {val:Value->Value} (h:bh P f args w md (fun _:Value=>True) val (fun v=>[row E sz v n xs])) :
  bh P f args w md (fun _:Option Addr×Nat=>True) (fun x=>val (.slice x.1 n x.2)) (fun x=>[row E sz (.slice x.1 n x.2) n xs]):=
 Calls.mono h fun e w' ⟨v,he,_,hk,fp,hn,hs,hf⟩=>by
  have hv:∃ x:Option Addr×Nat,v=.slice x.1 n x.2:=by
   obtain ⟨f1,f2,_,⟨_,_,⟨e1,e2⟩ | ⟨g,cap,cur,e1,_⟩⟩,_⟩:=hs
   ·exact ⟨(none,0),by rw [e1,e2]⟩
   ·exact ⟨(_,cap),e1⟩
  obtain ⟨x,rfl⟩:=hv;exact ⟨x,he,trivial,hk,fp,hn,hs,hf⟩
def Uv:Value->Option Addr×Nat
 | .slice a _ c=>(a,c)
 | _=>(none,0)
theorem E8 (x:Option Addr×Nat):∃ v,Uv v=x:=⟨.slice x.1 0 x.2,I⟩
theorem F0 {l:List fc} (h:Rd w kv 2 (gP l)) (hM:rp w l) (hn:l.length<=1000) (hs:∀ x∈l,x.tk.so.length<=1000) :
  bh T_ 54 [kv] w [] (fun x:Value×List fc=>bJ x.2=bJ l) (fun x=>x.1) (fun x=>[row 69 2 x.1 x.2.length (gP x.2).flatten,yX x.2]):=by
 obtain ⟨a,cp,b,o,rfl,dy,bT,ha,hc⟩:=h;rw [dx] at *;unfold maxLen at bT;refine aR func54 I I ?_;refine Jr<|Ja I<|Ji<|Ja I<|Jn<|Jq<|Jr<|Jv I<|JI I<|Jv I<|Jn<|J0 ?_;refine aN 69 2 ?_;refine ie 9 ?_
 refine aV (ι:=Nat×Value×List fc) (fun x=>x.1<=l.length/\bJ x.2.2=bJ (l.take x.1)) (fun x=>[(8,.q (x.1:Nat)),(7,.q (l.length:Nat)),(6,.slice a l.length cp),(3,x.2.1)])
  (fun x=>[row 69 2 x.2.1 x.2.2.length (gP x.2.2).flatten,gY 9 (x.2.2.map fc.v) (x.2.2.map fun y=>aP y.tk.so)]) (fun x=>l.length-x.1) ?_ ?_
 ·apply aI (0,.z,[]) ⟨Zi _,I⟩
  case hs1=>exact bS
  case ht=>
   exact .cons (.there .here) (.h1 .nil)
 rintro ⟨k,v,W⟩ ⟨hk,hW⟩;dsimp only at hk hW ⊢;have NL:W.length=k:=by
  have:=congrArg List.length hW;unfold bJ at this;rw [Zd,Zd,Zq] at this;omega
 by_cases aM:k<l.length
 ·have cu:=ha (iW aM);have aC:=(hc k _ (kh aM)).2;have hx:=hM _ (Zj aM);have Wt:=hs _ (Zj aM);have htk:bJ (l.take (k+1))=bJ (l.take k)++[l[k].tk]:=by
   unfold bJ;rw [Zm aM,Zt];rfl
  have tz:(gP W).flatten.length=W.length*2:=by rw [fH (vV W),dx]
  have gi:=Rd.one hx;unfold fc.cells at aC;generalize l[k]=x at aC hx Wt htk gi;obtain ⟨⟨xd,xs⟩,xv⟩:=x;dsimp only at aC hx Wt htk gi;have hwc:∀ w',aJ [] w w'->bh T_ 72 [xv] w' [] (fun _:Option Addr×Nat=>True) (fun z=>.slice z.1 xs.length z.2) (fun z=>[row 9 1 (.slice z.1 xs.length z.2) xs.length (aP xs)]):=fun w' hk=>bh.Es (val:=id) (FG (hx.keeps hk) (by omega))
  refine aK (E:=69) (sz:=2) (v:=v) (by exact .here) fun va vc e=>?_;subst e
  (refine Jr<|JA I<|Jn<|Jq<|Jd I fun au=>Jk<|Jq<|J0<|Jr<|ab (fY cu au) I<|ab (iU (eR.base aC I)) I<|Jz I I fun _ _=>ao (.of I) (.of I) .here I I (gO I gi) (bu I) ai<|Jn ?_)
  with_reducible refine dO 8 (by kernel_rfl) ?_
  (refine aA (fun β=>(aS (.of I))) bo I<|aA (fun β=>(aq (.of I) ae)) bo I<|aA (fun β=>(ag (.of I) (At.lit .here I))) bo I<|aA (fun β=>(aq (.of I) ae)) bo I<|aA (fun β=>(ag (.of I) (At.lit .here I))) bo I ?_)
  dsimp only [Nat.zero_add,Nat.reduceAdd]
  with_reducible apply fC (ι:=Option Addr×Nat) (Φ:=fun _=>True) (val:=fun z=>.slice z.1 xs.length z.2) (own:=fun z=>[row 9 1 (.slice z.1 xs.length z.2) xs.length (aP xs)]) (g:=Uv) (B:=[]) (args:=fun _=>[xv])
  case hg=>exact E8
  case hB=>rfl
  case hr=>exact fun β=>bj (.of I) (.o I .nil) inferInstance I
  case hd=>rfl
  case hc=>exact fun β w' hb=>hwc w' hb.mem.keeps
  dsimp only [Nat.reduceAdd]
  with_reducible apply aA
  case hr=>(intro β;exact aU (.o I (.o I .nil)) ai)
  case hi=>exact fun β β' h=>by simp only [h 5 (by kernel_rfl)]
  case hd=>rfl
  dsimp only [Nat.reduceAdd]
  with_reducible apply kD
  case hr=>(intro β;exact ba (.o I .nil) I I bB bB ai)
  case hi=>exact fun β β' h=>by simp only [h 5 (by decide) (by kernel_rfl)]
  case hd=>rfl
  dsimp only [Nat.reduceAdd];refine fq fun β=>?_;dsimp only [ez,Za,Zb,List.append_eq,Nat.reduceAdd];generalize ed (β 7)=b7;generalize Uv (β 5)=y;obtain ⟨ya,yc⟩:=y;clear β;dsimp only;refine bR (rs:=[8]) (by kernel_rfl) (by simp) (Zw.2 ⟨?_,fun _ h=>absurd h Zp⟩);refine cd I ?_;refine bn (.of I) (.of I) cZ (.there .here) ai (by rfl) (gO I I) (by rfl) (by rfl) (by rfl) dW (by rfl) ?_;intro v';refine Jn ?_;refine bR (rs:=[9]) (by kernel_rfl) (by simp) (Zw.2 ⟨?_,fun _ h=>absurd h Zp⟩);refine cd I ?_;refine Ja I<|Jn ?_
  with_reducible refine cE (by kernel_rfl) ?_
  refine Jj<|Jt<|Jg<|JB I (by omega)<|Jv I<|Jn ?_;have TY:(aP xs).length=xs.length:=c6 xs
  with_reducible apply j7 (E:=9) (vs:=W.map fc.v) (xs:=W.map fun y=>aP y.tk.so) (v:=.slice ya xs.length yc) (x:=aP xs) (n:=xs.length)
  case ht=>exact dL
  case ht2=>exact Take.there .here
  case hn=>exact TY.symm
  case hl=>rw [Zd,Zd]
  case k=>
   apply aG (k+1,v',W++[⟨⟨xd,xs⟩,.slice ya xs.length yc⟩]) ⟨by show k+1<=_;omega,by
    show bJ (W++[_])=_;unfold bJ at hW htk ⊢;rw [Zt,hW];exact htk.symm⟩ (by show l.length-(k+1)<l.length-k;omega)
   case hs1=>exact bS
   case ht=>
    dsimp only;rw [vl,Zg,Zt,Zt];simp only [Z9,Zf,ZE,Zae,Zx];exact .cons (.there .here) (.h1 .nil)
 ·have e:k=l.length:=by omega
  rw [e,ZO] at hW;refine aK (E:=69) (sz:=2) (v:=v) (by exact .here) fun va vc e=>?_;subst e;refine Jr<|JA I<|Jn<|Jq<|Jc I fun au=>Jp<|Jl<|Jo<|Jt<|Jr<|Jv I<|Ja I<|Jn<|Je ?_
  first | with_reducible apply aO | with_reducible apply aQ
  case he=>exact dI I I
  case hR=>
   intro w' aB;exact aF (.slice va W.length vc,W) hW (by exact .h2 .nil) aB I
theorem Br {l:List fc} (h:Rd w kv 2 (gP l)) (hM:rp w l) (hn:l.length<=1000) (hs:∀ x∈l,x.tk.so.length<=1000) :
  bh T_ 46 [kv] w [] (fun x:Value×List fc=>bJ x.2=bJ l) (fun x=>x.1) (fun x=>[row 78 2 x.1 x.2.length (gP x.2).flatten,yX x.2]):=by
 obtain ⟨a,cp,b,o,rfl,dy,bT,ha,hc⟩:=h;rw [dx] at *;unfold maxLen at bT;refine aR func46 I I ?_;refine Jr<|Ja I<|Ji<|Ja I<|Jn<|Jq<|Jr<|Jv I<|JI I<|Jv I<|Jn<|J0 ?_;refine aN 78 2 ?_;refine ie 9 ?_
 refine aV (ι:=Nat×Value×List fc) (fun x=>x.1<=l.length/\bJ x.2.2=bJ (l.take x.1)) (fun x=>[(8,.q (x.1:Nat)),(7,.q (l.length:Nat)),(6,.slice a l.length cp),(3,x.2.1)])
  (fun x=>[row 78 2 x.2.1 x.2.2.length (gP x.2.2).flatten,gY 9 (x.2.2.map fc.v) (x.2.2.map fun y=>aP y.tk.so)]) (fun x=>l.length-x.1) ?_ ?_
 ·apply aI (0,.z,[]) ⟨Zi _,I⟩
  case hs1=>exact bS
  case ht=>
   exact .cons (.there .here) (.h1 .nil)
 rintro ⟨k,v,W⟩ ⟨hk,hW⟩;dsimp only at hk hW ⊢;have NL:W.length=k:=by
  have:=congrArg List.length hW;unfold bJ at this;rw [Zd,Zd,Zq] at this;omega
 by_cases aM:k<l.length
 ·have cu:=ha (iW aM);have aC:=(hc k _ (kh aM)).2;have hx:=hM _ (Zj aM);have Wt:=hs _ (Zj aM);have htk:bJ (l.take (k+1))=bJ (l.take k)++[l[k].tk]:=by
   unfold bJ;rw [Zm aM,Zt];rfl
  have tz:(gP W).flatten.length=W.length*2:=by rw [fH (vV W),dx]
  have gi:=Rd.one hx;unfold fc.cells at aC;generalize l[k]=x at aC hx Wt htk gi;obtain ⟨⟨xd,xs⟩,xv⟩:=x;dsimp only at aC hx Wt htk gi;have hwc:∀ w',aJ [] w w'->bh T_ 72 [xv] w' [] (fun _:Option Addr×Nat=>True) (fun z=>.slice z.1 xs.length z.2) (fun z=>[row 9 1 (.slice z.1 xs.length z.2) xs.length (aP xs)]):=fun w' hk=>bh.Es (val:=id) (FG (hx.keeps hk) (by omega))
  refine aK (E:=78) (sz:=2) (v:=v) (by exact .here) fun va vc e=>?_;subst e
  (refine Jr<|JA I<|Jn<|Jq<|Jd I fun au=>Jk<|Jq<|J0<|Jr<|ab (fY cu au) I<|ab (iU (eR.base aC I)) I<|Jz I I fun _ _=>ao (.of I) (.of I) .here I I (gO I gi) (bu I) ai<|Jn ?_)
  with_reducible refine dO 8 (by kernel_rfl) ?_
  (refine aA (fun β=>(aS (.of I))) bo I<|aA (fun β=>(aq (.of I) ae)) bo I<|aA (fun β=>(ag (.of I) (At.lit .here I))) bo I<|aA (fun β=>(aq (.of I) ae)) bo I<|aA (fun β=>(ag (.of I) (At.lit .here I))) bo I ?_)
  dsimp only [Nat.zero_add,Nat.reduceAdd]
  with_reducible apply fC (ι:=Option Addr×Nat) (Φ:=fun _=>True) (val:=fun z=>.slice z.1 xs.length z.2) (own:=fun z=>[row 9 1 (.slice z.1 xs.length z.2) xs.length (aP xs)]) (g:=Uv) (B:=[]) (args:=fun _=>[xv])
  case hg=>exact E8
  case hB=>rfl
  case hr=>exact fun β=>bj (.of I) (.o I .nil) inferInstance I
  case hd=>rfl
  case hc=>exact fun β w' hb=>hwc w' hb.mem.keeps
  dsimp only [Nat.reduceAdd]
  with_reducible apply aA
  case hr=>(intro β;exact aU (.o I (.o I .nil)) ai)
  case hi=>exact fun β β' h=>by simp only [h 5 (by kernel_rfl)]
  case hd=>rfl
  dsimp only [Nat.reduceAdd]
  with_reducible apply kD
  case hr=>(intro β;exact ba (.o I .nil) I I bB bB ai)
  case hi=>exact fun β β' h=>by simp only [h 5 (by decide) (by kernel_rfl)]
  case hd=>rfl
  dsimp only [Nat.reduceAdd];refine fq fun β=>?_;dsimp only [ez,Za,Zb,List.append_eq,Nat.reduceAdd];generalize ed (β 7)=b7;generalize Uv (β 5)=y;obtain ⟨ya,yc⟩:=y;clear β;dsimp only;refine bR (rs:=[8]) (by kernel_rfl) (by simp) (Zw.2 ⟨?_,fun _ h=>absurd h Zp⟩);refine cd I ?_;refine bn (.of I) (.of I) cZ (.there .here) ai (by rfl) (gO I I) (by rfl) (by rfl) (by rfl) dW (by rfl) ?_;intro v';refine Jn ?_;refine bR (rs:=[9]) (by kernel_rfl) (by simp) (Zw.2 ⟨?_,fun _ h=>absurd h Zp⟩);refine cd I ?_;refine Ja I<|Jn ?_
  with_reducible refine cE (by kernel_rfl) ?_
  refine Jj<|Jt<|Jg<|JB I (by omega)<|Jv I<|Jn ?_;have TY:(aP xs).length=xs.length:=c6 xs
  with_reducible apply j7 (E:=9) (vs:=W.map fc.v) (xs:=W.map fun y=>aP y.tk.so) (v:=.slice ya xs.length yc) (x:=aP xs) (n:=xs.length)
  case ht=>exact dL
  case ht2=>exact Take.there .here
  case hn=>exact TY.symm
  case hl=>rw [Zd,Zd]
  case k=>
   apply aG (k+1,v',W++[⟨⟨xd,xs⟩,.slice ya xs.length yc⟩]) ⟨by show k+1<=_;omega,by
    show bJ (W++[_])=_;unfold bJ at hW htk ⊢;rw [Zt,hW];exact htk.symm⟩ (by show l.length-(k+1)<l.length-k;omega)
   case hs1=>exact bS
   case ht=>
    dsimp only;rw [vl,Zg,Zt,Zt];simp only [Z9,Zf,ZE,Zae,Zx];exact .cons (.there .here) (.h1 .nil)
 ·have e:k=l.length:=by omega
  rw [e,ZO] at hW;refine aK (E:=78) (sz:=2) (v:=v) (by exact .here) fun va vc e=>?_;subst e;refine Jr<|JA I<|Jn<|Jq<|Jc I fun au=>Jp<|Jl<|Jo<|Jt<|Jr<|Jv I<|Ja I<|Jn<|Je ?_
  first | with_reducible apply aO | with_reducible apply aQ
  case he=>exact dI I I
  case hR=>
   intro w' aB;exact aF (.slice va W.length vc,W) hW (by exact .h2 .nil) aB I
def dd:ByteArray:=⟨#[99,97,109]⟩
def lu:ByteArray:=⟨#[118,116,114]⟩
def oW:ByteArray:=⟨#[109,111,110]⟩
def dY:ByteArray:=⟨#[97,105,114]⟩
def j9:ByteArray:=⟨#[114,101,99]⟩
def nT:ByteArray:=⟨#[116]⟩
def nU:ByteArray:=⟨#[117]⟩
def np:Ro:=⟨2,2,[⟨dd,0⟩,⟨lu,1⟩],[⟨oW,0,false⟩,⟨dY,1,false⟩,⟨j9,1,false⟩],[⟨nT,0,1⟩,⟨nU,0,1⟩],[]⟩
def o6:Tk:=⟨dY,[dd,dd]⟩
def U7:Tk:=⟨j9,[dd,⟨#[]⟩]⟩
def o5:Tk:=⟨dY,[lu,lu]⟩
def pl1:List Po:=[⟨0,dY,nT⟩,⟨0,nT,dd⟩,⟨1,dY,nT⟩,⟨1,nT,dd⟩]
def pl2:List Po:=[⟨0,dY,nT⟩,⟨0,j9,nT⟩,⟨0,nT,dd⟩,⟨1,dY,nT⟩,⟨1,nT,dd⟩]
def pl4:List Po:=[⟨0,dY,lu⟩,⟨0,j9,nT⟩,⟨0,nT,dd⟩,⟨1,dY,lu⟩]
def gX:Ro:={ np with po:=pl1 }
def iS:Ro:={ np with po:=pl2 }
def xZ:Ro:={ np with po:=pl4 }
def Eu:Ro:=gX.KZ oW true
theorem XY:fZ np=0:=by kernel_rfl
theorem RH:Ha np 0 dd dY=0/\Ea np 0 dd dY=[nT]:=⟨by kernel_rfl,by kernel_rfl⟩
theorem XW:il np [o6]=(gX,0,0):=by kernel_rfl
theorem XV:il gX [U7]=(iS,0,0):=by kernel_rfl
theorem RN:il iS [o5]=(xZ,0,0):=by kernel_rfl
theorem XT:sh iS [o5]=[o6]:=by kernel_rfl
theorem RG:Ha np 0 lu oW=18/\Ea np 0 lu oW=[]:=⟨by kernel_rfl,by kernel_rfl⟩
theorem RQ:MN np 0 lu oW=0/\Ii np 0 lu oW=[1]:=⟨by kernel_rfl,by kernel_rfl⟩
theorem XZ:ctX np 0 lu oW [0]=19:=by kernel_rfl
theorem XX:L9 iS j9=0/\H2 iS j9=[dd,⟨#[]⟩]:=⟨by kernel_rfl,by kernel_rfl⟩
theorem RJ:Kj gX 0 dY=0/\Hj gX 0 dY=[dd,nT,dY]:=⟨by kernel_rfl,by kernel_rfl⟩
theorem RS:M4 gX 0=0/\Ir gX 0=[nT]:=⟨by kernel_rfl,by kernel_rfl⟩
theorem RI:J7 iS 0 dd=0/\Hd iS 0 dd=[dY,j9]:=⟨by kernel_rfl,by kernel_rfl⟩
theorem RP:zx gX oW=0/\zw gX oW true=Eu:=⟨by kernel_rfl,by kernel_rfl⟩
theorem XU:(il Eu [⟨j9,[⟨#[45]⟩,⟨#[]⟩]⟩,⟨oW,[dd,dd]⟩]).2=(1,31):=by kernel_rfl
theorem RM:su np [⟨10,[o6]⟩,⟨12,[o5]⟩] dY 9=0/\u5 np [⟨10,[o6]⟩,⟨12,[o5]⟩] dY 9=[⟨#[]⟩,⟨#[]⟩]:=⟨by kernel_rfl,by kernel_rfl⟩
theorem RL:su np [⟨10,[o6]⟩,⟨12,[o5]⟩] dY 11=0/\u5 np [⟨10,[o6]⟩,⟨12,[o5]⟩] dY 11=[dd,dd]:=⟨by kernel_rfl,by kernel_rfl⟩
theorem RK:su np [⟨10,[o6]⟩,⟨12,[o5]⟩] dY 12=0/\u5 np [⟨10,[o6]⟩,⟨12,[o5]⟩] dY 12=[lu,lu]:=⟨by kernel_rfl,by kernel_rfl⟩
theorem Uz:KY np=⟨#[114,111,117,116,101,114,32,50,32,50,10,115,111,117,114,99,101,32,99,97,109,32,48,10,115,111,117,114,99,101,32,118,116,114,32,49,10,100,101,115,116,105,110,97,116,105,111,110,32,109,111,110,32,48,32,102,114,101,101,10,100,101,115,116,105,110,97,116,105,111,110,32,97,105,114,32,49,32,102,114,101,101,10,100,101,115,116,105,110,97,116,105,111,110,32,114,101,99,32,49,32,102,114,101,101,10,116,105,101,32,116,32,48,32,49,10,116,105,101,32,117,32,48,32,49,10]⟩:=by kernel_rfl
theorem Qd (w:World):bh T_ 105 [] w [] (fun _:Value×Value×Value×Value=>True) (fun x=>RA np x.1 x.2.1 x.2.2.1 x.2.2.2) (fun x=>u3 np x):=by
 unfold RA;refine aR func105 I I ?_
 (refine Jr<|Jz I I fun _ _=>Ji<|ab (aU (.o I .nil) ai) I<|ab (aU (.o I (.o I .nil)) ai) I<|a8 (ba (.o I (.o I .nil)) I I bB bB ai) I fun _ _=>ab (aU (.o I .nil) ai) I<|ab (aU (.o I (.o I .nil)) ai) I<|ab (aU (.o I (.o I .nil)) ai) I<|a8 (ba (.o I (.o I (.o I .nil))) I I bB bB ai) I fun _ _=>ab (aU (.o I (.o I .nil)) ai) I<|ab (aU (.o I (.o I .nil)) ai) I<|a8 (ba (.o I (.o I .nil)) I I bB bB ai) I fun _ _=>ab (aU (.o I (.o I (.o I (.o I (.o I .nil))))) ai) I<|ao (.of I) (.of I) cZ I I (fk I I I I I I) (bu I) ai<|Jn<|Je ?_)
 rename_i b0 hb0 b1 r9 b2 rf b3 uf;refine bP (g:=b1) (E:=186) (ys:=kG np.sr) 2 2 cZ (by exact I) I I ?_;refine bP (g:=b2) (E:=90) (ys:=jX np.de) 3 3 cZ (by exact I) I I ?_;refine bP (g:=b3) (E:=187) (ys:=kU np.ti) 2 3 cZ (by exact I) I I ?_;refine aN 188 3 ?_
 first | with_reducible apply aO | with_reducible apply aQ
 case he=>exact iP I inferInstance I dL ai (by rfl)
 case hR=>
  intro w' aB;exact aF (.w b1 2 2,.w b2 3 3,.w b3 2 2,.z) trivial (by exact .cons cZ (.cons bI (.cons (.there .here) (.h1 .nil)))) aB I
theorem UC (w:World):bh T_ 106 [] w [] (fun _:Option Addr×Nat=>True) (fun x=>.agg (fc.cells ⟨o6,.slice x.1 2 x.2⟩).toArray) (fun x=>[row 9 1 (.slice x.1 2 x.2) 2 (aP o6.so)]):=by
 unfold fc.cells;refine aR func106 I I ?_
 (refine Jr<|Jz I I fun _ _=>Ji<|a8 (aD (.o I (.o I .nil)) I I I I) I fun _ _=>ab (aU (.o I (.o I .nil)) ai) I<|ao (.of I) (.of I) (.there .here) I I (gO I I) (bu I) ai<|Jn<|Je ?_)
 rename_i b0 hb0 b1 r9;refine bP (g:=b1) (E:=9) (ys:=aP o6.so) 2 1 (by exact Take.there .here) (by exact I) I I ?_
 first | with_reducible apply aO | with_reducible apply aQ
 case he=>exact iP I inferInstance I (.there .here) ai (by rfl)
 case hR=>
  intro w' aB;exact aF (some ⟨b1,0,none⟩,2) trivial (by exact .h1 .nil) aB I
theorem UB (w:World):bh T_ 107 [] w [] (fun _:Option Addr×Nat=>True) (fun x=>.agg (fc.cells ⟨U7,.slice x.1 2 x.2⟩).toArray) (fun x=>[row 9 1 (.slice x.1 2 x.2) 2 (aP U7.so)]):=by
 unfold fc.cells;refine aR func107 I I ?_
 (refine Jr<|Jz I I fun _ _=>Ji<|a8 (aD (.o I (.o I .nil)) I I I I) I fun _ _=>ab (aU (.o I (.o I .nil)) ai) I<|ao (.of I) (.of I) (.there .here) I I (gO I I) (bu I) ai<|Jn<|Je ?_)
 rename_i b0 hb0 b1 r9;refine bP (g:=b1) (E:=9) (ys:=aP U7.so) 2 1 (by exact Take.there .here) (by exact I) I I ?_
 first | with_reducible apply aO | with_reducible apply aQ
 case he=>exact iP I inferInstance I (.there .here) ai (by rfl)
 case hR=>
  intro w' aB;exact aF (some ⟨b1,0,none⟩,2) trivial (by exact .h1 .nil) aB I
theorem UA (w:World):bh T_ 108 [] w [] (fun _:Option Addr×Nat=>True) (fun x=>.agg (fc.cells ⟨o5,.slice x.1 2 x.2⟩).toArray) (fun x=>[row 9 1 (.slice x.1 2 x.2) 2 (aP o5.so)]):=by
 unfold fc.cells;refine aR func108 I I ?_
 (refine Jr<|Jz I I fun _ _=>Ji<|a8 (aD (.o I (.o I .nil)) I I I I) I fun _ _=>ab (aU (.o I (.o I .nil)) ai) I<|ao (.of I) (.of I) (.there .here) I I (gO I I) (bu I) ai<|Jn<|Je ?_)
 rename_i b0 hb0 b1 r9;refine bP (g:=b1) (E:=9) (ys:=aP o5.so) 2 1 (by exact Take.there .here) (by exact I) I I ?_
 first | with_reducible apply aO | with_reducible apply aQ
 case he=>exact iP I inferInstance I (.there .here) ai (by rfl)
 case hR=>
  intro w' aB;exact aF (some ⟨b1,0,none⟩,2) trivial (by exact .h1 .nil) aB I
instance :DecidableEq Tk:=fun a b=>decidable_of_iff (a.de=b.de/\a.so=b.so) (by cases a;cases b;simp)
theorem VY (hm:Mem c hs w) (ht:bC hs (u3 r x) hs'):RR w r x.1 x.2.1 x.2.2.1 x.2.2.2:=by
 have l5:=hm.jR ht;exact ⟨cV l5 .here I,cW l5 (.there .here) I,cU l5 bI I,cH l5 cZ I⟩
theorem QX (hm:Mem c hs w) (ht:bC hs (qt r x) hs'):RR w r x.1 x.2.1 x.2.2.1 x.2.2.2:=by
 have l5:=hm.jR ht;exact ⟨cV l5 .here I,cW l5 (.there .here) I,cU l5 bI I,cH l5 cZ I⟩
theorem jF {D:List Nat} {sl:aL} {X:Act->World->Prop} (ht:bC hs (qt r (s,d,t,p)) hs')
  (k:s.oneCell'=true->d.oneCell'=true->t.oneCell'=true->p.oneCell'=true->Tr c D sl (row 118 2 s r.sr.length (kG r.sr)::row 88 3 d r.de.length (jX r.de)::row 122 3 t r.ti.length (kU r.ti)::row 180 3 p r.po.length (gA r.po)::hs') X):Tr c D sl hs X:=by
 intro a w a7;have hm:=a7.mem.jR (ht.append (nE D));have k2:Tr c D sl (row 118 2 s r.sr.length (kG r.sr)::row 88 3 d r.de.length (jX r.de)::row 122 3 t r.ti.length (kU r.ti)::row 180 3 p r.po.length (gA r.po)::hs') X:=by
  refine aK (E:=118) (sz:=2) (v:=s) .here fun _ _ e=>?_;have k1:s.oneCell'=true:=by rw [e];rfl
  clear e;refine aK (E:=88) (sz:=3) (v:=d) (.there .here) fun _ _ e=>?_;have k2:d.oneCell'=true:=by rw [e];rfl
  clear e;refine aK (E:=122) (sz:=3) (v:=t) bI fun _ _ e=>?_;have k3:t.oneCell'=true:=by rw [e];rfl
  clear e;refine aK (E:=180) (sz:=3) (v:=p) cZ fun _ _ e=>?_;have k4:p.oneCell'=true:=by rw [e];rfl
  clear e;exact k k1 k2 k3 k4
 exact k2 a w (a7.heap hm)
theorem DP {l m:List fc} (h1:Rd w v1 2 (gP l)) (hM1:rp w l) (h2:Rd w v2 2 (gP m)) (hM2:rp w m) :
  ak T_ 53 [v1,v2] w (.bool (decide (bJ l=bJ m))):=by
 obtain ⟨a1,X1,b1,o1,rfl,oP,iI,lF,kS⟩:=h1;obtain ⟨a2,pb,b2,o2,rfl,kq,eU,jB,kr⟩:=h2;rw [dx] at *;rw [dx] at *;unfold maxLen at iI eU;refine ah func53 I I ?_
 (refine Jr<|Ja I<|Jn<|Jq<|Jr<|Jv I<|JI I<|Jv I<|JI I<|JD I<|Jn<|gG I (fun au=>?_) fun au=>?_;refine Jr<|Ja I<|Jn<|Ju<|JT ?_;rotate_left;refine Jk<|Jq<|Jr<|Ja I<|Jn<|J0 ?_;rotate_right)
 ·rw [decide_eq_false fun e=>au (by have:=congrArg List.length e;unfold bJ at this;rw [Zd,Zd] at this;rw [this])]
 have W7:l.length=m.length:=by omega
 refine aV (ι:=Nat) (fun k=>k<=l.length/\(bJ l=bJ m↔bJ (l.drop k)=bJ (m.drop k))) (fun k=>[(5,.q (k:Int)),(0,.slice a1 l.length X1),(1,.slice a2 m.length pb)]) (fun _=>[]) (fun k=>l.length-k) ?_ ?_
 ·apply aI (0:Nat) ⟨Zi _,Iff.rfl⟩
  case hs1=>exact bS
  case ht=>(try simp only [Ze,Zf,Za]);exact .nil
 rintro k ⟨hk,hf⟩;by_cases aM:k<l.length
 ·have fU:k<m.length:=by omega
  have xr:=lF (iW aM);have qU:=jB (iW fU);have mg:=(kS k _ (kh aM)).2;have fE:=(kr k _ (kh fU)).2;have x1:=hM1 _ (Zj aM);have x2:=hM2 _ (Zj fU);have hd:bJ (l.drop k)=bJ (m.drop k)↔(l[k].tk=m[k].tk/\bJ (l.drop (k+1))=bJ (m.drop (k+1))):=by
   rw [Zu aM,Zu fU];unfold bJ;rw [Z9,Z9];exact List.cons_eq_cons
  rw [hd] at hf;clear hd;unfold fc.cells at mg fE;generalize l[k]=x at mg x1 hf;generalize m[k]=y at fE x2 hf;obtain ⟨⟨xd,xs⟩,xv⟩:=x;obtain ⟨⟨yd,ys⟩,yv⟩:=y;dsimp only at mg fE x1 x2 hf;have c1:w.cell? ⟨b1,o1+k*2,none⟩=some (.string xd):=mg 0 _ I;have c2:w.cell? ⟨b2,o2+k*2,none⟩=some (.string yd):=fE 0 _ I;have c3:w.cell? ⟨b1,o1+k*2+1,none⟩=some xv:=mg 1 _ I;have c4:w.cell? ⟨b2,o2+k*2+1,none⟩=some yv:=fE 1 _ I;have YL:∀ w',aJ [] w w'->ak T_ 58 [xv,yv] w' (.bool (decide (xs=ys))):=fun w' hk=>F7 (x1.keeps hk) (x2.keeps hk)
  refine Jq<|Jr<|Jv I<|Jv I<|JI I<|JA I<|Jn<|Jd I fun au=>Jk<|Jq<|J0<|Jq ?_
  with_reducible refine cJ 25 (by kernel_rfl) ?_
  (refine fW I I<|fW I I<|ar (fY xr au) I<|lU I I ae<|ar (ag (.of I) (At.base c1 I)) I<|fW I I<|fW I I<|ar (an (.of I) (.of I) qU (by omega) (by omega) aW) I<|lU I I ae<|ar (ag (.of I) (At.base c2 I)) I<|ar (fy (.of I) (.of I)) I<|fW I I<|bL I I inferInstance (fun hg bE=>(aS (.of I))) I<|bL I I inferInstance (fun hg bE=>(aS (.of I))) I<|bL I I inferInstance (fun hg bE=>(an (.bM hg I) (.bM hg I) xr (by omega) au aW)) I<|bL I I inferInstance (fun hg bE=>(aq (.bM hg I) ae)) I<|bL I I inferInstance (fun hg bE=>(ag (.bM hg I) (At.base c3 I))) I<|bL I I inferInstance (fun hg bE=>(aS (.of I))) I<|bL I I inferInstance (fun hg bE=>(aS (.of I))) I<|bL I I inferInstance (fun hg bE=>(an (.bM hg I) (.bM hg I) qU (by omega) (by omega) aW)) I<|bL I I inferInstance (fun hg bE=>(aq (.bM hg I) ae)) I<|bL I I inferInstance (fun hg bE=>(ag (.bM hg I) (At.base c4 I))) I<|oK I I (fun hg=>(bj (.of I) (.cons (.bM hg I) (.cons (.bM hg I) .nil)) inferInstance eY)) I (fun hg w' aB=>(YL w' (Mem.keeps aB)))<|bL I I inferInstance (fun hg bE=>(eF (.bM hg I))) I<|ar (bH (.of I) I) I ?_)
  with_reducible refine cN ?_
  (refine Jn<|nW I (fun au=>?_) fun au=>?_;refine Jr<|Ja I<|Jn<|Je<|Jm<|Jh<|Jh<|Jm<|Jh<|JT ?_;rotate_left;refine Jw<|Jj<|Jt<|Jg<|Jv I<|JB I (by omega)<|Ja I<|Jn ?_;rotate_right)
  ·have hne:¬ bJ l=bJ m:=fun e=>by
    obtain ⟨e1,_⟩:=hf.1 e;injection e1 with e2 e3
    rcases au with h | h
    ·exact h e2
    ·exact h e3
   rw [decide_eq_false hne]
  ·obtain ⟨q1,q2⟩:=au;have q1:=Zo.1 q1;subst q1;subst q2;clear YL;apply aG (k+1) ⟨(show k+1<=l.length from aM),hf.trans ⟨fun e=>e.2,fun e=>⟨I,e⟩⟩⟩ (show l.length-(k+1)<l.length-k by omega)
   case hs1=>exact bS
   case ht=>(try simp only [Ze,Zf,Za]);exact .nil
 ·obtain rfl:k=l.length:=by omega
  have:bJ l=bJ m:=hf.2 (by rw [Z3,W7,Z3]);refine Jq<|Jr<|Jv I<|Jv I<|JI I<|JA I<|Jn<|Jc I fun au=>Jp<|Jl<|Jo<|Jt<|Jr<|Ja I<|Jn<|Je<|JT ?_;rw [decide_eq_true this]
theorem K3 {q:List Po} (h:RR w r s d t p) (c8:kE r) (hv:Rd w v 3 (uE q)):ak T_ 110 [RA r s d t p,v] w (.bool (decide (r.po=q))):=by
 obtain ⟨h1,h2,h3,h4⟩:=h.one;have hv2:=hv;obtain ⟨av,cv,bv,ov,rfl,_,_,_,_⟩:=hv2;rw [cT] at *;have ht:∀ w',aJ [] w w'->bh T_ 57 [.agg #[.int .i64 r.lv,.int .i64 r.ma,s,d,t,p]] w' [] (fun _:Value×Value×Value×Value=>True) (fun x=>RA r x.1 x.2.1 x.2.2.1 x.2.2.2) (fun x=>qt r x):=fun w' hk=>AB (h.keeps hk) c8
 unfold RA at ht ⊢;refine ah func110 I I ?_;refine Jr<|Jy I I fun _ _=>Ja I<|Ji<|ab (cm .here) I ?_;refine JN bN I (fun w1 aT=>ht w1 aT.keeps) ?_;rintro ⟨s1,d1,t1,p1⟩ _;dsimp only
 try unfold RA
 refine jF (r:=r) (s:=s1) (d:=d1) (t:=t1) (p:=p1) (br _ _) fun k1 k2 k3 k4=>?_
 (refine Jz I I fun _ _=>ao (.of I) (.of I) .here I I (fk I I k1 k2 k3 k4) (bu I) ai<|Ji<|Jv I<|bG I I ae<|ao (.of I) (.of I) .here I I (dG I) (bu I) ai<|Jn<|Jq ?_)
 with_reducible refine dO 5 (by kernel_rfl) ?_
 refine aA (fun β=>(bK (.of I) eD ai (by rfl))) bo I ?_;dsimp only [Nat.zero_add,Nat.reduceAdd]
 with_reducible apply fC (ι:=Value×Value×Value×Value) (Φ:=fun _=>True) (val:=fun x=>.agg #[.q r.lv,.q r.ma,x.1,x.2.1,x.2.2.1,x.2.2.2]) (own:=fun x=>qt r x) (g:=g4) (B:=[]) (args:=fun _=>[.agg #[.q r.lv,.q r.ma,s,d,t,p]])
 case hg=>exact ri
 case hB=>rfl
 case hr=>exact fun β=>bj (.of I) (.o I .nil) inferInstance I
 case hd=>rfl
 case hc=>exact fun β w' hb=>ht w' hb.mem.keeps
 dsimp only [Nat.reduceAdd];refine aA (fun β=>(bK (.of I) .here ai (by rfl))) bo I ?_;dsimp only [Nat.reduceAdd]
 with_reducible apply c7 (B:=[1]) (F:=fun _=>.bool (decide (r={ r with po:=q }))) (args:=fun β=>[.agg #[.q r.lv,.q r.ma,(g4 (β 1)).1,(g4 (β 1)).2.1,(g4 (β 1)).2.2.1,(g4 (β 1)).2.2.2],.agg #[.q r.lv,.q r.ma,s1,d1,t1,.slice av q.length cv]])
 case hB=>kernel_rfl
 case hr=>exact fun β=>bj (.of I) (.o I (.o I .nil)) inferInstance I
 case hi=>exact bo
 case hd=>rfl
 case hc=>
  intro β w' dM;have m1:=dM.at 1 Zs (s:=⟨fun β=>.agg #[.q r.lv,.q r.ma,(g4 (β 1)).1,(g4 (β 1)).2.1,(g4 (β 1)).2.2.1,(g4 (β 1)).2.2.2],fun β=>qt r (g4 (β 1))⟩) (by kernel_rfl)
  dsimp only at m1;have hk:=dM.mem.keeps;have r1:=QX m1 (br _ _);have m2:=dM.mem;have r2:RR w' { r with po:=q } s1 d1 t1 (.slice av q.length cv):=⟨cV m2 (by exact Take.there .here) I,cW m2 bI I,cU m2 cZ I,hv.keeps hk⟩
  exact Fz r1 r2
 refine aA (fun β=>(cC (.of I))) bo I ?_;refine fq fun β=>?_;dsimp only [ez,Za,Zb,List.append_eq,Nat.reduceAdd]
 with_reducible refine cE (by kernel_rfl) ?_
 refine Jt<|Je<|JT ?_;have e:(r={ r with po:=q })↔r.po=q:=⟨fun e=>congrArg Ro.po e,fun e=>by cases r;subst e;rfl⟩
 rw [decide_eq_decide.2 e]
end Go.Proofs.A1
