/- Parts of the proof: LI LJ LK LL LM LN LO. -/
import Derived.Test.YteonnodafmegaaaGreatDoorKM11
import Derived.Test.YteonnodafmegaaaGreatDoorKM04
import Derived.Test.YteonnodafmegaaaGreatDoorKM10
import Derived.Lib.AppendIntMem
import Derived.KernelRfl
set_option linter.unusedSectionVars false
set_option linter.unusedVariables false
set_option linter.unusedSimpArgs false
namespace Go.Proofs.A1
open Go Go.SL
open Tryz
open Tryz renaming prog->T_
def oh (n:Int):ByteArray:=⟨#[UInt8.ofNat (48+n.toNat)]⟩
theorem VN:∀ i,i<=9->(⟨(Lib.decDigits i).toArray⟩:ByteArray)=⟨#[UInt8.ofNat (48+i)]⟩:=by
 intro i h
 match i,h with
 | 0,_=>simp [Lib.decDigits]
 | 1,_=>simp [Lib.decDigits]
 | 2,_=>simp [Lib.decDigits]
 | 3,_=>simp [Lib.decDigits]
 | 4,_=>simp [Lib.decDigits]
 | 5,_=>simp [Lib.decDigits]
 | 6,_=>simp [Lib.decDigits]
 | 7,_=>simp [Lib.decDigits]
 | 8,_=>simp [Lib.decDigits]
 | 9,_=>simp [Lib.decDigits]
theorem NU (n:Int) (h0:0<=n) (h1:n<=9) (w:World):ao T_ 279 [.q n] w (.string (oh n)):=by
 obtain ⟨i,rfl⟩:∃ i:Nat,n=(i:Nat):=⟨n.toNat,by omega⟩;refine Calls.mono (internal_strconv_Itoa_small i (by omega) w) fun e w' ⟨he,hw⟩=>⟨?_,by rw [hw];exact .refl _ _⟩;rw [he,VN i (by omega)];unfold oh;rw [Zy]
theorem oQ (n:Int) (h0:0<=n) (h1:n<=9) (w:World):ao T_ 193 [.q n] w (.string (oh n)):=by
 refine ak func193 I I ?_
 (refine Jr<|Ja I<|Ji<|Jv I<|aj bS I (fun w' az=>(NU n h0 h1 w'))<|Ja I<|Jn<|Je<|JT ?_)
 rfl
theorem Kj (n:Int):(oh n).size=1:=rfl
def ze (l:List ByteArray) (sep:ByteArray):ByteArray:=⟨(Lib.join (l.map (·.data.toList)) sep.data.toList).toArray⟩
variable {a:ByteArray} {c:Cx} {d:Value} {hs hs':List bh} {k:Nat} {l:List ByteArray} {lv p:Value} {r:Ro} {s t v v1 v2:Value} {w:World} {x:Value×Value×Value×Value}
theorem Ry (sep:ByteArray) {w:World} (h:Rd w lv 1 (ie l)) (hl:l.length<=1000) (hlen:(Lib.join (l.map (·.data.toList)) sep.data.toList).length<=140737488355328) :
  ao T_ 278 [lv,.string sep] w (.string (ze l sep)):=by
 obtain ⟨a,cap,b,o,rfl,dD,cr,ha,hc⟩:=h;rw [cu] at *;cases l with
 | nil=>exact Calls.mono (strings_Join_none a cap sep w) fun e w' ⟨he,hw⟩=>⟨he,by rw [hw];exact .refl _ _⟩
 | cons x r =>
  have:=ha (by simp [ie]);subst this;have aG:∀ (j:Nat) y,(x::r)[j]? = some y->w.cell? ⟨b,o+j,none⟩=some (.string y):=fun j y hj=>by
   have:=(hc j [.string y] (by unfold ie;rw [ZJ,hj];rfl)).2 0 _ I;simpa using this
  refine Calls.mono (Calls.up (strings_Join b o cap (x::r) sep w aG ?_ (by omega) dD hlen)) fun e w' ⟨he,hw,hd⟩=>⟨he,aH.JM hw hd⟩;exact World.block_lt_of_cell? w _ (aG 0 x I)
theorem Ki (l:List (List UInt8)) (sep:List UInt8) (n:Nat) (h:∀ x∈l,x.length<=n):(Lib.join l sep).length<=l.length*(n+sep.length):=by
 cases l with
 | nil=>simp [Lib.join]
 | cons x r =>
  have key:∀ (r:List (List UInt8)),(∀ y∈r,y.length<=n)->(Lib.joinTail sep r).length<=r.length*(n+sep.length):=by
   intro r
   induction r with
   | nil=>intro _;simp [Lib.joinTail]
   | cons y r ih =>
    intro hy;have h1:=hy y (by simp);have h2:=ih fun z hz=>hy z (by simp [hz])
    simp only [Lib.joinTail,Zaf,ZaD,Zg,ZL,Zaj] at h2 ⊢;omega
  rw [Lib.join_cons,Zg,ZL,Zaj];have h1:=h x (by simp);have h2:=key r fun z hz=>h z (by simp [hz])
  omega
def Pw (l:List ByteArray):ByteArray:=ze l ⟨#[32]⟩++⟨#[10]⟩
theorem zd (h4:l.length<=4) (h:∀ x∈l,x.size<=24):(Lib.join (l.map (·.data.toList)) [32]).length<=100:=by
 have:=Ki (l.map (·.data.toList)) [32] 24 (by
  intro x hx;obtain ⟨y,hy,rfl⟩:=Zw.1 hx;have:=h y hy;rw [ZaR];exact this)
 rw [Zd] at this;have h2:([32]:List UInt8).length=1:=rfl;rw [h2] at this;omega
theorem vV (h4:l.length<=4) (h:∀ x∈l,x.size<=24):(ze l ⟨#[32]⟩).size<=100:=by
 have:=zd h4 h;unfold ze;show Array.size _<=100;rw [Zbm];exact this
theorem gO (h4:l.length<=4) (h:∀ x∈l,x.size<=24):(Pw l).size<=101:=by
 have:=vV h4 h;unfold Pw;rw [ByteArray.size_append];have:ByteArray.size ⟨#[10]⟩=1:=rfl;omega
theorem sT (h:Rd w v 1 (ie l)) (h4:l.length<=4) (hs:∀ x∈l,x.size<=24):ao T_ 192 [v] w (.string (Pw l)):=by
 have hj:∀ w',aH [] w w'->ao T_ 278 [v,.string ⟨#[32]⟩] w' (.string (ze l ⟨#[32]⟩)):=fun w' hk=>Ry (l:=l) ⟨#[32]⟩ (h.keeps hk) (by omega) (ZZ (zd h4 hs) (by decide))
 have hz:=vV h4 hs;have h1:ByteArray.size ⟨#[10]⟩=1:=rfl;have hb:(ze l ⟨#[32]⟩).size+ByteArray.size ⟨#[10]⟩<=9223372036854775807:=by omega
 refine ak func192 I I ?_
 (refine Jr<|Ja I<|Ji<|Jv I<|aj bo I (fun w' az=>(hj w' (Mem.keeps az)))<|ab (sN (.of I) (.of I) hb) I<|Ja I<|Jn<|Je<|JT ?_)
 rfl
def Ev:List Value:=[.string ⟨#[114,111,117,116,101,114]⟩,.func (.func 271) #[] #[],.string ⟨#[115,111,117,114,99,101]⟩,.func (.func 273) #[] #[],.string ⟨#[100,101,115,116,105,110,97,116,105,111,110]⟩,.func (.func 275) #[] #[],.string ⟨#[116,105,101]⟩,.func (.func 276) #[] #[],.string ⟨#[112,111,105,110,116]⟩,.func (.func 277) #[] #[]]
theorem OB (w:World):ao T_ 191 [] w (.agg Ev.toArray):=by
 unfold Ev;refine ak func191 I I ?_
 (refine Jr<|Jz I I fun _ _=>Ji<|ab (aX (.o I (.o I .nil)) an) I<|ab (aX (.o I (.o I .nil)) an) I<|ab (aX (.o I (.o I .nil)) an) I<|ab (aX (.o I (.o I .nil)) an) I<|ab (aX (.o I (.o I .nil)) an) I<|ab (aX (.o I (.o I (.o I (.o I (.o I .nil))))) an) I<|aq (.of I) (.of I) .here I I (aU I (aU I (Wf I I I I I I I I))) (bF I) an<|Jn<|Je<|pA I (kd I inferInstance I .here an (by rfl)) ?_)
 rfl
def wR:ByteArray:=⟨#[114,111,117,116,101,114]⟩
def wS:ByteArray:=⟨#[115,111,117,114,99,101]⟩
def wD:ByteArray:=⟨#[100,101,115,116,105,110,97,116,105,111,110]⟩
def wT:ByteArray:=⟨#[116,105,101]⟩
def wP:ByteArray:=⟨#[112,111,105,110,116]⟩
def HJ:ByteArray:=⟨#[102,114,101,101]⟩
def HI:ByteArray:=⟨#[112,114,111,116,101,99,116,101,100]⟩
def Wq (r:Ro):ByteArray:=Pw [wR,oh r.lv,oh r.ma]
def NS (x:Sr):ByteArray:=Pw [wS,x.nm,oh x.mx]
def stD (b:Bool):ByteArray:=if b=true then HI else HJ
def Mj (x:De):ByteArray:=Pw [wD,x.nm,oh x.mx,stD x.pr]
def NR (x:Ti):ByteArray:=Pw [wT,x.nm,oh x.fr,oh x.to]
def Tl (x:Po):ByteArray:=Pw [wP,oh x.lv,x.ou,x.ip]
def mW (a:ByteArray) (l:List ByteArray):ByteArray:=l.foldl (fun a b=>a++b) a
theorem pW {α:Type} {f:α->ByteArray} {l:List α} (h:k<l.length):mW a ((l.take (k+1)).map f)=mW a ((l.take k).map f)++f l[k]:=by
 unfold mW;rw [Zn h,Zz,List.foldl_append];rfl
theorem mV {n:Nat}:∀ {l:List ByteArray} {a:ByteArray},(∀ x∈l,x.size<=n)->(mW a l).size<=a.size+n*l.length
 | [],a,_=>ZC _
 | x :: l, a, h => by
  have:=mV (l:=l) (a:=a++x) fun y hy=>h y (ZT _ hy)
  rw [ByteArray.size_append] at this;have h1:=h x Zp;show (mW (a++x) l).size<=_;rw [ZL,Nat.mul_succ];omega
theorem pX {n:Nat} {α:Type} {f:α->ByteArray} {l:List α} (hn:∀ x∈l,(f x).size<=n):(mW a ((l.take k).map f)).size<=a.size+n*l.length:=by
 have:=mV (n:=n) (a:=a) (l:=(l.take k).map f) (by
  intro x hx;obtain ⟨y,hy,rfl⟩:=Zw.1 hx;exact hn y (Zbo hy))
 rw [Zd,Zs] at this;have:n*min k l.length<=n*l.length:=Zbr _ (Nat.min_le_right _ _);omega
def Xk (r:Ro):ByteArray:=mW (mW (mW (mW (Wq r) (r.sr.map NS)) (r.de.map Mj)) (r.ti.map NR)) (r.po.map Tl)
def IP (r:Ro):ByteArray:=if fT r=0 then Xk r else ⟨#[]⟩
theorem NK {s:ByteArray} (h:jD s=true):s.size<=24:=by
 unfold jD at h;simp only [Zm,decide_eq_true_eq] at h;exact h.1.1.2
structure Prn (r:Ro):Prop where
 n0:(0<=r.lv/\r.lv<=9)/\0<=r.ma/\r.ma<=9
 sr:∀ x∈r.sr,x.nm.size<=24/\0<=x.mx/\x.mx<=9
 de:∀ x∈r.de,x.nm.size<=24/\0<=x.mx/\x.mx<=9
 ti:∀ x∈r.ti,x.nm.size<=24/\(0<=x.fr/\x.fr<=9)/\0<=x.to/\x.to<=9
 po:∀ x∈r.po,(x.ou.size<=24/\x.ip.size<=24)/\0<=x.lv/\x.lv<=9
 len:(r.sr.length<=8/\r.de.length<=8/\r.ti.length<=6)/\r.po.length<=42
theorem prn (h:fT r=0):Prn r:=by
 have ho:=uo h;have hp:=prt (qP h).2.1;have hl:=ho.lim;have na:∀ s∈cY r,s.size<=24:=fun s hs=>NK (hp.nm s hs)
 have n1:∀ s∈cz r,s.size<=24:=fun s hs=>na s (ZD _ (ZD _ hs))
 have n2:∀ s∈bY r,s.size<=24:=fun s hs=>na s (ZD _ (ZM _ hs))
 have n3:∀ s∈ct r,s.size<=24:=fun s hs=>na s (ZM _ hs)
 refine ⟨by omega,fun x hx=>?_,fun x hx=>?_,fun x hx=>?_,fun x hx=>?_,hp.len,ni ho ho.val⟩
 ·have:=ho.sm x hx;exact ⟨n1 _ (Zai hx),by omega,by omega⟩
 ·have:=ho.dm x hx;exact ⟨n2 _ (Zai hx),by omega,by omega⟩
 ·have:=ho.tm x hx;exact ⟨n3 _ (Zai hx),by omega,by omega⟩
 ·have:=ho.val.Kd x hx;exact ⟨⟨(ho.val.out x hx).elim (n2 _) (n3 _),(ho.val.vY x hx).elim (n1 _) (n3 _)⟩,by omega,by omega⟩
theorem sS {a b c:ByteArray} (ha:a.size<=24) (hb:b.size<=24) (hc:c.size<=24):∀ x∈[a,b,c],x.size<=24:=by
 intro x hx;simp only [ZO,Zo,or_false] at hx;rcases hx with rfl | rfl | rfl <;> assumption
theorem jg {a b c d:ByteArray} (ha:a.size<=24) (hb:b.size<=24) (hc:c.size<=24) (hd:d.size<=24):∀ x∈[a,b,c,d],x.size<=24:=by
 intro x hx;simp only [ZO,Zo,or_false] at hx;rcases hx with rfl | rfl | rfl | rfl <;> assumption
theorem fm (n:Int):(oh n).size<=24:=by rw [Kj];decide
theorem DI (b:Bool):(stD b).size<=24:=by cases b <;> decide
theorem Pb (h:RR w r s d t p) (cJ:me r):ao T_ 85 [RA r s d t p] w (.tuple #[.string (IP r),.q (fT r)]):=by
 obtain ⟨h1,h2,h3,h4⟩:=h.one;have fB:∀ w',aH [] w w'->ao T_ 34 [.agg #[.int .i64 r.lv,.int .i64 r.ma,s,d,t,p]] w' (.int .i64 (fT r)):=fun w' hk=>eT (h.keeps hk) cJ
 have GZ:=h.sr;have G7:=h.de;have Cz:=h.ti;have KD:=h.po;obtain ⟨a1,eI,Qe,Ps,rfl,qp,jd,l7,kM⟩:=GZ;obtain ⟨a2,dL,Qd,Pr,rfl,kp,fh,js,jT⟩:=G7;obtain ⟨a3,ew,LH,I4,rfl,mS,gi,sX,qe⟩:=Cz;obtain ⟨a4,gq,VZ,Rf,rfl,zj,mQ,HA,AS⟩:=KD;rw [cy] at *;rw [bZ] at *;rw [bU] at *;rw [cO] at *;unfold maxLen at jd fh gi mQ;unfold RA;refine ak func85 I I ?_
 (refine Jr<|Jy I I fun _ _=>Ja I<|Ja I<|Jn<|Jq<|Jr<|ab (cN .here) I<|aj bS I (fun w' az=>(fB w' (Mem.keeps az)))<|Ja I<|Ji<|Jv I<|JD I<|Jn<|gR I (fun aA=>?_) fun aA=>?_;refine Jr<|Jv I<|Ja I<|Ja I<|Jn<|Ju<|pA I (gl I I I) ?_;rotate_left;refine Jk<|Jr<|aj k8 I (fun w' az=>(OB w'))<|Jz I I fun _ _=>aq (.of I) (.of I) .here I I (aU I (aU I (Wf I I I I I I I I))) (bF I) an<|Jn<|Jq ?_;rotate_right)
 ·unfold IP;rw [if_neg aA]
 have h0:fT r=0:=Zr.1 aA;have hN:=prn h0;have e0:IP r=Xk r:=if_pos h0;rw [e0,h0];unfold Ev
 skip
 try simp only [setCells,List.set_cons_zero,List.set_cons_succ]
 have q1:=hN.n0
 with_reducible refine dy 12 (by kernel_rfl) ?_
 (refine ah (fun β=>(eQ (.of I) (.of I) (by omega) (by omega) bu)) aK I<|ah (fun β=>(ai (.of I) ae)) aK I<|ah (fun β=>(ag (.of I) (At.lit .here I))) aK I<|ah (fun β=>(ai (.of I) ae)) aK I<|ah (fun β=>(ag (.of I) (At.lit (.there .here) I))) aK I ?_)
 dsimp only [Nat.zero_add,Nat.reduceAdd]
 with_reducible apply cV (B:=[]) (F:=fun _=>.string (oh r.lv)) (args:=fun _=>[.q r.lv])
 case hB=>rfl
 case hr=>exact fun β=>a8 (.of I) (.o I .nil) inferInstance I
 case hi=>exact aK
 case hd=>rfl
 case hc=>exact fun β w' dK=>oQ _ (by omega) (by omega) _
 dsimp only [Nat.reduceAdd]
 (refine ah (fun β=>(ai (.of I) ae)) aK I<|ah (fun β=>(ag (.of I) (At.lit (.there .here) I))) aK I ?_)
 dsimp only [Nat.zero_add,Nat.reduceAdd]
 with_reducible apply cV (B:=[]) (F:=fun _=>.string (oh r.ma)) (args:=fun _=>[.q r.ma])
 case hB=>rfl
 case hr=>exact fun β=>a8 (.of I) (.o I .nil) inferInstance I
 case hi=>exact aK
 case hd=>rfl
 case hc=>exact fun β w' dK=>oQ _ (by omega) (by omega) _
 dsimp only [Nat.reduceAdd]
 skip
 refine lG (fun β=>(aB (.o I (.o I (.o I .nil))) I I I I)) (fun _ _ _=>rfl) I ?_;dsimp only [Nat.zero_add,Nat.reduceAdd]
 with_reducible apply cV (B:=[9]) (F:=fun _=>.string (Wq r)) (args:=fun β=>[.slice (some ⟨ep (β 9),0,none⟩) 3 3])
 case hB=>kernel_rfl
 case hr=>exact fun β=>a8 (.of I) (.o I .nil) inferInstance I
 case hi=>exact aK
 case hd=>rfl
 case hc=>
  intro β w' dK;have mK:=dK.at 9 Zp (s:=⟨fun β=>.slice (some ⟨ep (β 9),0,none⟩) 3 3,fun β=>[bA (ep (β 9)) (.cells #[.string wR,.string (oh r.lv),.string (oh r.ma)] 9)]⟩) (by kernel_rfl)
  dsimp only [Zb,Za] at mK;exact sT (l:=[wR,oh r.lv,oh r.ma]) (Mem.dB mK (by exact .here) I I) (by simp) (sS (by decide) (fm _) (fm _))
 dsimp only [Nat.reduceAdd];refine ah (fun β=>(cd (.of I))) aK I ?_;refine eG fun β=>?_;dsimp only [dX,Za,Zb,List.append_eq,Nat.reduceAdd]
 with_reducible refine cn (by kernel_rfl) ?_
 (refine Jt<|Jq<|Jr<|bN I I ae<|JL I bO I<|JI I<|Jv I<|Jn<|J0 ?_)
 rename_i b1 rW b5 Mu;generalize ep (β 9)=b9;clear β;have hA:(Wq r).size<=101:=gO (by simp) (sS (by decide) (fm _) (fm _));unfold Xk;generalize Wq r=A at hA ⊢;refine bd (ι:=Nat×ByteArray) (fun y=>y.1<=r.sr.length/\y.2=mW A ((r.sr.take y.1).map NS)) (fun y=>[(36,.q (y.1:Nat)),(35,.q r.sr.length),(34,.slice a1 r.sr.length eI),(6,.string y.2),(5,.p b5),(1,.p b1)]) (fun _=>[bA b5 (.cells #[.string ⟨#[114,111,117,116,101,114]⟩,.func (.func 271) #[] #[],.string ⟨#[115,111,117,114,99,101]⟩,.func (.func 273) #[] #[],.string ⟨#[100,101,115,116,105,110,97,116,105,111,110]⟩,.func (.func 275) #[] #[],.string ⟨#[116,105,101]⟩,.func (.func 276) #[] #[],.string ⟨#[112,111,105,110,116]⟩,.func (.func 277) #[] #[]] 265 (0,0)),JP b1 r (.slice a1 r.sr.length eI) (.slice a2 r.de.length dL) (.slice a3 r.ti.length ew) (.slice a4 r.po.length gq)]) (fun y=>r.sr.length-y.1) ?_ ?_
 ·apply aJ (0,A) ⟨Zi _,I⟩
  case hs1=>exact cB
  case ht=>
   exact .cons (.there .here) (.cons (.there .here) .nil)
 rintro ⟨k,S⟩ ⟨hk,hS⟩;dsimp only at hk hS ⊢;by_cases aN:k<r.sr.length
 ·have c8:=l7 (gW aN);have aG:=(kM k _ (fG aN)).2;have hx:=hN.sr _ (Zj aN);have kc:=pW (a:=A) (f:=NS) aN;rw [<- hS] at kc;unfold Sr.cells at aG;generalize r.sr[k]=x at aG hx kc;have hz:(NS x).size<=101:=gO (by simp) (sS (by decide) hx.1 (fm _));have Sx:S.size<=A.size+101*r.sr.length:=by rw [hS];exact pX fun y hy=>gO (by simp) (sS (by decide) (hN.sr y hy).1 (fm _))
  have WN:=hN.len;have hb:S.size+(NS x).size<=9223372036854775807:=by omega
  (refine Jr<|JA I<|Jn<|Jq<|Jd I fun aA=>Jk<|Jq<|J0<|Jr<|ab (gr c8 aA) I<|ab (iD (eO.base aG I)) I<|Jz I I fun _ _=>aq (.of I) (.of I) .here I I (gK I I) (bF I) an<|Jn ?_)
  with_reducible refine dy 13 (by kernel_rfl) ?_
  (refine ah (fun β=>(aL (.of I))) aK I<|ah (fun β=>(eQ (.of I) (.of I) (by omega) (by omega) bu)) aK I<|ah (fun β=>(ai (.of I) ae)) aK I<|ah (fun β=>(ag (.of I) (At.lit (.there .here) I))) aK I<|ah (fun β=>(ai (.of I) ae)) aK I<|ah (fun β=>(ag (.of I) (At.lit .here I))) aK I<|ah (fun β=>(ai (.of I) ae)) aK I<|ah (fun β=>(ag (.of I) (At.lit .here I))) aK I ?_)
  dsimp only [Nat.zero_add,Nat.reduceAdd]
  with_reducible apply cV (B:=[]) (F:=fun _=>.string (oh x.mx)) (args:=fun _=>[.q x.mx])
  case hB=>rfl
  case hr=>exact fun β=>a8 (.of I) (.o I .nil) inferInstance I
  case hi=>exact aK
  case hd=>rfl
  case hc=>exact fun β w' dK=>oQ _ (by omega) (by omega) _
  dsimp only [Nat.reduceAdd]
  skip
  refine lG (fun β=>(aB (.o I (.o I (.o I .nil))) I I I I)) (fun _ _ _=>rfl) I ?_;dsimp only [Nat.zero_add,Nat.reduceAdd]
  with_reducible apply cV (B:=[9]) (F:=fun _=>.string (NS x)) (args:=fun β=>[.slice (some ⟨ep (β 9),0,none⟩) 3 3])
  case hB=>kernel_rfl
  case hr=>exact fun β=>a8 (.of I) (.o I .nil) inferInstance I
  case hi=>exact aK
  case hd=>rfl
  case hc=>
   intro β w' dK;have mK:=dK.at 9 Zp (s:=⟨fun β=>.slice (some ⟨ep (β 9),0,none⟩) 3 3,fun β=>[bA (ep (β 9)) (.cells #[.string wS,.string x.nm,.string (oh x.mx)] 9)]⟩) (by kernel_rfl)
   dsimp only [Zb,Za] at mK;exact sT (l:=[wS,x.nm,oh x.mx]) (Mem.dB mK (by exact .here) I I) (by simp) (sS (by decide) hx.1 (fm _))
  dsimp only [Nat.reduceAdd]
  (refine ah (fun β=>(sN (.of I) (.of I) hb)) aK I<|ah (fun β=>(cd (.of I))) aK I ?_)
  refine eG fun β=>?_;dsimp only [dX,Za,Zb,List.append_eq,Nat.reduceAdd]
  with_reducible refine cn (by kernel_rfl) ?_
  refine Jj<|Jt<|Jg<|JB I (by omega)<|Jv I<|Jn ?_;apply aI (k+1,_) (show _/\_ from ⟨by omega,kc.symm⟩) (show r.sr.length-(k+1)<r.sr.length-k by omega)
  case hs1=>exact cB
  case ht=>
   exact .cons bO (.cons bO .nil)
 obtain rfl:k=r.sr.length:=by omega
 rw [ZN] at hS;subst hS;have hA:(mW A (r.sr.map NS)).size<=909:=by
  have:=mV (n:=101) (a:=A) (l:=r.sr.map NS) (by
   intro x hx;obtain ⟨y,hy,rfl⟩:=Zw.1 hx;exact gO (by simp) (sS (by decide) (hN.sr y hy).1 (fm _)))
  rw [Zd] at this;have:=hN.len;omega
 generalize mW A (r.sr.map NS)=A at hA ⊢;clear aN hk
 (refine Jr<|JA I<|Jn<|Jq<|Jc I fun aA=>Jp<|Jl<|Jo<|Jt<|Jq<|Jr<|bN I I ae<|JL I (.there .here) I<|JI I<|Jv I<|Jn<|J0 ?_)
 refine bd (ι:=Nat×ByteArray) (fun y=>y.1<=r.de.length/\y.2=mW A ((r.de.take y.1).map Mj)) (fun y=>[(56,.q (y.1:Nat)),(55,.q r.de.length),(54,.slice a2 r.de.length dL),(6,.string y.2),(5,.p b5),(1,.p b1)]) (fun _=>[bA b5 (.cells #[.string ⟨#[114,111,117,116,101,114]⟩,.func (.func 271) #[] #[],.string ⟨#[115,111,117,114,99,101]⟩,.func (.func 273) #[] #[],.string ⟨#[100,101,115,116,105,110,97,116,105,111,110]⟩,.func (.func 275) #[] #[],.string ⟨#[116,105,101]⟩,.func (.func 276) #[] #[],.string ⟨#[112,111,105,110,116]⟩,.func (.func 277) #[] #[]] 265 (0,0)),JP b1 r (.slice a1 r.sr.length eI) (.slice a2 r.de.length dL) (.slice a3 r.ti.length ew) (.slice a4 r.po.length gq)]) (fun y=>r.de.length-y.1) ?_ ?_
 ·apply aJ (0,A) ⟨Zi _,I⟩
  case hs1=>exact cB
  case ht=>
   exact .h2 .nil
 rintro ⟨k,S⟩ ⟨hk,hS⟩;dsimp only at hk hS ⊢;by_cases aN:k<r.de.length
 ·have c8:=js (gI aN);have aG:=(jT k _ (fq aN)).2;have hx:=hN.de _ (Zj aN);have kc:=pW (a:=A) (f:=Mj) aN;rw [<- hS] at kc;unfold De.cells at aG;generalize r.de[k]=x at aG hx kc;have hz:(Mj x).size<=101:=gO (by simp) (jg (by decide) hx.1 (fm _) (DI _));have Sx:S.size<=A.size+101*r.de.length:=by rw [hS];exact pX fun y hy=>gO (by simp) (jg (by decide) (hN.de y hy).1 (fm _) (DI _))
  have WN:=hN.len;have hb:S.size+(Mj x).size<=9223372036854775807:=by omega
  clear hz Sx WN;obtain ⟨xn,xm,xp⟩:=x;dsimp only at aG hx kc hb ⊢;cases xp
  ·(refine Jr<|JA I<|Jn<|Jq<|Jd I fun aA=>Jk<|Jq<|J0<|Jr<|ab (gr c8 aA) I<|ab (iD (eO.base aG I)) I<|Jz I I fun _ _=>aq (.of I) (.of I) .here I I (fc I I I) (bF I) an<|Ji<|Ja I<|Jn<|Jq<|Jr<|bN I I ae<|JL I .here I<|Jn<|bJ (.of I)<|Jk ?_)
   with_reducible refine dy 14 (by kernel_rfl) ?_
   (refine ah (fun β=>(aL (.of I))) aK I<|ah (fun β=>(eQ (.of I) (.of I) (by omega) (by omega) bu)) aK I<|ah (fun β=>(ai (.of I) ae)) aK I<|ah (fun β=>(ag (.of I) (At.lit (.there .here) I))) aK I<|ah (fun β=>(ai (.of I) ae)) aK I<|ah (fun β=>(ag (.of I) (At.lit .here I))) aK I<|ah (fun β=>(ai (.of I) ae)) aK I<|ah (fun β=>(ag (.of I) (At.lit .here I))) aK I ?_)
   dsimp only [Nat.zero_add,Nat.reduceAdd]
   with_reducible apply cV (B:=[]) (F:=fun _=>.string (oh xm)) (args:=fun _=>[.q xm])
   case hB=>rfl
   case hr=>exact fun β=>a8 (.of I) (.o I .nil) inferInstance I
   case hi=>exact aK
   case hd=>rfl
   case hc=>exact fun β w' dK=>oQ _ (by omega) (by omega) _
   dsimp only [Nat.reduceAdd];refine ah (fun β=>(aL (.of I))) aK I ?_;refine lG (fun β=>(aB (.o I (.o I (.o I (.o I .nil)))) I I I I)) (fun _ _ _=>rfl) I ?_;dsimp only [Nat.zero_add,Nat.reduceAdd]
   with_reducible apply cV (B:=[10]) (F:=fun _=>.string (Mj ⟨xn,xm,false⟩)) (args:=fun β=>[.slice (some ⟨ep (β 10),0,none⟩) 4 4])
   case hB=>kernel_rfl
   case hr=>exact fun β=>a8 (.of I) (.o I .nil) inferInstance I
   case hi=>exact aK
   case hd=>rfl
   case hc=>
    intro β w' dK;have mK:=dK.at 10 Zp (s:=⟨fun β=>.slice (some ⟨ep (β 10),0,none⟩) 4 4,fun β=>[bA (ep (β 10)) (.cells #[.string wD,.string xn,.string (oh xm),.string HJ] 9)]⟩) (by kernel_rfl)
    dsimp only [Zb,Za] at mK;exact sT (l:=[wD,xn,oh xm,HJ]) (Mem.dB mK (by exact .here) I I) (by simp) (jg (by decide) hx.1 (fm _) (by decide))
   dsimp only [Nat.reduceAdd]
   (refine ah (fun β=>(sN (.of I) (.of I) hb)) aK I<|ah (fun β=>(cd (.of I))) aK I ?_)
   refine eG fun β=>?_;dsimp only [dX,Za,Zb,List.append_eq,Nat.reduceAdd]
   with_reducible refine cn (by kernel_rfl) ?_
   refine Jj<|Jt<|Jg<|JB I (by omega)<|Jv I<|Jn ?_;apply aI (k+1,_) (show _/\_ from ⟨by omega,kc.symm⟩) (show r.de.length-(k+1)<r.de.length-k by omega)
   case hs1=>exact cB
   case ht=>
    exact .cons bO (.cons bO .nil)
  ·(refine Jr<|JA I<|Jn<|Jq<|Jd I fun aA=>Jk<|Jq<|J0<|Jr<|ab (gr c8 aA) I<|ab (iD (eO.base aG I)) I<|Jz I I fun _ _=>aq (.of I) (.of I) .here I I (fc I I I) (bF I) an<|Ji<|Ja I<|Jn<|Jq<|Jr<|bN I I ae<|JL I .here I<|Jn<|ch (.of I)<|Jg<|Ja I<|Jn ?_)
   with_reducible refine dy 14 (by kernel_rfl) ?_
   (refine ah (fun β=>(aL (.of I))) aK I<|ah (fun β=>(eQ (.of I) (.of I) (by omega) (by omega) bu)) aK I<|ah (fun β=>(ai (.of I) ae)) aK I<|ah (fun β=>(ag (.of I) (At.lit (.there .here) I))) aK I<|ah (fun β=>(ai (.of I) ae)) aK I<|ah (fun β=>(ag (.of I) (At.lit .here I))) aK I<|ah (fun β=>(ai (.of I) ae)) aK I<|ah (fun β=>(ag (.of I) (At.lit .here I))) aK I ?_)
   dsimp only [Nat.zero_add,Nat.reduceAdd]
   with_reducible apply cV (B:=[]) (F:=fun _=>.string (oh xm)) (args:=fun _=>[.q xm])
   case hB=>rfl
   case hr=>exact fun β=>a8 (.of I) (.o I .nil) inferInstance I
   case hi=>exact aK
   case hd=>rfl
   case hc=>exact fun β w' dK=>oQ _ (by omega) (by omega) _
   dsimp only [Nat.reduceAdd];refine ah (fun β=>(aL (.of I))) aK I ?_;refine lG (fun β=>(aB (.o I (.o I (.o I (.o I .nil)))) I I I I)) (fun _ _ _=>rfl) I ?_;dsimp only [Nat.zero_add,Nat.reduceAdd]
   with_reducible apply cV (B:=[10]) (F:=fun _=>.string (Mj ⟨xn,xm,true⟩)) (args:=fun β=>[.slice (some ⟨ep (β 10),0,none⟩) 4 4])
   case hB=>kernel_rfl
   case hr=>exact fun β=>a8 (.of I) (.o I .nil) inferInstance I
   case hi=>exact aK
   case hd=>rfl
   case hc=>
    intro β w' dK;have mK:=dK.at 10 Zp (s:=⟨fun β=>.slice (some ⟨ep (β 10),0,none⟩) 4 4,fun β=>[bA (ep (β 10)) (.cells #[.string wD,.string xn,.string (oh xm),.string HI] 9)]⟩) (by kernel_rfl)
    dsimp only [Zb,Za] at mK;exact sT (l:=[wD,xn,oh xm,HI]) (Mem.dB mK (by exact .here) I I) (by simp) (jg (by decide) hx.1 (fm _) (by decide))
   dsimp only [Nat.reduceAdd]
   (refine ah (fun β=>(sN (.of I) (.of I) hb)) aK I<|ah (fun β=>(cd (.of I))) aK I ?_)
   refine eG fun β=>?_;dsimp only [dX,Za,Zb,List.append_eq,Nat.reduceAdd]
   with_reducible refine cn (by kernel_rfl) ?_
   refine Jj<|Jt<|Jg<|JB I (by omega)<|Jv I<|Jn ?_;apply aI (k+1,_) (show _/\_ from ⟨by omega,kc.symm⟩) (show r.de.length-(k+1)<r.de.length-k by omega)
   case hs1=>exact cB
   case ht=>
    exact .cons bO (.cons bO .nil)
 obtain rfl:k=r.de.length:=by omega
 rw [ZN] at hS;subst hS;have hA:(mW A (r.de.map Mj)).size<=1717:=by
  have:=mV (n:=101) (a:=A) (l:=r.de.map Mj) (by
   intro x hx;obtain ⟨y,hy,rfl⟩:=Zw.1 hx;exact gO (by simp) (jg (by decide) (hN.de y hy).1 (fm _) (DI _)))
  rw [Zd] at this;have:=hN.len;omega
 generalize mW A (r.de.map Mj)=A at hA ⊢;clear aN hk
 (refine Jr<|JA I<|Jn<|Jq<|Jc I fun aA=>Jp<|Jl<|Jo<|Jt<|Jq<|Jr<|bN I I ae<|JL I (.there .here) I<|JI I<|Jv I<|Jn<|J0 ?_)
 refine bd (ι:=Nat×ByteArray) (fun y=>y.1<=r.ti.length/\y.2=mW A ((r.ti.take y.1).map NR)) (fun y=>[(79,.q (y.1:Nat)),(78,.q r.ti.length),(77,.slice a3 r.ti.length ew),(6,.string y.2),(5,.p b5),(1,.p b1)]) (fun _=>[bA b5 (.cells #[.string ⟨#[114,111,117,116,101,114]⟩,.func (.func 271) #[] #[],.string ⟨#[115,111,117,114,99,101]⟩,.func (.func 273) #[] #[],.string ⟨#[100,101,115,116,105,110,97,116,105,111,110]⟩,.func (.func 275) #[] #[],.string ⟨#[116,105,101]⟩,.func (.func 276) #[] #[],.string ⟨#[112,111,105,110,116]⟩,.func (.func 277) #[] #[]] 265 (0,0)),JP b1 r (.slice a1 r.sr.length eI) (.slice a2 r.de.length dL) (.slice a3 r.ti.length ew) (.slice a4 r.po.length gq)]) (fun y=>r.ti.length-y.1) ?_ ?_
 ·apply aJ (0,A) ⟨Zi _,I⟩
  case hs1=>exact cB
  case ht=>
   exact .h2 .nil
 rintro ⟨k,S⟩ ⟨hk,hS⟩;dsimp only at hk hS ⊢;by_cases aN:k<r.ti.length
 ·have c8:=sX (eV aN);have aG:=(qe k _ (ed aN)).2;have hx:=hN.ti _ (Zj aN);have kc:=pW (a:=A) (f:=NR) aN;rw [<- hS] at kc;unfold Ti.cells at aG;generalize r.ti[k]=x at aG hx kc;have hz:(NR x).size<=101:=gO (by simp) (jg (by decide) hx.1 (fm _) (fm _));have Sx:S.size<=A.size+101*r.ti.length:=by rw [hS];exact pX fun y hy=>gO (by simp) (jg (by decide) (hN.ti y hy).1 (fm _) (fm _))
  have WN:=hN.len;have hb:S.size+(NR x).size<=9223372036854775807:=by omega
  (refine Jr<|JA I<|Jn<|Jq<|Jd I fun aA=>Jk<|Jq<|J0<|Jr<|ab (gr c8 aA) I<|ab (iD (eO.base aG I)) I<|Jz I I fun _ _=>aq (.of I) (.of I) .here I I (fc I I I) (bF I) an<|Jn ?_)
  with_reducible refine dy 16 (by kernel_rfl) ?_
  (refine ah (fun β=>(aL (.of I))) aK I<|ah (fun β=>(eQ (.of I) (.of I) (by omega) (by omega) bu)) aK I<|ah (fun β=>(ai (.of I) ae)) aK I<|ah (fun β=>(ag (.of I) (At.lit (.there .here) I))) aK I<|ah (fun β=>(ai (.of I) ae)) aK I<|ah (fun β=>(ag (.of I) (At.lit .here I))) aK I<|ah (fun β=>(ai (.of I) ae)) aK I<|ah (fun β=>(ag (.of I) (At.lit .here I))) aK I ?_)
  dsimp only [Nat.zero_add,Nat.reduceAdd]
  with_reducible apply cV (B:=[]) (F:=fun _=>.string (oh x.fr)) (args:=fun _=>[.q x.fr])
  case hB=>rfl
  case hr=>exact fun β=>a8 (.of I) (.o I .nil) inferInstance I
  case hi=>exact aK
  case hd=>rfl
  case hc=>exact fun β w' dK=>oQ _ (by omega) (by omega) _
  dsimp only [Nat.reduceAdd]
  (refine ah (fun β=>(ai (.of I) ae)) aK I<|ah (fun β=>(ag (.of I) (At.lit .here I))) aK I ?_)
  dsimp only [Nat.zero_add,Nat.reduceAdd]
  with_reducible apply cV (B:=[]) (F:=fun _=>.string (oh x.to)) (args:=fun _=>[.q x.to])
  case hB=>rfl
  case hr=>exact fun β=>a8 (.of I) (.o I .nil) inferInstance I
  case hi=>exact aK
  case hd=>rfl
  case hc=>exact fun β w' dK=>oQ _ (by omega) (by omega) _
  dsimp only [Nat.reduceAdd]
  skip
  refine lG (fun β=>(aB (.o I (.o I (.o I (.o I .nil)))) I I I I)) (fun _ _ _=>rfl) I ?_;dsimp only [Nat.zero_add,Nat.reduceAdd]
  with_reducible apply cV (B:=[12]) (F:=fun _=>.string (NR x)) (args:=fun β=>[.slice (some ⟨ep (β 12),0,none⟩) 4 4])
  case hB=>kernel_rfl
  case hr=>exact fun β=>a8 (.of I) (.o I .nil) inferInstance I
  case hi=>exact aK
  case hd=>rfl
  case hc=>
   intro β w' dK;have mK:=dK.at 12 Zp (s:=⟨fun β=>.slice (some ⟨ep (β 12),0,none⟩) 4 4,fun β=>[bA (ep (β 12)) (.cells #[.string wT,.string x.nm,.string (oh x.fr),.string (oh x.to)] 9)]⟩) (by kernel_rfl)
   dsimp only [Zb,Za] at mK;exact sT (l:=[wT,x.nm,oh x.fr,oh x.to]) (Mem.dB mK (by exact .here) I I) (by simp) (jg (by decide) hx.1 (fm _) (fm _))
  dsimp only [Nat.reduceAdd]
  (refine ah (fun β=>(sN (.of I) (.of I) hb)) aK I<|ah (fun β=>(cd (.of I))) aK I ?_)
  refine eG fun β=>?_;dsimp only [dX,Za,Zb,List.append_eq,Nat.reduceAdd]
  with_reducible refine cn (by kernel_rfl) ?_
  refine Jj<|Jt<|Jg<|JB I (by omega)<|Jv I<|Jn ?_;apply aI (k+1,_) (show _/\_ from ⟨by omega,kc.symm⟩) (show r.ti.length-(k+1)<r.ti.length-k by omega)
  case hs1=>exact cB
  case ht=>
   exact .cons bO (.cons bO .nil)
 obtain rfl:k=r.ti.length:=by omega
 rw [ZN] at hS;subst hS;have hA:(mW A (r.ti.map NR)).size<=2323:=by
  have:=mV (n:=101) (a:=A) (l:=r.ti.map NR) (by
   intro x hx;obtain ⟨y,hy,rfl⟩:=Zw.1 hx;exact gO (by simp) (jg (by decide) (hN.ti y hy).1 (fm _) (fm _)))
  rw [Zd] at this;have:=hN.len;omega
 generalize mW A (r.ti.map NR)=A at hA ⊢;clear aN hk
 (refine Jr<|JA I<|Jn<|Jq<|Jc I fun aA=>Jp<|Jl<|Jo<|Jt<|Jq<|Jr<|bN I I ae<|JL I (.there .here) I<|JI I<|Jv I<|Jn<|J0 ?_)
 refine bd (ι:=Nat×ByteArray) (fun y=>y.1<=r.po.length/\y.2=mW A ((r.po.take y.1).map Tl)) (fun y=>[(102,.q (y.1:Nat)),(101,.q r.po.length),(100,.slice a4 r.po.length gq),(6,.string y.2),(5,.p b5),(1,.p b1)]) (fun _=>[bA b5 (.cells #[.string ⟨#[114,111,117,116,101,114]⟩,.func (.func 271) #[] #[],.string ⟨#[115,111,117,114,99,101]⟩,.func (.func 273) #[] #[],.string ⟨#[100,101,115,116,105,110,97,116,105,111,110]⟩,.func (.func 275) #[] #[],.string ⟨#[116,105,101]⟩,.func (.func 276) #[] #[],.string ⟨#[112,111,105,110,116]⟩,.func (.func 277) #[] #[]] 265 (0,0)),JP b1 r (.slice a1 r.sr.length eI) (.slice a2 r.de.length dL) (.slice a3 r.ti.length ew) (.slice a4 r.po.length gq)]) (fun y=>r.po.length-y.1) ?_ ?_
 ·apply aJ (0,A) ⟨Zi _,I⟩
  case hs1=>exact cB
  case ht=>
   exact .h2 .nil
 rintro ⟨k,S⟩ ⟨hk,hS⟩;dsimp only at hk hS ⊢;by_cases aN:k<r.po.length
 ·have c8:=HA (kE aN);have aG:=(AS k _ (iK aN)).2;have hx:=hN.po _ (Zj aN);have kc:=pW (a:=A) (f:=Tl) aN;rw [<- hS] at kc;unfold Po.cells at aG;generalize r.po[k]=x at aG hx kc;have hz:(Tl x).size<=101:=gO (by simp) (jg (by decide) (fm _) hx.1.1 hx.1.2);have Sx:S.size<=A.size+101*r.po.length:=by rw [hS];exact pX fun y hy=>gO (by simp) (jg (by decide) (fm _) (hN.po y hy).1.1 (hN.po y hy).1.2)
  have WN:=hN.len;have hb:S.size+(Tl x).size<=9223372036854775807:=by omega
  (refine Jr<|JA I<|Jn<|Jq<|Jd I fun aA=>Jk<|Jq<|J0<|Jr<|ab (gr c8 aA) I<|ab (iD (eO.base aG I)) I<|Jz I I fun _ _=>aq (.of I) (.of I) .here I I (fc I I I) (bF I) an<|Jn ?_)
  with_reducible refine dy 15 (by kernel_rfl) ?_
  (refine ah (fun β=>(aL (.of I))) aK I<|ah (fun β=>(eQ (.of I) (.of I) (by omega) (by omega) bu)) aK I<|ah (fun β=>(ai (.of I) ae)) aK I<|ah (fun β=>(ag (.of I) (At.lit (.there .here) I))) aK I<|ah (fun β=>(ai (.of I) ae)) aK I<|ah (fun β=>(ag (.of I) (At.lit .here I))) aK I ?_)
  dsimp only [Nat.zero_add,Nat.reduceAdd]
  with_reducible apply cV (B:=[]) (F:=fun _=>.string (oh x.lv)) (args:=fun _=>[.q x.lv])
  case hB=>rfl
  case hr=>exact fun β=>a8 (.of I) (.o I .nil) inferInstance I
  case hi=>exact aK
  case hd=>rfl
  case hc=>exact fun β w' dK=>oQ _ (by omega) (by omega) _
  dsimp only [Nat.reduceAdd]
  (refine ah (fun β=>(ai (.of I) ae)) aK I<|ah (fun β=>(ag (.of I) (At.lit .here I))) aK I<|ah (fun β=>(ai (.of I) ae)) aK I<|ah (fun β=>(ag (.of I) (At.lit .here I))) aK I ?_)
  refine lG (fun β=>(aB (.o I (.o I (.o I (.o I .nil)))) I I I I)) (fun _ _ _=>rfl) I ?_;dsimp only [Nat.zero_add,Nat.reduceAdd]
  with_reducible apply cV (B:=[11]) (F:=fun _=>.string (Tl x)) (args:=fun β=>[.slice (some ⟨ep (β 11),0,none⟩) 4 4])
  case hB=>kernel_rfl
  case hr=>exact fun β=>a8 (.of I) (.o I .nil) inferInstance I
  case hi=>exact aK
  case hd=>rfl
  case hc=>
   intro β w' dK;have mK:=dK.at 11 Zp (s:=⟨fun β=>.slice (some ⟨ep (β 11),0,none⟩) 4 4,fun β=>[bA (ep (β 11)) (.cells #[.string wP,.string (oh x.lv),.string x.ou,.string x.ip] 9)]⟩) (by kernel_rfl)
   dsimp only [Zb,Za] at mK;exact sT (l:=[wP,oh x.lv,x.ou,x.ip]) (Mem.dB mK (by exact .here) I I) (by simp) (jg (by decide) (fm _) hx.1.1 hx.1.2)
  dsimp only [Nat.reduceAdd]
  (refine ah (fun β=>(sN (.of I) (.of I) hb)) aK I<|ah (fun β=>(cd (.of I))) aK I ?_)
  refine eG fun β=>?_;dsimp only [dX,Za,Zb,List.append_eq,Nat.reduceAdd]
  with_reducible refine cn (by kernel_rfl) ?_
  refine Jj<|Jt<|Jg<|JB I (by omega)<|Jv I<|Jn ?_;apply aI (k+1,_) (show _/\_ from ⟨by omega,kc.symm⟩) (show r.po.length-(k+1)<r.po.length-k by omega)
  case hs1=>exact cB
  case ht=>
   exact .cons bO (.cons bO .nil)
 obtain rfl:k=r.po.length:=by omega
 rw [ZN] at hS;rw [<- hS];refine Jr<|JA I<|Jn<|Jq<|Jc I fun aA=>Jp<|Jl<|Jo<|Jt<|Jr<|Jv I<|Ja I<|Ja I<|Jn<|Je<|pA I (gl I I I) ?_
 rfl
def MV (r:Ro) (x:Value×Value×Value×Value):List bh:=[row 118 2 x.1 r.sr.length (mw r.sr),row 88 3 x.2.1 r.de.length (j5 r.de),row 122 3 x.2.2.1 r.ti.length (nN r.ti),row 180 3 x.2.2.2 r.po.length (jb r.po)]
def mu (r:Ro):Prop:=r.sr.length<=1000000/\r.de.length<=1000000/\r.ti.length<=1000000/\r.po.length<=1000000
theorem T4 (h:RR w r s d t p) (cJ:mu r):bB T_ 21 [RA r s d t p] w [] (fun _:Value×Value×Value×Value=>True) (fun x=>RA r x.1 x.2.1 x.2.2.1 x.2.2.2) (fun x=>kC r x):=by
 obtain ⟨h1,h2,h3,h4⟩:=h.one;have GZ:=h.sr;have G7:=h.de;have Cz:=h.ti;have KD:=h.po;obtain ⟨a1,eI,Qe,Ps,rfl,qp,jd,l7,kM⟩:=GZ;obtain ⟨a2,dL,Qd,Pr,rfl,kp,fh,js,jT⟩:=G7;obtain ⟨a3,ew,LH,I4,rfl,mS,gi,sX,qe⟩:=Cz;obtain ⟨a4,gq,VZ,Rf,rfl,zj,mQ,HA,AS⟩:=KD;rw [cy] at *;rw [bZ] at *;rw [bU] at *;rw [cO] at *;unfold maxLen at jd fh gi mQ;obtain ⟨f1,f2,f3,f4⟩:=cJ;unfold RA;refine aV func21 I I ?_
 (refine Jr<|Jy I I fun _ _=>Jz I I fun _ _=>Ji<|bN I I ae<|JL I (.there .here) I<|bN I I ae<|JL I (.there .here) I<|ab (aX (.o I (.o I .nil)) an) I<|Jz I I fun _ _=>aq (.of I) (.of I) .here I I (hG I I I I I I) (bF I) an<|Jn<|Jq<|Jr<|bN I I ae<|JL I bO I<|JI I<|Jv I<|Jn<|J0 ?_)
 rename_i b1 rW b2 tX b3 uY;refine aR 186 2 ?_;refine bd (ι:=Nat×Option Addr×Nat) (fun y=>y.1<=r.sr.length) (fun y=>[(20,.q (y.1:Nat)),(19,.q r.sr.length),(18,.slice a1 r.sr.length eI),(3,.p b3),(2,.p b2),(1,.p b1)]) (fun y=>[row 186 2 (.slice y.2.1 y.1 y.2.2) y.1 (mw (r.sr.take y.1)),JP b3 r (.slice y.2.1 y.1 y.2.2) (.z) (.z) (.z),bA b2 (.cells #[.q 0,.q 0,.z,.z,.z,.z] 41 (0,0)),JQ b1 r (.slice a1 r.sr.length eI) (.slice a2 r.de.length dL) (.slice a3 r.ti.length ew) (.slice a4 r.po.length gq)]) (fun y=>r.sr.length-y.1) ?_ ?_
 ·apply aJ (0,none,0) (Zi _)
  case hs1=>exact cB
  case ht=>
   exact .h4 .nil
 rintro ⟨k,g1,oY⟩ hk;dsimp only at hk ⊢;by_cases aN:k<r.sr.length
 ·have c8:=l7 (gW aN);have aG:=(kM k _ (fG aN)).2;have bj:=BO aN;have hlen:(mw (r.sr.take k)).length=k*2:=by rw [Ff,Zs];omega
  unfold Sr.cells at aG bj;generalize r.sr[k]=x at aG bj
  (refine Jr<|JA I<|Jn<|Jq<|Jd I fun aA=>Jk<|Jq<|J0<|Jr<|ab (gr c8 aA) I<|ab (iD (eO.base aG I)) I<|Jz I I fun _ _=>aq (.of I) (.of I) .here I I (gK I I) (bF I) an<|Jn<|Jg<|bN I I ae<|JL I bO I<|ab (cN .here) I<|bn (bD (.o I .nil) I I bV bV an) I fun _ _=>?_)
  refine bH (.of I) (.of I) bO .here an (by rfl) (gK I I) (by rfl) (by rfl) (by rfl) eC (by rfl) ?_;intro v';refine aT (v:=v') (by exact .here) fun gx cx e=>?_;subst e
  (refine bN I I ae<|aq (.of I) (.of I) c6 I I (dG I) (bF I) an<|Jx<|Jj<|Jt<|Jg<|JB I (by omega)<|Jv I<|Jn ?_)
  apply aI (k+1,gx,cx) (by show k+1<=r.sr.length;omega) (by show r.sr.length-(k+1)<r.sr.length-k;omega)
  case hs1=>exact cB
  case ht=>
   show bK _ [row 186 2 (.slice gx (k+1) cx) (k+1) (mw (r.sr.take (k+1))),JP b3 r (.slice gx (k+1) cx) (.z) (.z) (.z),bA b2 (.cells #[.q 0,.q 0,.z,.z,.z,.z] 41 (0,0)),JQ b1 r (.slice a1 r.sr.length eI) (.slice a2 r.de.length dL) (.slice a3 r.ti.length ew) (.slice a4 r.po.length gq)] _;rw [bj];exact .cons (.there .here) (.h1 (.cons bO (.cons bO .nil)))
 obtain rfl:k=r.sr.length:=by omega
 rw [ZN];clear hk aN
 (refine Jr<|JA I<|Jn<|Jq<|Jc I fun aA=>Jp<|Jl<|Jo<|Jt<|Jq<|Jr<|bN I I ae<|JL I c6 I<|JI I<|Jv I<|Jn<|J0 ?_)
 refine aR 90 3 ?_;refine bd (ι:=Nat×Option Addr×Nat) (fun y=>y.1<=r.de.length) (fun y=>[(34,.q (y.1:Nat)),(33,.q r.de.length),(32,.slice a2 r.de.length dL),(3,.p b3),(2,.p b2),(1,.p b1)]) (fun y=>[row 90 3 (.slice y.2.1 y.1 y.2.2) y.1 (j5 (r.de.take y.1)),row 186 2 (.slice g1 r.sr.length oY) r.sr.length (mw r.sr),JP b3 r (.slice g1 r.sr.length oY) (.slice y.2.1 y.1 y.2.2) (.z) (.z),bA b2 (.cells #[.q 0,.q 0,.z,.z,.z,.z] 41 (0,0)),JQ b1 r (.slice a1 r.sr.length eI) (.slice a2 r.de.length dL) (.slice a3 r.ti.length ew) (.slice a4 r.po.length gq)]) (fun y=>r.de.length-y.1) ?_ ?_
 ·apply aJ (0,none,0) (Zi _)
  case hs1=>exact cB
  case ht=>
   exact .h5 .nil
 rintro ⟨k,g2,yg⟩ hk;dsimp only at hk ⊢;by_cases aN:k<r.de.length
 ·have c8:=js (gI aN);have aG:=(jT k _ (fq aN)).2;have bj:=CN aN;have hlen:(j5 (r.de.take k)).length=k*3:=by rw [u6,Zs];omega
  unfold De.cells at aG bj;generalize r.de[k]=x at aG bj
  (refine Jr<|JA I<|Jn<|Jq<|Jd I fun aA=>Jk<|Jq<|J0<|Jr<|ab (gr c8 aA) I<|ab (iD (eO.base aG I)) I<|Jz I I fun _ _=>aq (.of I) (.of I) .here I I (fc I I I) (bF I) an<|Jn<|Jg<|bN I I ae<|JL I c6 I<|ab (cN .here) I<|bn (bD (.o I .nil) I I bV bV an) I fun _ _=>?_)
  refine bH (.of I) (.of I) bO .here an (by rfl) (fc I I I) (by rfl) (by rfl) (by rfl) eC (by rfl) ?_;intro v';refine aT (v:=v') (by exact .here) fun gx cx e=>?_;subst e
  (refine bN I I ae<|aq (.of I) (.of I) dF I I (dG I) (bF I) an<|Jx<|Jj<|Jt<|Jg<|JB I (by omega)<|Jv I<|Jn ?_)
  apply aI (k+1,gx,cx) (by show k+1<=r.de.length;omega) (by show r.de.length-(k+1)<r.de.length-k;omega)
  case hs1=>exact cB
  case ht=>
   show bK _ [row 90 3 (.slice gx (k+1) cx) (k+1) (j5 (r.de.take (k+1))),row 186 2 (.slice g1 r.sr.length oY) r.sr.length (mw r.sr),JP b3 r (.slice g1 r.sr.length oY) (.slice gx (k+1) cx) (.z) (.z),bA b2 (.cells #[.q 0,.q 0,.z,.z,.z,.z] 41 (0,0)),JQ b1 r (.slice a1 r.sr.length eI) (.slice a2 r.de.length dL) (.slice a3 r.ti.length ew) (.slice a4 r.po.length gq)] _;rw [bj];exact .cons (.there .here) (.cons c6 (.h1 (.cons bO (.cons bO .nil))))
 obtain rfl:k=r.de.length:=by omega
 rw [ZN];clear hk aN
 (refine Jr<|JA I<|Jn<|Jq<|Jc I fun aA=>Jp<|Jl<|Jo<|Jt<|Jq<|Jr<|bN I I ae<|JL I dF I<|JI I<|Jv I<|Jn<|J0 ?_)
 refine aR 187 3 ?_;refine bd (ι:=Nat×Option Addr×Nat) (fun y=>y.1<=r.ti.length) (fun y=>[(48,.q (y.1:Nat)),(47,.q r.ti.length),(46,.slice a3 r.ti.length ew),(3,.p b3),(2,.p b2),(1,.p b1)]) (fun y=>[row 187 3 (.slice y.2.1 y.1 y.2.2) y.1 (nN (r.ti.take y.1)),row 90 3 (.slice g2 r.de.length yg) r.de.length (j5 r.de),row 186 2 (.slice g1 r.sr.length oY) r.sr.length (mw r.sr),JP b3 r (.slice g1 r.sr.length oY) (.slice g2 r.de.length yg) (.slice y.2.1 y.1 y.2.2) (.z),bA b2 (.cells #[.q 0,.q 0,.z,.z,.z,.z] 41 (0,0)),JQ b1 r (.slice a1 r.sr.length eI) (.slice a2 r.de.length dL) (.slice a3 r.ti.length ew) (.slice a4 r.po.length gq)]) (fun y=>r.ti.length-y.1) ?_ ?_
 ·apply aJ (0,none,0) (Zi _)
  case hs1=>exact cB
  case ht=>
   exact .h6 .nil
 rintro ⟨k,g3,Hc⟩ hk;dsimp only at hk ⊢;by_cases aN:k<r.ti.length
 ·have c8:=sX (eV aN);have aG:=(qe k _ (ed aN)).2;have bj:=BL aN;have hlen:(nN (r.ti.take k)).length=k*3:=by rw [E8,Zs];omega
  unfold Ti.cells at aG bj;generalize r.ti[k]=x at aG bj
  (refine Jr<|JA I<|Jn<|Jq<|Jd I fun aA=>Jk<|Jq<|J0<|Jr<|ab (gr c8 aA) I<|ab (iD (eO.base aG I)) I<|Jz I I fun _ _=>aq (.of I) (.of I) .here I I (fc I I I) (bF I) an<|Jn<|Jg<|bN I I ae<|JL I dF I<|ab (cN .here) I<|bn (bD (.o I .nil) I I bV bV an) I fun _ _=>?_)
  refine bH (.of I) (.of I) bO .here an (by rfl) (fc I I I) (by rfl) (by rfl) (by rfl) eC (by rfl) ?_;intro v';refine aT (v:=v') (by exact .here) fun gx cx e=>?_;subst e
  (refine bN I I ae<|aq (.of I) (.of I) fx I I (dG I) (bF I) an<|Jx<|Jj<|Jt<|Jg<|JB I (by omega)<|Jv I<|Jn ?_)
  apply aI (k+1,gx,cx) (by show k+1<=r.ti.length;omega) (by show r.ti.length-(k+1)<r.ti.length-k;omega)
  case hs1=>exact cB
  case ht=>
   show bK _ [row 187 3 (.slice gx (k+1) cx) (k+1) (nN (r.ti.take (k+1))),row 90 3 (.slice g2 r.de.length yg) r.de.length (j5 r.de),row 186 2 (.slice g1 r.sr.length oY) r.sr.length (mw r.sr),JP b3 r (.slice g1 r.sr.length oY) (.slice g2 r.de.length yg) (.slice gx (k+1) cx) (.z),bA b2 (.cells #[.q 0,.q 0,.z,.z,.z,.z] 41 (0,0)),JQ b1 r (.slice a1 r.sr.length eI) (.slice a2 r.de.length dL) (.slice a3 r.ti.length ew) (.slice a4 r.po.length gq)] _;rw [bj];exact .cons (.there .here) (.cons c6 (.cons c6 (.h1 (.cons bO (.cons bO .nil)))))
 obtain rfl:k=r.ti.length:=by omega
 rw [ZN];clear hk aN
 (refine Jr<|JA I<|Jn<|Jq<|Jc I fun aA=>Jp<|Jl<|Jo<|Jt<|Jq<|Jr<|bN I I ae<|JL I fx I<|JI I<|Jv I<|Jn<|J0 ?_)
 refine aR 188 3 ?_;refine bd (ι:=Nat×Option Addr×Nat) (fun y=>y.1<=r.po.length) (fun y=>[(62,.q (y.1:Nat)),(61,.q r.po.length),(60,.slice a4 r.po.length gq),(3,.p b3),(2,.p b2),(1,.p b1)]) (fun y=>[row 188 3 (.slice y.2.1 y.1 y.2.2) y.1 (jb (r.po.take y.1)),row 187 3 (.slice g3 r.ti.length Hc) r.ti.length (nN r.ti),row 90 3 (.slice g2 r.de.length yg) r.de.length (j5 r.de),row 186 2 (.slice g1 r.sr.length oY) r.sr.length (mw r.sr),JP b3 r (.slice g1 r.sr.length oY) (.slice g2 r.de.length yg) (.slice g3 r.ti.length Hc) (.slice y.2.1 y.1 y.2.2),bA b2 (.cells #[.q 0,.q 0,.z,.z,.z,.z] 41 (0,0)),JQ b1 r (.slice a1 r.sr.length eI) (.slice a2 r.de.length dL) (.slice a3 r.ti.length ew) (.slice a4 r.po.length gq)]) (fun y=>r.po.length-y.1) ?_ ?_
 ·apply aJ (0,none,0) (Zi _)
  case hs1=>exact cB
  case ht=>
   exact .h7 .nil
 rintro ⟨k,g4,VB⟩ hk;dsimp only at hk ⊢;by_cases aN:k<r.po.length
 ·have c8:=HA (kE aN);have aG:=(AS k _ (iK aN)).2;have bj:=Cj aN;have hlen:(jb (r.po.take k)).length=k*3:=by rw [jz,Zs];omega
  unfold Po.cells at aG bj;generalize r.po[k]=x at aG bj
  (refine Jr<|JA I<|Jn<|Jq<|Jd I fun aA=>Jk<|Jq<|J0<|Jr<|ab (gr c8 aA) I<|ab (iD (eO.base aG I)) I<|Jz I I fun _ _=>aq (.of I) (.of I) .here I I (fc I I I) (bF I) an<|Jn<|Jg<|bN I I ae<|JL I fx I<|ab (cN .here) I<|bn (bD (.o I .nil) I I bV bV an) I fun _ _=>?_)
  refine bH (.of I) (.of I) bO .here an (by rfl) (fc I I I) (by rfl) (by rfl) (by rfl) eC (by rfl) ?_;intro v';refine aT (v:=v') (by exact .here) fun gx cx e=>?_;subst e
  (refine bN I I ae<|aq (.of I) (.of I) qY I I (dG I) (bF I) an<|Jx<|Jj<|Jt<|Jg<|JB I (by omega)<|Jv I<|Jn ?_)
  apply aI (k+1,gx,cx) (by show k+1<=r.po.length;omega) (by show r.po.length-(k+1)<r.po.length-k;omega)
  case hs1=>exact cB
  case ht=>
   show bK _ [row 188 3 (.slice gx (k+1) cx) (k+1) (jb (r.po.take (k+1))),row 187 3 (.slice g3 r.ti.length Hc) r.ti.length (nN r.ti),row 90 3 (.slice g2 r.de.length yg) r.de.length (j5 r.de),row 186 2 (.slice g1 r.sr.length oY) r.sr.length (mw r.sr),JP b3 r (.slice g1 r.sr.length oY) (.slice g2 r.de.length yg) (.slice g3 r.ti.length Hc) (.slice gx (k+1) cx),bA b2 (.cells #[.q 0,.q 0,.z,.z,.z,.z] 41 (0,0)),JQ b1 r (.slice a1 r.sr.length eI) (.slice a2 r.de.length dL) (.slice a3 r.ti.length ew) (.slice a4 r.po.length gq)] _;rw [bj];exact .cons (.there .here) (.cons c6 (.cons c6 (.cons c6 (.h1 (.cons bO (.cons bO .nil))))))
 obtain rfl:k=r.po.length:=by omega
 rw [ZN];clear hk aN
 (refine Jr<|JA I<|Jn<|Jq<|Jc I fun aA=>Jp<|Jl<|Jo<|Jt<|Jr<|ab (cN dF) I<|aq (.of I) (.of I) fx I I (hG I I I I I I) (bF I) an<|Jn<|Je ?_)
 with_reducible first|apply aP|apply aQ
 case he=>exact kd I inferInstance I .here an (by rfl)
 case hR=>
  intro w' az;exact aF (.slice g1 r.sr.length oY,.slice g2 r.de.length yg,.slice g3 r.ti.length Hc,.slice g4 r.po.length VB) trivial (by exact .cons dF (.cons c6 (.cons bO (.cons (.there .here) .nil)))) az I
theorem H4 (h:RR w r s d t p) (cJ:mu r):bB T_ 57 [RA r s d t p] w [] (fun _:Value×Value×Value×Value=>True) (fun x=>RA r x.1 x.2.1 x.2.2.1 x.2.2.2) (fun x=>MV r x):=by
 obtain ⟨h1,h2,h3,h4⟩:=h.one;have GZ:=h.sr;have G7:=h.de;have Cz:=h.ti;have KD:=h.po;obtain ⟨a1,eI,Qe,Ps,rfl,qp,jd,l7,kM⟩:=GZ;obtain ⟨a2,dL,Qd,Pr,rfl,kp,fh,js,jT⟩:=G7;obtain ⟨a3,ew,LH,I4,rfl,mS,gi,sX,qe⟩:=Cz;obtain ⟨a4,gq,VZ,Rf,rfl,zj,mQ,HA,AS⟩:=KD;rw [cy] at *;rw [bZ] at *;rw [bU] at *;rw [cO] at *;unfold maxLen at jd fh gi mQ;obtain ⟨f1,f2,f3,f4⟩:=cJ;unfold RA;refine aV func57 I I ?_
 (refine Jr<|Jy I I fun _ _=>Jz I I fun _ _=>Ji<|bN I I ae<|JL I (.there .here) I<|bN I I ae<|JL I (.there .here) I<|ab (aX (.o I (.o I .nil)) an) I<|Jz I I fun _ _=>aq (.of I) (.of I) .here I I (hG I I I I I I) (bF I) an<|Jn<|Jq<|Jr<|bN I I ae<|JL I bO I<|JI I<|Jv I<|Jn<|J0 ?_)
 rename_i b1 rW b2 tX b3 uY;refine aR 118 2 ?_;refine bd (ι:=Nat×Option Addr×Nat) (fun y=>y.1<=r.sr.length) (fun y=>[(20,.q (y.1:Nat)),(19,.q r.sr.length),(18,.slice a1 r.sr.length eI),(3,.p b3),(2,.p b2),(1,.p b1)]) (fun y=>[row 118 2 (.slice y.2.1 y.1 y.2.2) y.1 (mw (r.sr.take y.1)),JQ b3 r (.slice y.2.1 y.1 y.2.2) (.z) (.z) (.z),bA b2 (.cells #[.q 0,.q 0,.z,.z,.z,.z] 27 (0,0)),JP b1 r (.slice a1 r.sr.length eI) (.slice a2 r.de.length dL) (.slice a3 r.ti.length ew) (.slice a4 r.po.length gq)]) (fun y=>r.sr.length-y.1) ?_ ?_
 ·apply aJ (0,none,0) (Zi _)
  case hs1=>exact cB
  case ht=>
   exact .h4 .nil
 rintro ⟨k,g1,oY⟩ hk;dsimp only at hk ⊢;by_cases aN:k<r.sr.length
 ·have c8:=l7 (gW aN);have aG:=(kM k _ (fG aN)).2;have bj:=BO aN;have hlen:(mw (r.sr.take k)).length=k*2:=by rw [Ff,Zs];omega
  unfold Sr.cells at aG bj;generalize r.sr[k]=x at aG bj
  (refine Jr<|JA I<|Jn<|Jq<|Jd I fun aA=>Jk<|Jq<|J0<|Jr<|ab (gr c8 aA) I<|ab (iD (eO.base aG I)) I<|Jz I I fun _ _=>aq (.of I) (.of I) .here I I (gK I I) (bF I) an<|Jn<|Jg<|bN I I ae<|JL I bO I<|ab (cN .here) I<|bn (bD (.o I .nil) I I bV bV an) I fun _ _=>?_)
  refine bH (.of I) (.of I) bO .here an (by rfl) (gK I I) (by rfl) (by rfl) (by rfl) eC (by rfl) ?_;intro v';refine aT (v:=v') (by exact .here) fun gx cx e=>?_;subst e
  (refine bN I I ae<|aq (.of I) (.of I) c6 I I (dG I) (bF I) an<|Jx<|Jj<|Jt<|Jg<|JB I (by omega)<|Jv I<|Jn ?_)
  apply aI (k+1,gx,cx) (by show k+1<=r.sr.length;omega) (by show r.sr.length-(k+1)<r.sr.length-k;omega)
  case hs1=>exact cB
  case ht=>
   show bK _ [row 118 2 (.slice gx (k+1) cx) (k+1) (mw (r.sr.take (k+1))),JQ b3 r (.slice gx (k+1) cx) (.z) (.z) (.z),bA b2 (.cells #[.q 0,.q 0,.z,.z,.z,.z] 27 (0,0)),JP b1 r (.slice a1 r.sr.length eI) (.slice a2 r.de.length dL) (.slice a3 r.ti.length ew) (.slice a4 r.po.length gq)] _;rw [bj];exact .cons (.there .here) (.h1 (.cons bO (.cons bO .nil)))
 obtain rfl:k=r.sr.length:=by omega
 rw [ZN];clear hk aN
 (refine Jr<|JA I<|Jn<|Jq<|Jc I fun aA=>Jp<|Jl<|Jo<|Jt<|Jq<|Jr<|bN I I ae<|JL I c6 I<|JI I<|Jv I<|Jn<|J0 ?_)
 refine aR 88 3 ?_;refine bd (ι:=Nat×Option Addr×Nat) (fun y=>y.1<=r.de.length) (fun y=>[(34,.q (y.1:Nat)),(33,.q r.de.length),(32,.slice a2 r.de.length dL),(3,.p b3),(2,.p b2),(1,.p b1)]) (fun y=>[row 88 3 (.slice y.2.1 y.1 y.2.2) y.1 (j5 (r.de.take y.1)),row 118 2 (.slice g1 r.sr.length oY) r.sr.length (mw r.sr),JQ b3 r (.slice g1 r.sr.length oY) (.slice y.2.1 y.1 y.2.2) (.z) (.z),bA b2 (.cells #[.q 0,.q 0,.z,.z,.z,.z] 27 (0,0)),JP b1 r (.slice a1 r.sr.length eI) (.slice a2 r.de.length dL) (.slice a3 r.ti.length ew) (.slice a4 r.po.length gq)]) (fun y=>r.de.length-y.1) ?_ ?_
 ·apply aJ (0,none,0) (Zi _)
  case hs1=>exact cB
  case ht=>
   exact .h5 .nil
 rintro ⟨k,g2,yg⟩ hk;dsimp only at hk ⊢;by_cases aN:k<r.de.length
 ·have c8:=js (gI aN);have aG:=(jT k _ (fq aN)).2;have bj:=CN aN;have hlen:(j5 (r.de.take k)).length=k*3:=by rw [u6,Zs];omega
  unfold De.cells at aG bj;generalize r.de[k]=x at aG bj
  (refine Jr<|JA I<|Jn<|Jq<|Jd I fun aA=>Jk<|Jq<|J0<|Jr<|ab (gr c8 aA) I<|ab (iD (eO.base aG I)) I<|Jz I I fun _ _=>aq (.of I) (.of I) .here I I (fc I I I) (bF I) an<|Jn<|Jg<|bN I I ae<|JL I c6 I<|ab (cN .here) I<|bn (bD (.o I .nil) I I bV bV an) I fun _ _=>?_)
  refine bH (.of I) (.of I) bO .here an (by rfl) (fc I I I) (by rfl) (by rfl) (by rfl) eC (by rfl) ?_;intro v';refine aT (v:=v') (by exact .here) fun gx cx e=>?_;subst e
  (refine bN I I ae<|aq (.of I) (.of I) dF I I (dG I) (bF I) an<|Jx<|Jj<|Jt<|Jg<|JB I (by omega)<|Jv I<|Jn ?_)
  apply aI (k+1,gx,cx) (by show k+1<=r.de.length;omega) (by show r.de.length-(k+1)<r.de.length-k;omega)
  case hs1=>exact cB
  case ht=>
   show bK _ [row 88 3 (.slice gx (k+1) cx) (k+1) (j5 (r.de.take (k+1))),row 118 2 (.slice g1 r.sr.length oY) r.sr.length (mw r.sr),JQ b3 r (.slice g1 r.sr.length oY) (.slice gx (k+1) cx) (.z) (.z),bA b2 (.cells #[.q 0,.q 0,.z,.z,.z,.z] 27 (0,0)),JP b1 r (.slice a1 r.sr.length eI) (.slice a2 r.de.length dL) (.slice a3 r.ti.length ew) (.slice a4 r.po.length gq)] _;rw [bj];exact .cons (.there .here) (.cons c6 (.h1 (.cons bO (.cons bO .nil))))
 obtain rfl:k=r.de.length:=by omega
 rw [ZN];clear hk aN
 (refine Jr<|JA I<|Jn<|Jq<|Jc I fun aA=>Jp<|Jl<|Jo<|Jt<|Jq<|Jr<|bN I I ae<|JL I dF I<|JI I<|Jv I<|Jn<|J0 ?_)
 refine aR 122 3 ?_;refine bd (ι:=Nat×Option Addr×Nat) (fun y=>y.1<=r.ti.length) (fun y=>[(48,.q (y.1:Nat)),(47,.q r.ti.length),(46,.slice a3 r.ti.length ew),(3,.p b3),(2,.p b2),(1,.p b1)]) (fun y=>[row 122 3 (.slice y.2.1 y.1 y.2.2) y.1 (nN (r.ti.take y.1)),row 88 3 (.slice g2 r.de.length yg) r.de.length (j5 r.de),row 118 2 (.slice g1 r.sr.length oY) r.sr.length (mw r.sr),JQ b3 r (.slice g1 r.sr.length oY) (.slice g2 r.de.length yg) (.slice y.2.1 y.1 y.2.2) (.z),bA b2 (.cells #[.q 0,.q 0,.z,.z,.z,.z] 27 (0,0)),JP b1 r (.slice a1 r.sr.length eI) (.slice a2 r.de.length dL) (.slice a3 r.ti.length ew) (.slice a4 r.po.length gq)]) (fun y=>r.ti.length-y.1) ?_ ?_
 ·apply aJ (0,none,0) (Zi _)
  case hs1=>exact cB
  case ht=>
   exact .h6 .nil
 rintro ⟨k,g3,Hc⟩ hk;dsimp only at hk ⊢;by_cases aN:k<r.ti.length
 ·have c8:=sX (eV aN);have aG:=(qe k _ (ed aN)).2;have bj:=BL aN;have hlen:(nN (r.ti.take k)).length=k*3:=by rw [E8,Zs];omega
  unfold Ti.cells at aG bj;generalize r.ti[k]=x at aG bj
  (refine Jr<|JA I<|Jn<|Jq<|Jd I fun aA=>Jk<|Jq<|J0<|Jr<|ab (gr c8 aA) I<|ab (iD (eO.base aG I)) I<|Jz I I fun _ _=>aq (.of I) (.of I) .here I I (fc I I I) (bF I) an<|Jn<|Jg<|bN I I ae<|JL I dF I<|ab (cN .here) I<|bn (bD (.o I .nil) I I bV bV an) I fun _ _=>?_)
  refine bH (.of I) (.of I) bO .here an (by rfl) (fc I I I) (by rfl) (by rfl) (by rfl) eC (by rfl) ?_;intro v';refine aT (v:=v') (by exact .here) fun gx cx e=>?_;subst e
  (refine bN I I ae<|aq (.of I) (.of I) fx I I (dG I) (bF I) an<|Jx<|Jj<|Jt<|Jg<|JB I (by omega)<|Jv I<|Jn ?_)
  apply aI (k+1,gx,cx) (by show k+1<=r.ti.length;omega) (by show r.ti.length-(k+1)<r.ti.length-k;omega)
  case hs1=>exact cB
  case ht=>
   show bK _ [row 122 3 (.slice gx (k+1) cx) (k+1) (nN (r.ti.take (k+1))),row 88 3 (.slice g2 r.de.length yg) r.de.length (j5 r.de),row 118 2 (.slice g1 r.sr.length oY) r.sr.length (mw r.sr),JQ b3 r (.slice g1 r.sr.length oY) (.slice g2 r.de.length yg) (.slice gx (k+1) cx) (.z),bA b2 (.cells #[.q 0,.q 0,.z,.z,.z,.z] 27 (0,0)),JP b1 r (.slice a1 r.sr.length eI) (.slice a2 r.de.length dL) (.slice a3 r.ti.length ew) (.slice a4 r.po.length gq)] _;rw [bj];exact .cons (.there .here) (.cons c6 (.cons c6 (.h1 (.cons bO (.cons bO .nil)))))
 obtain rfl:k=r.ti.length:=by omega
 rw [ZN];clear hk aN
 (refine Jr<|JA I<|Jn<|Jq<|Jc I fun aA=>Jp<|Jl<|Jo<|Jt<|Jq<|Jr<|bN I I ae<|JL I fx I<|JI I<|Jv I<|Jn<|J0 ?_)
 refine aR 180 3 ?_;refine bd (ι:=Nat×Option Addr×Nat) (fun y=>y.1<=r.po.length) (fun y=>[(62,.q (y.1:Nat)),(61,.q r.po.length),(60,.slice a4 r.po.length gq),(3,.p b3),(2,.p b2),(1,.p b1)]) (fun y=>[row 180 3 (.slice y.2.1 y.1 y.2.2) y.1 (jb (r.po.take y.1)),row 122 3 (.slice g3 r.ti.length Hc) r.ti.length (nN r.ti),row 88 3 (.slice g2 r.de.length yg) r.de.length (j5 r.de),row 118 2 (.slice g1 r.sr.length oY) r.sr.length (mw r.sr),JQ b3 r (.slice g1 r.sr.length oY) (.slice g2 r.de.length yg) (.slice g3 r.ti.length Hc) (.slice y.2.1 y.1 y.2.2),bA b2 (.cells #[.q 0,.q 0,.z,.z,.z,.z] 27 (0,0)),JP b1 r (.slice a1 r.sr.length eI) (.slice a2 r.de.length dL) (.slice a3 r.ti.length ew) (.slice a4 r.po.length gq)]) (fun y=>r.po.length-y.1) ?_ ?_
 ·apply aJ (0,none,0) (Zi _)
  case hs1=>exact cB
  case ht=>
   exact .h7 .nil
 rintro ⟨k,g4,VB⟩ hk;dsimp only at hk ⊢;by_cases aN:k<r.po.length
 ·have c8:=HA (kE aN);have aG:=(AS k _ (iK aN)).2;have bj:=Cj aN;have hlen:(jb (r.po.take k)).length=k*3:=by rw [jz,Zs];omega
  unfold Po.cells at aG bj;generalize r.po[k]=x at aG bj
  (refine Jr<|JA I<|Jn<|Jq<|Jd I fun aA=>Jk<|Jq<|J0<|Jr<|ab (gr c8 aA) I<|ab (iD (eO.base aG I)) I<|Jz I I fun _ _=>aq (.of I) (.of I) .here I I (fc I I I) (bF I) an<|Jn<|Jg<|bN I I ae<|JL I fx I<|ab (cN .here) I<|bn (bD (.o I .nil) I I bV bV an) I fun _ _=>?_)
  refine bH (.of I) (.of I) bO .here an (by rfl) (fc I I I) (by rfl) (by rfl) (by rfl) eC (by rfl) ?_;intro v';refine aT (v:=v') (by exact .here) fun gx cx e=>?_;subst e
  (refine bN I I ae<|aq (.of I) (.of I) qY I I (dG I) (bF I) an<|Jx<|Jj<|Jt<|Jg<|JB I (by omega)<|Jv I<|Jn ?_)
  apply aI (k+1,gx,cx) (by show k+1<=r.po.length;omega) (by show r.po.length-(k+1)<r.po.length-k;omega)
  case hs1=>exact cB
  case ht=>
   show bK _ [row 180 3 (.slice gx (k+1) cx) (k+1) (jb (r.po.take (k+1))),row 122 3 (.slice g3 r.ti.length Hc) r.ti.length (nN r.ti),row 88 3 (.slice g2 r.de.length yg) r.de.length (j5 r.de),row 118 2 (.slice g1 r.sr.length oY) r.sr.length (mw r.sr),JQ b3 r (.slice g1 r.sr.length oY) (.slice g2 r.de.length yg) (.slice g3 r.ti.length Hc) (.slice gx (k+1) cx),bA b2 (.cells #[.q 0,.q 0,.z,.z,.z,.z] 27 (0,0)),JP b1 r (.slice a1 r.sr.length eI) (.slice a2 r.de.length dL) (.slice a3 r.ti.length ew) (.slice a4 r.po.length gq)] _;rw [bj];exact .cons (.there .here) (.cons c6 (.cons c6 (.cons c6 (.h1 (.cons bO (.cons bO .nil))))))
 obtain rfl:k=r.po.length:=by omega
 rw [ZN];clear hk aN
 (refine Jr<|JA I<|Jn<|Jq<|Jc I fun aA=>Jp<|Jl<|Jo<|Jt<|Jr<|ab (cN dF) I<|aq (.of I) (.of I) fx I I (hG I I I I I I) (bF I) an<|Jn<|Je ?_)
 with_reducible first|apply aP|apply aQ
 case he=>exact kd I inferInstance I .here an (by rfl)
 case hR=>
  intro w' az;exact aF (.slice g1 r.sr.length oY,.slice g2 r.de.length yg,.slice g3 r.ti.length Hc,.slice g4 r.po.length VB) trivial (by exact .cons dF (.cons c6 (.cons bO (.cons (.there .here) .nil)))) az I
theorem j4 {α:Type} {l m:List α} (hl:k<l.length) (hm:k<m.length) (h:l[k]=m[k]):(l.drop k=m.drop k)↔l.drop (k+1)=m.drop (k+1):=by
 rw [Zv hl,Zv hm,h];exact ⟨fun e=>(List.cons.inj e).2,fun e=>by rw [e]⟩
theorem Fh {l m:List ByteArray} (h1:Rd w v1 1 (ie l)) (h2:Rd w v2 1 (ie m)) :
  ao T_ 58 [v1,v2] w (.bool (decide (l=m))):=by
 obtain ⟨a1,VS,b1,o1,rfl,qp,jd,l7,kM⟩:=h1;obtain ⟨a2,l9,b2,o2,rfl,kp,fh,js,jT⟩:=h2;rw [cu] at *;rw [cu] at *;unfold maxLen at jd fh;refine ak func58 I I ?_
 (refine Jr<|Ja I<|Jn<|Jq<|Jr<|Jv I<|JI I<|Jv I<|JI I<|JD I<|Jn<|gR I (fun aA=>?_) fun aA=>?_;refine Jr<|Ja I<|Jn<|Ju<|JT ?_;rotate_left;refine Jk<|Jq<|Jr<|Ja I<|Jn<|J0 ?_;rotate_right)
 ·rw [decide_eq_false fun e=>aA (by rw [e])]
 have UU:l.length=m.length:=by omega
 refine bd (ι:=Nat) (fun k=>k<=l.length/\(l=m↔l.drop k=m.drop k)) (fun k=>[(5,.q (k:Int)),(0,.slice a1 l.length VS),(1,.slice a2 m.length l9)]) (fun _=>[]) (fun k=>l.length-k) ?_ ?_
 ·apply aJ (0:Nat) ⟨Zi _,Iff.rfl⟩
  case hs1=>exact cB
  case ht=>(try simp only [Ze,Zf,Za]);exact .nil
 rintro k ⟨hk,hf⟩;by_cases aN:k<l.length
 ·have fS:k<m.length:=by omega
  have G9:=l7 (lk aN);have rX:=js (lk fS);have lr:=(kM k _ (jf aN)).2;have eF:=(jT k _ (jf fS)).2;have hd:=j4 (l:=l) (m:=m) aN fS;have fF:l[k]≠m[k]->l.drop k≠m.drop k:=fun hne e=>hne (by
   rw [Zv aN,Zv fS] at e;exact (List.cons.inj e).1)
  generalize l[k]=x at lr hd fF;generalize m[k]=y at eF hd fF;have c1:w.cell? ⟨b1,o1+k*1,none⟩=some (.string x):=lr 0 _ I;have c2:w.cell? ⟨b2,o2+k*1,none⟩=some (.string y):=eF 0 _ I;refine Jq<|Jr<|Jv I<|Jv I<|JI I<|JA I<|Jn<|Jd I fun aA=>Jk<|Jq<|J0<|Jq ?_
  with_reducible refine eP 9 (by kernel_rfl) ?_
  (refine mZ I I<|mZ I I<|aM (gr G9 aA) I<|aM (ag (.of I) (At.base c1 I)) I<|mZ I I<|mZ I I<|aM (aC (.of I) (.of I) rX (by omega) (by omega) bu) I<|aM (ag (.of I) (At.base c2 I)) I<|aM (jv (.of I) (.of I)) I ?_)
  with_reducible refine eU ?_
  (refine Jn<|gR I (fun aA=>?_) fun aA=>?_;refine Jr<|Ja I<|Jn<|Je<|Jm<|Jh<|Jh<|Jm<|Jh<|JT ?_;rotate_left;refine Jw<|Jj<|Jt<|Jg<|Jv I<|JB I (by omega)<|Ja I<|Jn ?_;rotate_right)
  ·have hne:x≠y:=aA;rw [decide_eq_false fun e=>fF hne (hf.1 e)]
  ·have he:x=y:=Zr.1 aA;clear aA;apply aI (k+1) ⟨(show k+1<=l.length from aN),hf.trans (hd he)⟩ (show l.length-(k+1)<l.length-k by omega)
   case hs1=>exact cB
   case ht=>(try simp only [Ze,Zf,Za]);exact .nil
 ·obtain rfl:k=l.length:=by omega
  have:l=m:=hf.2 (by rw [Z8,UU,Z8]);refine Jq<|Jr<|Jv I<|Jv I<|JI I<|JA I<|Jn<|Jc I fun aA=>Jp<|Jl<|Jo<|Jt<|Jr<|Ja I<|Jn<|Je<|JT ?_;rw [decide_eq_true this]
theorem Nh {l m:List Int} (h1:Rd w v1 1 (ints l)) (h2:Rd w v2 1 (ints m)) :
  ao T_ 109 [v1,v2] w (.bool (decide (l=m))):=by
 obtain ⟨a1,VS,b1,o1,rfl,qp,jd,l7,kM⟩:=h1;obtain ⟨a2,l9,b2,o2,rfl,kp,fh,js,jT⟩:=h2;rw [cU] at *;rw [cU] at *;unfold maxLen at jd fh;refine ak func109 I I ?_
 (refine Jr<|Ja I<|Jn<|Jq<|Jr<|Jv I<|JI I<|Jv I<|JI I<|JD I<|Jn<|gR I (fun aA=>?_) fun aA=>?_;refine Jr<|Ja I<|Jn<|Ju<|JT ?_;rotate_left;refine Jk<|Jq<|Jr<|Ja I<|Jn<|J0 ?_;rotate_right)
 ·rw [decide_eq_false fun e=>aA (by rw [e])]
 have UU:l.length=m.length:=by omega
 refine bd (ι:=Nat) (fun k=>k<=l.length/\(l=m↔l.drop k=m.drop k)) (fun k=>[(5,.q (k:Int)),(0,.slice a1 l.length VS),(1,.slice a2 m.length l9)]) (fun _=>[]) (fun k=>l.length-k) ?_ ?_
 ·apply aJ (0:Nat) ⟨Zi _,Iff.rfl⟩
  case hs1=>exact cB
  case ht=>(try simp only [Ze,Zf,Za]);exact .nil
 rintro k ⟨hk,hf⟩;by_cases aN:k<l.length
 ·have fS:k<m.length:=by omega
  have G9:=l7 (jG aN);have rX:=js (jG fS);have lr:=(kM k _ (iz aN)).2;have eF:=(jT k _ (iz fS)).2;have hd:=j4 (l:=l) (m:=m) aN fS;have fF:l[k]≠m[k]->l.drop k≠m.drop k:=fun hne e=>hne (by
   rw [Zv aN,Zv fS] at e;exact (List.cons.inj e).1)
  generalize l[k]=x at lr hd fF;generalize m[k]=y at eF hd fF;have c1:w.cell? ⟨b1,o1+k*1,none⟩=some (.q x):=lr 0 _ I;have c2:w.cell? ⟨b2,o2+k*1,none⟩=some (.q y):=eF 0 _ I;refine Jq<|Jr<|Jv I<|Jv I<|JI I<|JA I<|Jn<|Jd I fun aA=>Jk<|Jq<|J0<|Jq ?_
  with_reducible refine eP 9 (by kernel_rfl) ?_
  (refine mZ I I<|mZ I I<|aM (gr G9 aA) I<|aM (ag (.of I) (At.base c1 I)) I<|mZ I I<|mZ I I<|aM (aC (.of I) (.of I) rX (by omega) (by omega) bu) I<|aM (ag (.of I) (At.base c2 I)) I<|aM (eE (.of I) (.of I)) I ?_)
  with_reducible refine eU ?_
  (refine Jn<|gR I (fun aA=>?_) fun aA=>?_;refine Jr<|Ja I<|Jn<|Je<|Jm<|Jh<|Jh<|Jm<|Jh<|JT ?_;rotate_left;refine Jw<|Jj<|Jt<|Jg<|Jv I<|JB I (by omega)<|Ja I<|Jn ?_;rotate_right)
  ·have hne:x≠y:=aA;rw [decide_eq_false fun e=>fF hne (hf.1 e)]
  ·have he:x=y:=Zr.1 aA;clear aA;apply aI (k+1) ⟨(show k+1<=l.length from aN),hf.trans (hd he)⟩ (show l.length-(k+1)<l.length-k by omega)
   case hs1=>exact cB
   case ht=>(try simp only [Ze,Zf,Za]);exact .nil
 ·obtain rfl:k=l.length:=by omega
  have:l=m:=hf.2 (by rw [Z8,UU,Z8]);refine Jq<|Jr<|Jv I<|Jv I<|JI I<|JA I<|Jn<|Jc I fun aA=>Jp<|Jl<|Jo<|Jt<|Jr<|Ja I<|Jn<|Je<|JT ?_;rw [decide_eq_true this]
theorem zH (h:Rd w lv 1 (ie l)) (hl:l.length<=1000000) :
  bB T_ 72 [lv] w [] (fun _:Value=>True) id (fun v=>[row 9 1 v l.length (aO l)]):=by
 refine aV func72 I I ?_
 (refine Jr<|Ja I<|Ji<|bn (aB .nil I I I I) I fun _ _=>Jv I ?_)
 rename_i bq lN;refine bR (g:=bq) (E:=9) (ys:=[]) 0 1 (by exact .here) I I I ?_
 skip
 with_reducible apply eK
 case hx=>exact Is.of I
 case hy=>exact Is.of I
 case ht=>exact .here
 case hsrc=>exact fun w' az=>h.keeps az.keeps
 case h1=>exact zW l
 case hz=>exact I
 case hsz=>exact I
 case hb0=>exact I
 case hb=>rw [cu];omega
 case hd=>rfl
 intro v';rw [cu,ZE,Za,<- q6];refine Ja I<|Jn<|Je ?_
 with_reducible first|apply aP|apply aQ
 case he=>exact dS I I
 case hR=>
  intro w' az;exact aF v' trivial (by exact .h1 .nil) az I
theorem NW {l:List Int} (h:Rd w lv 1 (ints l)) (hl:l.length<=1000000) :
  bB T_ 38 [lv] w [] (fun _:Value=>True) id (fun v=>[row 3 1 v l.length (ints l).flatten]):=by
 refine aV func38 I I ?_
 (refine Jr<|Ja I<|Ji<|bn (aB .nil I I I I) I fun _ _=>Jv I ?_)
 rename_i bq lN;refine bR (g:=bq) (E:=3) (ys:=[]) 0 1 (by exact .here) I I I ?_
 skip
 with_reducible apply eK
 case hx=>exact Is.of I
 case hy=>exact Is.of I
 case ht=>exact .here
 case hsrc=>exact fun w' az=>h.keeps az.keeps
 case h1=>exact Cu l
 case hz=>exact I
 case hsz=>exact I
 case hb0=>exact I
 case hb=>rw [cU];omega
 case hd=>rfl
 intro v';rw [cU,ZE,Za];refine Ja I<|Jn<|Je ?_
 with_reducible first|apply aP|apply aQ
 case he=>exact dS I I
 case hR=>
  intro w' az;exact aF v' trivial (by exact .h1 .nil) az I
theorem TS {r q:Ro}:r=q↔(((((r.lv=q.lv/\r.ma=q.ma)/\r.sr=q.sr)/\r.de=q.de)/\r.ti=q.ti)/\r.po=q.po):=by
 cases r;cases q;simp [and_assoc]
theorem S8 {r q:Ro} {s d t p s' d' t' p':Value} (h:RR w r s d t p) (h':RR w q s' d' t' p'):ao T_ 84 [RA r s d t p,RA q s' d' t' p'] w (.bool (decide (r=q))):=by
 obtain ⟨h1,h2,h3,h4⟩:=h.one;have g1:=Rd.one h'.sr;have g2:=Rd.one h'.de;have g3:=Rd.one h'.ti;have g4:=Rd.one h'.po;have GZ:=h.sr;have G7:=h.de;have Cz:=h.ti;have KD:=h.po;have gs_:=h'.sr;have gd_:=h'.de;have gt_:=h'.ti;have gp_:=h'.po;obtain ⟨a1,eI,Qe,Ps,rfl,qp,jd,l7,kM⟩:=GZ;obtain ⟨x1,ME,xs1,xo1,rfl,abI,Vz,ga1,oY⟩:=gs_;obtain ⟨a2,dL,Qd,Pr,rfl,kp,fh,js,jT⟩:=G7;obtain ⟨x2,MD,xs2,xo2,rfl,abH,Vw,ga2,yg⟩:=gd_;obtain ⟨a3,ew,LH,I4,rfl,mS,gi,sX,qe⟩:=Cz;obtain ⟨x3,MC,xs3,xo3,rfl,abG,Vv,ga3,Hc⟩:=gt_;obtain ⟨a4,gq,VZ,Rf,rfl,zj,mQ,HA,AS⟩:=KD;obtain ⟨x4,MB,xs4,xo4,rfl,abF,Vu,ga4,VB⟩:=gp_;rw [cy] at *;rw [cy] at *;rw [bZ] at *;rw [bZ] at *;rw [bU] at *;rw [bU] at *;rw [cO] at *;rw [cO] at *;unfold maxLen at jd fh gi mQ Vz Vw Vv Vu;unfold RA;refine ak func84 I I ?_
 (refine Jr<|Jy I I fun _ _=>Jy I I fun _ _=>Ja I<|Jn<|Jq<|Jr<|bN I I ae<|JL I (.there .here) I<|bN I I ae<|JL I .here I<|JD I<|Jv I<|au I I (fun hg bG=>(ai (.of I) ae)) I<|au I I (fun hg bG=>(ag (.bX hg I) (At.lit (.there .here) I))) I<|au I I (fun hg bG=>(ai (.of I) ae)) I<|au I I (fun hg bG=>(ag (.bX hg I) (At.lit .here I))) I<|au I I (fun hg bG=>(eE (.bX hg I) (.bX hg I))) I<|ab (bE (.of I) I) I<|Jv I<|au I I (fun hg bG=>(ai (.of I) ae)) I<|au I I (fun hg bG=>(ag (.bX hg I) (At.lit (.there .here) I))) I<|au I I (fun hg bG=>(bz (.bX hg I))) I<|au I I (fun hg bG=>(ai (.of I) ae)) I<|au I I (fun hg bG=>(ag (.bX hg I) (At.lit .here I))) I<|au I I (fun hg bG=>(bz (.bX hg I))) I<|au I I (fun hg bG=>(eE (.bX hg I) (.bX hg I))) I<|ab (bE (.of I) I) I<|Jv I<|au I I (fun hg bG=>(ai (.of I) ae)) I<|au I I (fun hg bG=>(ag (.bX hg I) (At.lit (.there .here) I))) I<|au I I (fun hg bG=>(bz (.bX hg I))) I<|au I I (fun hg bG=>(ai (.of I) ae)) I<|au I I (fun hg bG=>(ag (.bX hg I) (At.lit .here I))) I<|au I I (fun hg bG=>(bz (.bX hg I))) I<|au I I (fun hg bG=>(eE (.bX hg I) (.bX hg I))) I<|ab (bE (.of I) I) I<|Jv I<|au I I (fun hg bG=>(ai (.of I) ae)) I<|au I I (fun hg bG=>(ag (.bX hg I) (At.lit (.there .here) I))) I<|au I I (fun hg bG=>(bz (.bX hg I))) I<|au I I (fun hg bG=>(ai (.of I) ae)) I<|au I I (fun hg bG=>(ag (.bX hg I) (At.lit .here I))) I<|au I I (fun hg bG=>(bz (.bX hg I))) I<|au I I (fun hg bG=>(eE (.bX hg I) (.bX hg I))) I<|ab (bE (.of I) I) I<|Jv I<|au I I (fun hg bG=>(ai (.of I) ae)) I<|au I I (fun hg bG=>(ag (.bX hg I) (At.lit (.there .here) I))) I<|au I I (fun hg bG=>(bz (.bX hg I))) I<|au I I (fun hg bG=>(ai (.of I) ae)) I<|au I I (fun hg bG=>(ag (.bX hg I) (At.lit .here I))) I<|au I I (fun hg bG=>(bz (.bX hg I))) I<|au I I (fun hg bG=>(eE (.bX hg I) (.bX hg I))) I<|ab (bE (.of I) I) I<|Jn<|oq I (fun aA=>?_) fun aA=>?_;refine Jr<|Ja I<|Jn<|Ju<|JT ?_;rotate_left;refine Jk<|Jq<|Jr<|Ja I<|Jn<|J0 ?_;rotate_right)
 ·rw [decide_eq_false fun e=>by subst e;simp at aA]
 simp only [not_or,ne_eq,Zr] at aA;obtain ⟨⟨⟨⟨⟨e1,e2⟩,e3⟩,e4⟩,e5⟩,e6⟩:=aA;rename_i b1 rW b2 tX;refine bd (ι:=Nat) (fun k=>k<=r.sr.length/\(r.sr=q.sr↔r.sr.drop k=q.sr.drop k)) (fun k=>[(5,.int .i64 (k:Nat)),(3,.pointer (some ⟨b2,0,none⟩)),(2,.pointer (some ⟨b1,0,none⟩))]) (fun _=>[bA b2 (.cells #[.int .i64 q.lv,.int .i64 q.ma,.slice x1 q.sr.length ME,.slice x2 q.de.length MD,.slice x3 q.ti.length MC,.slice x4 q.po.length MB] 27 (0,0)),JQ b1 r (.slice a1 r.sr.length eI) (.slice a2 r.de.length dL) (.slice a3 r.ti.length ew) (.slice a4 r.po.length gq)]) (fun k=>r.sr.length-k) ?_ ?_
 ·apply aJ (0:Nat) ⟨Zi _,Iff.rfl⟩
  case hs1=>exact cB
  case ht=>
   exact .h2 .nil
 rintro k ⟨hk,hf⟩;have el:r.sr.length=q.sr.length:=by omega
 by_cases aN:k<r.sr.length
 ·have fS:k<q.sr.length:=by omega
  have c8:=l7 (gW aN);have SE:=ga1 (gW fS);have aG:=(kM k _ (fG aN)).2;have lu:=(oY k _ (fG fS)).2;have hd:=j4 (l:=r.sr) (m:=q.sr) aN fS;have fF:r.sr[k]≠q.sr[k]->r.sr.drop k≠q.sr.drop k:=fun hne e=>hne (by
   rw [Zv aN,Zv fS] at e;exact (List.cons.inj e).1)
  generalize r.sr[k]=x at aG hd fF;generalize q.sr[k]=y at lu hd fF;unfold Sr.cells at aG lu
  (refine Jq<|Jr<|Jv I<|bN I I ae<|JL I (.there .here) I<|JI I<|JA I<|Jn<|Jd I fun aA=>Jk<|Jq<|J0<|Jq ?_)
  with_reducible refine eP 10 (by kernel_rfl) ?_
  (refine pZ I I ae<|aM (ic (.there .here)) I<|mZ I I<|aM (gr c8 aA) I<|aM (iD (eO.base aG I)) I<|pZ I I ae<|aM (ic .here) I<|mZ I I<|aM (aC (.of I) (.of I) SE (by omega) (by omega) bu) I<|aM (iD (eO.base lu I)) I ?_)
  with_reducible refine eU ?_
  (refine ab (uL (.of I) (.of I) (fD (ka lZ)) I) I<|Jn<|oq I (fun aA=>?_) fun aA=>?_;refine Jr<|Ja I<|Jn<|Je<|Jm<|Jh<|Jh<|Jm<|Jh<|JT ?_;rotate_left;refine Jw<|Jj<|Jt<|Jg<|Jv I<|JB I (by omega)<|Ja I<|Jn ?_;rotate_right)
  ·have hne:x≠y:=by
    intro e;subst e;simp at aA
   rw [decide_eq_false fun e=>fF hne (hf.1 (by rw [e]))]
  ·have he:x=y:=by
    obtain ⟨q1,q2,_⟩:=aA;cases x;cases y;dsimp only at q1 q2;subst q1;subst q2
    rfl
   clear aA;apply aI (k+1) ⟨(show k+1<=r.sr.length from aN),hf.trans (hd he)⟩ (show r.sr.length-(k+1)<r.sr.length-k by omega)
   case hs1=>exact cB
   case ht=>
    exact .h2 .nil
 have z1:r.sr=q.sr:=by
  obtain rfl:k=r.sr.length:=by omega
  exact hf.2 (by rw [Z8,el,Z8])
 obtain rfl:k=r.sr.length:=by omega
 clear hk hf aN
 (refine Jq<|Jr<|Jv I<|bN I I ae<|JL I (.there .here) I<|JI I<|JA I<|Jn<|Jc I fun aA=>Jp<|Jl<|Jo<|Jt<|Jq<|Jr<|Ja I<|Jn<|J0 ?_)
 refine bd (ι:=Nat) (fun k=>k<=r.de.length/\(r.de=q.de↔r.de.drop k=q.de.drop k)) (fun k=>[(6,.q (k:Nat)),(3,.p b2),(2,.p b1)]) (fun _=>[bA b2 (.cells #[.q q.lv,.q q.ma,.slice x1 q.sr.length ME,.slice x2 q.de.length MD,.slice x3 q.ti.length MC,.slice x4 q.po.length MB] 27 (0,0)),JQ b1 r (.slice a1 r.sr.length eI) (.slice a2 r.de.length dL) (.slice a3 r.ti.length ew) (.slice a4 r.po.length gq)]) (fun k=>r.de.length-k) ?_ ?_
 ·apply aJ (0:Nat) ⟨Zi _,Iff.rfl⟩
  case hs1=>exact cB
  case ht=>
   exact .h2 .nil
 rintro k ⟨hk,hf⟩;have el:r.de.length=q.de.length:=by omega
 by_cases aN:k<r.de.length
 ·have fS:k<q.de.length:=by omega
  have c8:=js (gI aN);have SE:=ga2 (gI fS);have aG:=(jT k _ (fq aN)).2;have lu:=(yg k _ (fq fS)).2;have hd:=j4 (l:=r.de) (m:=q.de) aN fS;have fF:r.de[k]≠q.de[k]->r.de.drop k≠q.de.drop k:=fun hne e=>hne (by
   rw [Zv aN,Zv fS] at e;exact (List.cons.inj e).1)
  generalize r.de[k]=x at aG hd fF;generalize q.de[k]=y at lu hd fF;unfold De.cells at aG lu
  (refine Jq<|Jr<|Jv I<|bN I I ae<|JL I (.there .here) I<|JI I<|JA I<|Jn<|Jd I fun aA=>Jk<|Jq<|J0<|Jq ?_)
  with_reducible refine eP 10 (by kernel_rfl) ?_
  (refine pZ I I ae<|aM (ic (.there .here)) I<|mZ I I<|aM (gr c8 aA) I<|aM (iD (eO.base aG I)) I<|pZ I I ae<|aM (ic .here) I<|mZ I I<|aM (aC (.of I) (.of I) SE (by omega) (by omega) bu) I<|aM (iD (eO.base lu I)) I ?_)
  with_reducible refine eU ?_
  (refine ab (uL (.of I) (.of I) (fD (ka (Js lZ))) I) I<|Jn<|oq I (fun aA=>?_) fun aA=>?_;refine Jr<|Ja I<|Jn<|Je<|Jm<|Jh<|Jh<|Jm<|Jh<|JT ?_;rotate_left;refine Jw<|Jj<|Jt<|Jg<|Jv I<|JB I (by omega)<|Ja I<|Jn ?_;rotate_right)
  ·have hne:x≠y:=by
    intro e;subst e;simp at aA
   rw [decide_eq_false fun e=>fF hne (hf.1 (by rw [e]))]
  ·have he:x=y:=by
    obtain ⟨q1,q2,q3,_⟩:=aA;cases x;cases y;dsimp only at q1 q2 q3;have q3:=eq_of_beq q3;subst q1;subst q2;subst q3
    rfl
   clear aA;apply aI (k+1) ⟨(show k+1<=r.de.length from aN),hf.trans (hd he)⟩ (show r.de.length-(k+1)<r.de.length-k by omega)
   case hs1=>exact cB
   case ht=>
    exact .h2 .nil
 have z2:r.de=q.de:=by
  obtain rfl:k=r.de.length:=by omega
  exact hf.2 (by rw [Z8,el,Z8])
 obtain rfl:k=r.de.length:=by omega
 clear hk hf aN
 (refine Jq<|Jr<|Jv I<|bN I I ae<|JL I (.there .here) I<|JI I<|JA I<|Jn<|Jc I fun aA=>Jp<|Jl<|Jo<|Jt<|Jq<|Jr<|Ja I<|Jn<|J0 ?_)
 refine bd (ι:=Nat) (fun k=>k<=r.ti.length/\(r.ti=q.ti↔r.ti.drop k=q.ti.drop k)) (fun k=>[(7,.q (k:Nat)),(3,.p b2),(2,.p b1)]) (fun _=>[bA b2 (.cells #[.q q.lv,.q q.ma,.slice x1 q.sr.length ME,.slice x2 q.de.length MD,.slice x3 q.ti.length MC,.slice x4 q.po.length MB] 27 (0,0)),JQ b1 r (.slice a1 r.sr.length eI) (.slice a2 r.de.length dL) (.slice a3 r.ti.length ew) (.slice a4 r.po.length gq)]) (fun k=>r.ti.length-k) ?_ ?_
 ·apply aJ (0:Nat) ⟨Zi _,Iff.rfl⟩
  case hs1=>exact cB
  case ht=>
   exact .h2 .nil
 rintro k ⟨hk,hf⟩;have el:r.ti.length=q.ti.length:=by omega
 by_cases aN:k<r.ti.length
 ·have fS:k<q.ti.length:=by omega
  have c8:=sX (eV aN);have SE:=ga3 (eV fS);have aG:=(qe k _ (ed aN)).2;have lu:=(Hc k _ (ed fS)).2;have hd:=j4 (l:=r.ti) (m:=q.ti) aN fS;have fF:r.ti[k]≠q.ti[k]->r.ti.drop k≠q.ti.drop k:=fun hne e=>hne (by
   rw [Zv aN,Zv fS] at e;exact (List.cons.inj e).1)
  generalize r.ti[k]=x at aG hd fF;generalize q.ti[k]=y at lu hd fF;unfold Ti.cells at aG lu
  (refine Jq<|Jr<|Jv I<|bN I I ae<|JL I (.there .here) I<|JI I<|JA I<|Jn<|Jd I fun aA=>Jk<|Jq<|J0<|Jq ?_)
  with_reducible refine eP 10 (by kernel_rfl) ?_
  (refine pZ I I ae<|aM (ic (.there .here)) I<|mZ I I<|aM (gr c8 aA) I<|aM (iD (eO.base aG I)) I<|pZ I I ae<|aM (ic .here) I<|mZ I I<|aM (aC (.of I) (.of I) SE (by omega) (by omega) bu) I<|aM (iD (eO.base lu I)) I ?_)
  with_reducible refine eU ?_
  (refine ab (uL (.of I) (.of I) (fD (ka (ka lZ))) I) I<|Jn<|oq I (fun aA=>?_) fun aA=>?_;refine Jr<|Ja I<|Jn<|Je<|Jm<|Jh<|Jh<|Jm<|Jh<|JT ?_;rotate_left;refine Jw<|Jj<|Jt<|Jg<|Jv I<|JB I (by omega)<|Ja I<|Jn ?_;rotate_right)
  ·have hne:x≠y:=by
    intro e;subst e;simp at aA
   rw [decide_eq_false fun e=>fF hne (hf.1 (by rw [e]))]
  ·have he:x=y:=by
    obtain ⟨q1,q2,q3,_⟩:=aA;cases x;cases y;dsimp only at q1 q2 q3;subst q1;subst q2;subst q3
    rfl
   clear aA;apply aI (k+1) ⟨(show k+1<=r.ti.length from aN),hf.trans (hd he)⟩ (show r.ti.length-(k+1)<r.ti.length-k by omega)
   case hs1=>exact cB
   case ht=>
    exact .h2 .nil
 have z3:r.ti=q.ti:=by
  obtain rfl:k=r.ti.length:=by omega
  exact hf.2 (by rw [Z8,el,Z8])
 obtain rfl:k=r.ti.length:=by omega
 clear hk hf aN
 (refine Jq<|Jr<|Jv I<|bN I I ae<|JL I (.there .here) I<|JI I<|JA I<|Jn<|Jc I fun aA=>Jp<|Jl<|Jo<|Jt<|Jq<|Jr<|Ja I<|Jn<|J0 ?_)
 refine bd (ι:=Nat) (fun k=>k<=r.po.length/\(r.po=q.po↔r.po.drop k=q.po.drop k)) (fun k=>[(8,.q (k:Nat)),(3,.p b2),(2,.p b1)]) (fun _=>[bA b2 (.cells #[.q q.lv,.q q.ma,.slice x1 q.sr.length ME,.slice x2 q.de.length MD,.slice x3 q.ti.length MC,.slice x4 q.po.length MB] 27 (0,0)),JQ b1 r (.slice a1 r.sr.length eI) (.slice a2 r.de.length dL) (.slice a3 r.ti.length ew) (.slice a4 r.po.length gq)]) (fun k=>r.po.length-k) ?_ ?_
 ·apply aJ (0:Nat) ⟨Zi _,Iff.rfl⟩
  case hs1=>exact cB
  case ht=>
   exact .h2 .nil
 rintro k ⟨hk,hf⟩;have el:r.po.length=q.po.length:=by omega
 by_cases aN:k<r.po.length
 ·have fS:k<q.po.length:=by omega
  have c8:=HA (kE aN);have SE:=ga4 (kE fS);have aG:=(AS k _ (iK aN)).2;have lu:=(VB k _ (iK fS)).2;have hd:=j4 (l:=r.po) (m:=q.po) aN fS;have fF:r.po[k]≠q.po[k]->r.po.drop k≠q.po.drop k:=fun hne e=>hne (by
   rw [Zv aN,Zv fS] at e;exact (List.cons.inj e).1)
  generalize r.po[k]=x at aG hd fF;generalize q.po[k]=y at lu hd fF;unfold Po.cells at aG lu
  (refine Jq<|Jr<|Jv I<|bN I I ae<|JL I (.there .here) I<|JI I<|JA I<|Jn<|Jd I fun aA=>Jk<|Jq<|J0<|Jq ?_)
  with_reducible refine eP 10 (by kernel_rfl) ?_
  (refine pZ I I ae<|aM (ic (.there .here)) I<|mZ I I<|aM (gr c8 aA) I<|aM (iD (eO.base aG I)) I<|pZ I I ae<|aM (ic .here) I<|mZ I I<|aM (aC (.of I) (.of I) SE (by omega) (by omega) bu) I<|aM (iD (eO.base lu I)) I ?_)
  with_reducible refine eU ?_
  (refine ab (uL (.of I) (.of I) (ka (fD (fD lZ))) I) I<|Jn<|oq I (fun aA=>?_) fun aA=>?_;refine Jr<|Ja I<|Jn<|Je<|Jm<|Jh<|Jh<|Jm<|Jh<|JT ?_;rotate_left;refine Jw<|Jj<|Jt<|Jg<|Jv I<|JB I (by omega)<|Ja I<|Jn ?_;rotate_right)
  ·have hne:x≠y:=by
    intro e;subst e;simp at aA
   rw [decide_eq_false fun e=>fF hne (hf.1 (by rw [e]))]
  ·have he:x=y:=by
    obtain ⟨q1,q2,q3,_⟩:=aA;cases x;cases y;dsimp only at q1 q2 q3;subst q1;subst q2;subst q3
    rfl
   clear aA;apply aI (k+1) ⟨(show k+1<=r.po.length from aN),hf.trans (hd he)⟩ (show r.po.length-(k+1)<r.po.length-k by omega)
   case hs1=>exact cB
   case ht=>
    exact .h2 .nil
 have z4:r.po=q.po:=by
  obtain rfl:k=r.po.length:=by omega
  exact hf.2 (by rw [Z8,el,Z8])
 obtain rfl:k=r.po.length:=by omega
 clear hk hf aN
 (refine Jq<|Jr<|Jv I<|bN I I ae<|JL I (.there .here) I<|JI I<|JA I<|Jn<|Jc I fun aA=>Jp<|Jl<|Jo<|Jt<|Jr<|Ja I<|Jn<|Je<|JT ?_)
 rw [decide_eq_true (TS.2 ⟨⟨⟨⟨⟨e1,e2⟩,z1⟩,z2⟩,z3⟩,z4⟩)]
theorem bB.Ik {P:Program} {f:FuncId} {args:List Value} {md:List Nat} {E:TypeId} {sz n:Nat} {xs:List Value} {val:Value->Value} (h:bB P f args w md (fun _:Value=>True) val (fun v=>[row E sz v n xs])) :
  bB P f args w md (fun _:Option Addr×Nat=>True) (fun x=>val (.slice x.1 n x.2)) (fun x=>[row E sz (.slice x.1 n x.2) n xs]):=
 Calls.mono h fun e w' ⟨v,he,_,hk,fp,hn,hs,hf⟩=>by
  have hv:∃ x:Option Addr×Nat,v=.slice x.1 n x.2:=by
   obtain ⟨f1,f2,_,⟨_,_,⟨e1,e2⟩ | ⟨g,cap,cur,e1,_⟩⟩,_⟩:=hs
   ·exact ⟨(none,0),by rw [e1,e2]⟩
   ·exact ⟨(_,cap),e1⟩
  obtain ⟨x,rfl⟩:=hv;exact ⟨x,he,trivial,hk,fp,hn,hs,hf⟩
def Vt:Value->Option Addr×Nat
 | .slice a _ c=>(a,c)
 | _=>(none,0)
theorem K7 (x:Option Addr×Nat):∃ v,Vt v=x:=⟨.slice x.1 0 x.2,I⟩
theorem MY {kv:Value} {l:List gL} (h:Rd w kv 2 (jQ l)) (hM:xF w l) (hn:l.length<=1000) (hs:∀ x∈l,x.tk.so.length<=1000) :
  bB T_ 54 [kv] w [] (fun x:Value×List gL=>du x.2=du l) (fun x=>x.1) (fun x=>[row 69 2 x.1 x.2.length (jQ x.2).flatten,MO x.2]):=by
 obtain ⟨a,cp,b,o,rfl,dD,cr,ha,hc⟩:=h;rw [e9] at *;unfold maxLen at cr;refine aV func54 I I ?_;refine Jr<|Ja I<|Ji<|Ja I<|Jn<|Jq<|Jr<|Jv I<|JI I<|Jv I<|Jn<|J0 ?_;refine aR 69 2 ?_;refine lj 9 ?_
 refine bd (ι:=Nat×Value×List gL) (fun x=>x.1<=l.length/\du x.2.2=du (l.take x.1)) (fun x=>[(8,.q (x.1:Nat)),(7,.q (l.length:Nat)),(6,.slice a l.length cp),(3,x.2.1)])
  (fun x=>[row 69 2 x.2.1 x.2.2.length (jQ x.2.2).flatten,nu 9 (x.2.2.map gL.v) (x.2.2.map fun y=>aO y.tk.so)]) (fun x=>l.length-x.1) ?_ ?_
 ·apply aJ (0,.z,[]) ⟨Zi _,I⟩
  case hs1=>exact cB
  case ht=>
   exact .cons (.there .here) (.h1 .nil)
 rintro ⟨k,v,W⟩ ⟨hk,hW⟩;dsimp only at hk hW ⊢;have PR:W.length=k:=by
  have:=congrArg List.length hW;unfold du at this;rw [Zd,Zd,Zs] at this;omega
 by_cases aN:k<l.length
 ·have c8:=ha (np aN);have aG:=(hc k _ (kR aN)).2;have hx:=hM _ (Zj aN);have hxs:=hs _ (Zj aN);have htk:du (l.take (k+1))=du (l.take k)++[l[k].tk]:=by
   unfold du;rw [Zn aN,Zz];rfl
  have tV:(jQ W).flatten.length=W.length*2:=by rw [gj (DF W),e9]
  have jc:=Rd.one hx;unfold gL.cells at aG;generalize l[k]=x at aG hx hxs htk jc;obtain ⟨⟨xd,xs⟩,xv⟩:=x;dsimp only at aG hx hxs htk jc;have hwc:∀ w',aH [] w w'->bB T_ 72 [xv] w' [] (fun _:Option Addr×Nat=>True) (fun z=>.slice z.1 xs.length z.2) (fun z=>[row 9 1 (.slice z.1 xs.length z.2) xs.length (aO xs)]):=fun w' hk=>bB.Ik (val:=id) (zH (hx.keeps hk) (by omega))
  refine aT (E:=69) (sz:=2) (v:=v) (by exact .here) fun va vc e=>?_;subst e
  (refine Jr<|JA I<|Jn<|Jq<|Jd I fun aA=>Jk<|Jq<|J0<|Jr<|ab (gr c8 aA) I<|ab (iD (eO.base aG I)) I<|Jz I I fun _ _=>aq (.of I) (.of I) .here I I (gK I jc) (bF I) an<|Jn ?_)
  with_reducible refine dy 8 (by kernel_rfl) ?_
  (refine ah (fun β=>(aL (.of I))) aK I<|ah (fun β=>(ai (.of I) ae)) aK I<|ah (fun β=>(ag (.of I) (At.lit .here I))) aK I<|ah (fun β=>(ai (.of I) ae)) aK I<|ah (fun β=>(ag (.of I) (At.lit .here I))) aK I ?_)
  dsimp only [Nat.zero_add,Nat.reduceAdd]
  with_reducible apply cZ (ι:=Option Addr×Nat) (Φ:=fun _=>True) (val:=fun z=>.slice z.1 xs.length z.2) (own:=fun z=>[row 9 1 (.slice z.1 xs.length z.2) xs.length (aO xs)]) (g:=Vt) (B:=[]) (args:=fun _=>[xv])
  case hg=>exact K7
  case hB=>rfl
  case hr=>exact fun β=>a8 (.of I) (.o I .nil) inferInstance I
  case hd=>rfl
  case hc=>exact fun β w' hb=>hwc w' hb.mem.keeps
  dsimp only [Nat.reduceAdd]
  with_reducible apply ah
  case hr=>(intro β;exact aX (.o I (.o I .nil)) an)
  case hi=>exact fun β β' h=>by simp only [h 5 (by kernel_rfl)]
  case hd=>rfl
  dsimp only [Nat.reduceAdd]
  with_reducible apply lG
  case hr=>(intro β;exact bD (.o I .nil) I I bV bV an)
  case hi=>exact fun β β' h=>by simp only [h 5 (by decide) (by kernel_rfl)]
  case hd=>rfl
  dsimp only [Nat.reduceAdd];refine eG fun β=>?_;dsimp only [dX,Za,Zb,List.append_eq,Nat.reduceAdd];generalize ep (β 7)=b7;generalize Vt (β 5)=y;obtain ⟨ya,yc⟩:=y;clear β;dsimp only;refine cI (rs:=[8]) (by kernel_rfl) (by simp) (Zt.2 ⟨?_,fun _ h=>absurd h Zo⟩);refine cQ I ?_;refine bH (.of I) (.of I) c6 (.there .here) an (by rfl) (gK I I) (by rfl) (by rfl) (by rfl) eC (by rfl) ?_;intro v';refine Jn ?_;refine cI (rs:=[9]) (by kernel_rfl) (by simp) (Zt.2 ⟨?_,fun _ h=>absurd h Zo⟩);refine cQ I ?_;refine Ja I<|Jn ?_
  with_reducible refine cn (by kernel_rfl) ?_
  refine Jj<|Jt<|Jg<|JB I (by omega)<|Jv I<|Jn ?_;have X7:(aO xs).length=xs.length:=dj xs
  with_reducible apply nj (E:=9) (vs:=W.map gL.v) (xs:=W.map fun y=>aO y.tk.so) (v:=.slice ya xs.length yc) (x:=aO xs) (n:=xs.length)
  case ht=>exact dF
  case ht2=>exact Take.there .here
  case hn=>exact X7.symm
  case hl=>rw [Zd,Zd]
  case k=>
   apply aI (k+1,v',W++[⟨⟨xd,xs⟩,.slice ya xs.length yc⟩]) ⟨by show k+1<=_;omega,by
    show du (W++[_])=_;unfold du at hW htk ⊢;rw [Zz,hW];exact htk.symm⟩ (by show l.length-(k+1)<l.length-k;omega)
   case hs1=>exact cB
   case ht=>
    dsimp only;rw [E5,Zg,Zz,Zz];simp only [Zaf,Zf,ZL,Zan,ZE];exact .cons (.there .here) (.h1 .nil)
 ·have e:k=l.length:=by omega
  rw [e,ZN] at hW;refine aT (E:=69) (sz:=2) (v:=v) (by exact .here) fun va vc e=>?_;subst e;refine Jr<|JA I<|Jn<|Jq<|Jc I fun aA=>Jp<|Jl<|Jo<|Jt<|Jr<|Jv I<|Ja I<|Jn<|Je ?_
  with_reducible first|apply aP|apply aQ
  case he=>exact dS I I
  case hR=>
   intro w' az;exact aF (.slice va W.length vc,W) hW (by exact .h2 .nil) az I
def cX:ByteArray:=⟨#[99,97,109]⟩
def kF:ByteArray:=⟨#[118,116,114]⟩
def nV:ByteArray:=⟨#[109,111,110]⟩
def dU:ByteArray:=⟨#[97,105,114]⟩
def jk:ByteArray:=⟨#[114,101,99]⟩
def nT:ByteArray:=⟨#[116]⟩
def nU:ByteArray:=⟨#[117]⟩
def mh:Ro:=⟨2,2,[⟨cX,0⟩,⟨kF,1⟩],[⟨nV,0,false⟩,⟨dU,1,false⟩,⟨jk,1,false⟩],[⟨nT,0,1⟩,⟨nU,0,1⟩],[]⟩
def og:Tk:=⟨dU,[cX,cX]⟩
def Td:Tk:=⟨jk,[cX,⟨#[]⟩]⟩
def oe:Tk:=⟨dU,[kF,kF]⟩
def Xp:List Po:=[⟨0,dU,nT⟩,⟨0,nT,cX⟩,⟨1,dU,nT⟩,⟨1,nT,cX⟩]
def Xo:List Po:=[⟨0,dU,nT⟩,⟨0,jk,nT⟩,⟨0,nT,cX⟩,⟨1,dU,nT⟩,⟨1,nT,cX⟩]
def Xn:List Po:=[⟨0,dU,kF⟩,⟨0,jk,nT⟩,⟨0,nT,cX⟩,⟨1,dU,kF⟩]
def gn:Ro:={ mh with po:=Xp }
def ig:Ro:={ mh with po:=Xo }
def xy:Ro:={ mh with po:=Xn }
def DP:Ro:=gn.IQ nV true
theorem VK:fT mh=0:=by kernel_rfl
theorem PY:sC mh 0 cX dU=0/\qw mh 0 cX dU=[nT]:=⟨by kernel_rfl,by kernel_rfl⟩
theorem VI:iv mh [og]=(gn,0,0):=by kernel_rfl
theorem VH:iv gn [Td]=(ig,0,0):=by kernel_rfl
theorem P4:iv ig [oe]=(xy,0,0):=by kernel_rfl
theorem VF:MM ig [oe]=[og]:=by kernel_rfl
theorem PX:sC mh 0 kF nV=18/\qw mh 0 kF nV=[]:=⟨by kernel_rfl,by kernel_rfl⟩
theorem P6:A4 mh 0 kF nV=0/\wU mh 0 kF nV=[1]:=⟨by kernel_rfl,by kernel_rfl⟩
theorem VL:SU mh 0 kF nV [0]=19:=by kernel_rfl
theorem VJ:KL ig jk=0/\G3 ig jk=[cX,⟨#[]⟩]:=⟨by kernel_rfl,by kernel_rfl⟩
theorem P0:HS gn 0 dU=0/\Gn gn 0 dU=[cX,nT,dU]:=⟨by kernel_rfl,by kernel_rfl⟩
theorem P7:LG gn 0=0/\Hp gn 0=[nT]:=⟨by kernel_rfl,by kernel_rfl⟩
theorem PZ:HN ig 0 cX=0/\Gj ig 0 cX=[dU,jk]:=⟨by kernel_rfl,by kernel_rfl⟩
theorem P5:yU gn nV=0/\yT gn nV true=DP:=⟨by kernel_rfl,by kernel_rfl⟩
theorem VG:(iv DP [⟨jk,[⟨#[45]⟩,⟨#[]⟩]⟩,⟨nV,[cX,cX]⟩]).2=(1,31):=by kernel_rfl
theorem P3:q8 mh [⟨10,[og]⟩,⟨12,[oe]⟩] dU 9=0/\um mh [⟨10,[og]⟩,⟨12,[oe]⟩] dU 9=[⟨#[]⟩,⟨#[]⟩]:=⟨by kernel_rfl,by kernel_rfl⟩
theorem P2:q8 mh [⟨10,[og]⟩,⟨12,[oe]⟩] dU 11=0/\um mh [⟨10,[og]⟩,⟨12,[oe]⟩] dU 11=[cX,cX]:=⟨by kernel_rfl,by kernel_rfl⟩
theorem P1:q8 mh [⟨10,[og]⟩,⟨12,[oe]⟩] dU 12=0/\um mh [⟨10,[og]⟩,⟨12,[oe]⟩] dU 12=[kF,kF]:=⟨by kernel_rfl,by kernel_rfl⟩
theorem SF:IP mh=⟨#[114,111,117,116,101,114,32,50,32,50,10,115,111,117,114,99,101,32,99,97,109,32,48,10,115,111,117,114,99,101,32,118,116,114,32,49,10,100,101,115,116,105,110,97,116,105,111,110,32,109,111,110,32,48,32,102,114,101,101,10,100,101,115,116,105,110,97,116,105,111,110,32,97,105,114,32,49,32,102,114,101,101,10,100,101,115,116,105,110,97,116,105,111,110,32,114,101,99,32,49,32,102,114,101,101,10,116,105,101,32,116,32,48,32,49,10,116,105,101,32,117,32,48,32,49,10]⟩:=by kernel_rfl
theorem OL (w:World):bB T_ 105 [] w [] (fun _:Value×Value×Value×Value=>True) (fun x=>RA mh x.1 x.2.1 x.2.2.1 x.2.2.2) (fun x=>kC mh x):=by
 unfold RA;refine aV func105 I I ?_
 (refine Jr<|Jz I I fun _ _=>Ji<|ab (aX (.o I .nil) an) I<|ab (aX (.o I (.o I .nil)) an) I<|bn (bD (.o I (.o I .nil)) I I bV bV an) I fun _ _=>ab (aX (.o I .nil) an) I<|ab (aX (.o I (.o I .nil)) an) I<|ab (aX (.o I (.o I .nil)) an) I<|bn (bD (.o I (.o I (.o I .nil))) I I bV bV an) I fun _ _=>ab (aX (.o I (.o I .nil)) an) I<|ab (aX (.o I (.o I .nil)) an) I<|bn (bD (.o I (.o I .nil)) I I bV bV an) I fun _ _=>ab (aX (.o I (.o I (.o I (.o I (.o I .nil))))) an) I<|aq (.of I) (.of I) c6 I I (hG I I I I I I) (bF I) an<|Jn<|Je ?_)
 rename_i b0 hb0 b1 rW b2 tX b3 uY;refine bR (g:=b1) (E:=186) (ys:=mw mh.sr) 2 2 c6 (by exact I) I I ?_;refine bR (g:=b2) (E:=90) (ys:=j5 mh.de) 3 3 c6 (by exact I) I I ?_;refine bR (g:=b3) (E:=187) (ys:=nN mh.ti) 2 3 c6 (by exact I) I I ?_;refine aR 188 3 ?_
 with_reducible first|apply aP|apply aQ
 case he=>exact kd I inferInstance I dF an (by rfl)
 case hR=>
  intro w' az;exact aF (.w b1 2 2,.w b2 3 3,.w b3 2 2,.z) trivial (by exact .cons c6 (.cons bO (.cons (.there .here) (.h1 .nil)))) az I
theorem SI (w:World):bB T_ 106 [] w [] (fun _:Option Addr×Nat=>True) (fun x=>.agg (gL.cells ⟨og,.slice x.1 2 x.2⟩).toArray) (fun x=>[row 9 1 (.slice x.1 2 x.2) 2 (aO og.so)]):=by
 unfold gL.cells;refine aV func106 I I ?_
 (refine Jr<|Jz I I fun _ _=>Ji<|bn (aB (.o I (.o I .nil)) I I I I) I fun _ _=>ab (aX (.o I (.o I .nil)) an) I<|aq (.of I) (.of I) (.there .here) I I (gK I I) (bF I) an<|Jn<|Je ?_)
 rename_i b0 hb0 b1 rW;refine bR (g:=b1) (E:=9) (ys:=aO og.so) 2 1 (by exact Take.there .here) (by exact I) I I ?_
 with_reducible first|apply aP|apply aQ
 case he=>exact kd I inferInstance I (.there .here) an (by rfl)
 case hR=>
  intro w' az;exact aF (some ⟨b1,0,none⟩,2) trivial (by exact .h1 .nil) az I
theorem SH (w:World):bB T_ 107 [] w [] (fun _:Option Addr×Nat=>True) (fun x=>.agg (gL.cells ⟨Td,.slice x.1 2 x.2⟩).toArray) (fun x=>[row 9 1 (.slice x.1 2 x.2) 2 (aO Td.so)]):=by
 unfold gL.cells;refine aV func107 I I ?_
 (refine Jr<|Jz I I fun _ _=>Ji<|bn (aB (.o I (.o I .nil)) I I I I) I fun _ _=>ab (aX (.o I (.o I .nil)) an) I<|aq (.of I) (.of I) (.there .here) I I (gK I I) (bF I) an<|Jn<|Je ?_)
 rename_i b0 hb0 b1 rW;refine bR (g:=b1) (E:=9) (ys:=aO Td.so) 2 1 (by exact Take.there .here) (by exact I) I I ?_
 with_reducible first|apply aP|apply aQ
 case he=>exact kd I inferInstance I (.there .here) an (by rfl)
 case hR=>
  intro w' az;exact aF (some ⟨b1,0,none⟩,2) trivial (by exact .h1 .nil) az I
theorem SG (w:World):bB T_ 108 [] w [] (fun _:Option Addr×Nat=>True) (fun x=>.agg (gL.cells ⟨oe,.slice x.1 2 x.2⟩).toArray) (fun x=>[row 9 1 (.slice x.1 2 x.2) 2 (aO oe.so)]):=by
 unfold gL.cells;refine aV func108 I I ?_
 (refine Jr<|Jz I I fun _ _=>Ji<|bn (aB (.o I (.o I .nil)) I I I I) I fun _ _=>ab (aX (.o I (.o I .nil)) an) I<|aq (.of I) (.of I) (.there .here) I I (gK I I) (bF I) an<|Jn<|Je ?_)
 rename_i b0 hb0 b1 rW;refine bR (g:=b1) (E:=9) (ys:=aO oe.so) 2 1 (by exact Take.there .here) (by exact I) I I ?_
 with_reducible first|apply aP|apply aQ
 case he=>exact kd I inferInstance I (.there .here) an (by rfl)
 case hR=>
  intro w' az;exact aF (some ⟨b1,0,none⟩,2) trivial (by exact .h1 .nil) az I
instance :DecidableEq Tk:=fun a b=>decidable_of_iff (a.de=b.de/\a.so=b.so) (by cases a;cases b;simp)
theorem nO (hm:Mem c hs w) (ht:bK hs (kC r x) hs'):RR w r x.1 x.2.1 x.2.2.1 x.2.2.2:=by
 have mr:=hm.jo ht;exact ⟨df mr .here I,di mr (.there .here) I,dd mr bO I,c7 mr c6 I⟩
theorem TQ (hm:Mem c hs w) (ht:bK hs (MV r x) hs'):RR w r x.1 x.2.1 x.2.2.1 x.2.2.2:=by
 have mr:=hm.jo ht;exact ⟨df mr .here I,di mr (.there .here) I,dd mr bO I,c7 mr c6 I⟩
theorem iS {D:List Nat} {sl:aD} {X:Act->World->Prop} (ht:bK hs (MV r (s,d,t,p)) hs')
  (k:s.oneCell'=true->d.oneCell'=true->t.oneCell'=true->p.oneCell'=true->Tr c D sl (row 118 2 s r.sr.length (mw r.sr)::row 88 3 d r.de.length (j5 r.de)::row 122 3 t r.ti.length (nN r.ti)::row 180 3 p r.po.length (jb r.po)::hs') X):Tr c D sl hs X:=by
 intro a w bj;have hm:=bj.mem.jo (ht.append (mN D));have k2:Tr c D sl (row 118 2 s r.sr.length (mw r.sr)::row 88 3 d r.de.length (j5 r.de)::row 122 3 t r.ti.length (nN r.ti)::row 180 3 p r.po.length (jb r.po)::hs') X:=by
  refine aT (E:=118) (sz:=2) (v:=s) .here fun _ _ e=>?_;have k1:s.oneCell'=true:=by rw [e];rfl
  clear e;refine aT (E:=88) (sz:=3) (v:=d) (.there .here) fun _ _ e=>?_;have k2:d.oneCell'=true:=by rw [e];rfl
  clear e;refine aT (E:=122) (sz:=3) (v:=t) bO fun _ _ e=>?_;have k3:t.oneCell'=true:=by rw [e];rfl
  clear e;refine aT (E:=180) (sz:=3) (v:=p) c6 fun _ _ e=>?_;have k4:p.oneCell'=true:=by rw [e];rfl
  clear e;exact k k1 k2 k3 k4
 exact k2 a w (bj.heap hm)
theorem C7 {l m:List gL} (h1:Rd w v1 2 (jQ l)) (hM1:xF w l) (h2:Rd w v2 2 (jQ m)) (hM2:xF w m) :
  ao T_ 53 [v1,v2] w (.bool (decide (du l=du m))):=by
 obtain ⟨a1,VS,b1,o1,rfl,qp,jd,l7,kM⟩:=h1;obtain ⟨a2,l9,b2,o2,rfl,kp,fh,js,jT⟩:=h2;rw [e9] at *;rw [e9] at *;unfold maxLen at jd fh;refine ak func53 I I ?_
 (refine Jr<|Ja I<|Jn<|Jq<|Jr<|Jv I<|JI I<|Jv I<|JI I<|JD I<|Jn<|gR I (fun aA=>?_) fun aA=>?_;refine Jr<|Ja I<|Jn<|Ju<|JT ?_;rotate_left;refine Jk<|Jq<|Jr<|Ja I<|Jn<|J0 ?_;rotate_right)
 ·rw [decide_eq_false fun e=>aA (by have:=congrArg List.length e;unfold du at this;rw [Zd,Zd] at this;rw [this])]
 have UU:l.length=m.length:=by omega
 refine bd (ι:=Nat) (fun k=>k<=l.length/\(du l=du m↔du (l.drop k)=du (m.drop k))) (fun k=>[(5,.q (k:Int)),(0,.slice a1 l.length VS),(1,.slice a2 m.length l9)]) (fun _=>[]) (fun k=>l.length-k) ?_ ?_
 ·apply aJ (0:Nat) ⟨Zi _,Iff.rfl⟩
  case hs1=>exact cB
  case ht=>(try simp only [Ze,Zf,Za]);exact .nil
 rintro k ⟨hk,hf⟩;by_cases aN:k<l.length
 ·have fS:k<m.length:=by omega
  have G9:=l7 (np aN);have rX:=js (np fS);have lr:=(kM k _ (kR aN)).2;have eF:=(jT k _ (kR fS)).2;have x1:=hM1 _ (Zj aN);have x2:=hM2 _ (Zj fS);have hd:du (l.drop k)=du (m.drop k)↔(l[k].tk=m[k].tk/\du (l.drop (k+1))=du (m.drop (k+1))):=by
   rw [Zv aN,Zv fS];unfold du;rw [Zaf,Zaf];exact List.cons_eq_cons
  rw [hd] at hf;clear hd;unfold gL.cells at lr eF;generalize l[k]=x at lr x1 hf;generalize m[k]=y at eF x2 hf;obtain ⟨⟨xd,xs⟩,xv⟩:=x;obtain ⟨⟨yd,ys⟩,yv⟩:=y;dsimp only at lr eF x1 x2 hf;have c1:w.cell? ⟨b1,o1+k*2,none⟩=some (.string xd):=lr 0 _ I;have c2:w.cell? ⟨b2,o2+k*2,none⟩=some (.string yd):=eF 0 _ I;have c3:w.cell? ⟨b1,o1+k*2+1,none⟩=some xv:=lr 1 _ I;have c4:w.cell? ⟨b2,o2+k*2+1,none⟩=some yv:=eF 1 _ I;have hsw:∀ w',aH [] w w'->ao T_ 58 [xv,yv] w' (.bool (decide (xs=ys))):=fun w' hk=>Fh (x1.keeps hk) (x2.keeps hk)
  refine Jq<|Jr<|Jv I<|Jv I<|JI I<|JA I<|Jn<|Jd I fun aA=>Jk<|Jq<|J0<|Jq ?_
  with_reducible refine eP 25 (by kernel_rfl) ?_
  (refine mZ I I<|mZ I I<|aM (gr G9 aA) I<|pZ I I ae<|aM (ag (.of I) (At.base c1 I)) I<|mZ I I<|mZ I I<|aM (aC (.of I) (.of I) rX (by omega) (by omega) bu) I<|pZ I I ae<|aM (ag (.of I) (At.base c2 I)) I<|aM (jv (.of I) (.of I)) I<|mZ I I<|dT I I (fun hg bG=>(aL (.of I))) I<|dT I I (fun hg bG=>(aL (.of I))) I<|dT I I (fun hg bG=>(aC (.bX hg I) (.bX hg I) G9 (by omega) aA bu)) I<|dT I I (fun hg bG=>(ai (.bX hg I) ae)) I<|dT I I (fun hg bG=>(ag (.bX hg I) (At.base c3 I))) I<|dT I I (fun hg bG=>(aL (.of I))) I<|dT I I (fun hg bG=>(aL (.of I))) I<|dT I I (fun hg bG=>(aC (.bX hg I) (.bX hg I) rX (by omega) (by omega) bu)) I<|dT I I (fun hg bG=>(ai (.bX hg I) ae)) I<|dT I I (fun hg bG=>(ag (.bX hg I) (At.base c4 I))) I<|xh I I (fun hg=>(a8 (.of I) (.cons (.bX hg I) (.cons (.bX hg I) .nil)) inferInstance gF)) I (fun hg w' az=>(hsw w' (Mem.keeps az)))<|dT I I (fun hg bG=>(fC (.bX hg I))) I<|aM (bE (.of I) I) I ?_)
  with_reducible refine eU ?_
  (refine Jn<|oq I (fun aA=>?_) fun aA=>?_;refine Jr<|Ja I<|Jn<|Je<|Jm<|Jh<|Jh<|Jm<|Jh<|JT ?_;rotate_left;refine Jw<|Jj<|Jt<|Jg<|Jv I<|JB I (by omega)<|Ja I<|Jn ?_;rotate_right)
  ·have hne:¬ du l=du m:=fun e=>by
    obtain ⟨e1,_⟩:=hf.1 e;injection e1 with e2 e3
    rcases aA with h | h
    ·exact h e2
    ·exact h e3
   rw [decide_eq_false hne]
  ·obtain ⟨q1,q2⟩:=aA;have q1:=Zr.1 q1;subst q1;subst q2;clear hsw;apply aI (k+1) ⟨(show k+1<=l.length from aN),hf.trans ⟨fun e=>e.2,fun e=>⟨I,e⟩⟩⟩ (show l.length-(k+1)<l.length-k by omega)
   case hs1=>exact cB
   case ht=>(try simp only [Ze,Zf,Za]);exact .nil
 ·obtain rfl:k=l.length:=by omega
  have:du l=du m:=hf.2 (by rw [Z8,UU,Z8]);refine Jq<|Jr<|Jv I<|Jv I<|JI I<|JA I<|Jn<|Jc I fun aA=>Jp<|Jl<|Jo<|Jt<|Jr<|Ja I<|Jn<|Je<|JT ?_;rw [decide_eq_true this]
theorem IV {q:List Po} (h:RR w r s d t p) (cJ:mu r) (hv:Rd w v 3 (sq q)):ao T_ 110 [RA r s d t p,v] w (.bool (decide (r.po=q))):=by
 obtain ⟨h1,h2,h3,h4⟩:=h.one;have hv2:=hv;obtain ⟨av,cv,bv,ov,rfl,_,_,_,_⟩:=hv2;rw [cO] at *;have ht:∀ w',aH [] w w'->bB T_ 57 [.agg #[.int .i64 r.lv,.int .i64 r.ma,s,d,t,p]] w' [] (fun _:Value×Value×Value×Value=>True) (fun x=>RA r x.1 x.2.1 x.2.2.1 x.2.2.2) (fun x=>MV r x):=fun w' hk=>H4 (h.keeps hk) cJ
 unfold RA at ht ⊢;refine ak func110 I I ?_;refine Jr<|Jy I I fun _ _=>Ja I<|Ji<|ab (cN .here) I ?_;refine JN bS I (fun w1 aY=>ht w1 aY.keeps) ?_;rintro ⟨s1,d1,t1,p1⟩ _;dsimp only
 try unfold RA
 refine iS (r:=r) (s:=s1) (d:=d1) (t:=t1) (p:=p1) (bb _ _) fun k1 k2 k3 k4=>?_
 (refine Jz I I fun _ _=>aq (.of I) (.of I) .here I I (hG I I k1 k2 k3 k4) (bF I) an<|Ji<|Jv I<|bN I I ae<|aq (.of I) (.of I) .here I I (dG I) (bF I) an<|Jn<|Jq ?_)
 with_reducible refine dy 5 (by kernel_rfl) ?_
 refine ah (fun β=>(bL (.of I) fx an (by rfl))) aK I ?_;dsimp only [Nat.zero_add,Nat.reduceAdd]
 with_reducible apply cZ (ι:=Value×Value×Value×Value) (Φ:=fun _=>True) (val:=fun x=>.agg #[.q r.lv,.q r.ma,x.1,x.2.1,x.2.2.1,x.2.2.2]) (own:=fun x=>MV r x) (g:=g4) (B:=[]) (args:=fun _=>[.agg #[.q r.lv,.q r.ma,s,d,t,p]])
 case hg=>exact kr
 case hB=>rfl
 case hr=>exact fun β=>a8 (.of I) (.o I .nil) inferInstance I
 case hd=>rfl
 case hc=>exact fun β w' hb=>ht w' hb.mem.keeps
 dsimp only [Nat.reduceAdd];refine ah (fun β=>(bL (.of I) .here an (by rfl))) aK I ?_;dsimp only [Nat.reduceAdd]
 with_reducible apply cV (B:=[1]) (F:=fun _=>.bool (decide (r={ r with po:=q }))) (args:=fun β=>[.agg #[.q r.lv,.q r.ma,(g4 (β 1)).1,(g4 (β 1)).2.1,(g4 (β 1)).2.2.1,(g4 (β 1)).2.2.2],.agg #[.q r.lv,.q r.ma,s1,d1,t1,.slice av q.length cv]])
 case hB=>kernel_rfl
 case hr=>exact fun β=>a8 (.of I) (.o I (.o I .nil)) inferInstance I
 case hi=>exact aK
 case hd=>rfl
 case hc=>
  intro β w' dK;have m1:=dK.at 1 Zp (s:=⟨fun β=>.agg #[.q r.lv,.q r.ma,(g4 (β 1)).1,(g4 (β 1)).2.1,(g4 (β 1)).2.2.1,(g4 (β 1)).2.2.2],fun β=>MV r (g4 (β 1))⟩) (by kernel_rfl)
  dsimp only at m1;have hk:=dK.mem.keeps;have r1:=TQ m1 (bb _ _);have m2:=dK.mem;have r2:RR w' { r with po:=q } s1 d1 t1 (.slice av q.length cv):=⟨df m2 (by exact Take.there .here) I,di m2 bO I,dd m2 c6 I,hv.keeps hk⟩
  exact S8 r1 r2
 refine ah (fun β=>(cd (.of I))) aK I ?_;refine eG fun β=>?_;dsimp only [dX,Za,Zb,List.append_eq,Nat.reduceAdd]
 with_reducible refine cn (by kernel_rfl) ?_
 refine Jt<|Je<|JT ?_;have e:(r={ r with po:=q })↔r.po=q:=⟨fun e=>congrArg Ro.po e,fun e=>by cases r;subst e;rfl⟩
 rw [decide_eq_decide.2 e]
end Go.Proofs.A1
