/- Parts of the proof: LI LJ LK LL LM LN LO. -/
import Derived.Test.YteonnodafmegaaaGreatDoorUM11
import Derived.Test.YteonnodafmegaaaGreatDoorUM04
import Derived.Test.YteonnodafmegaaaGreatDoorUM10
import Derived.Lib.AppendIntMem
import Derived.KernelRfl
set_option linter.unusedSectionVars false
set_option linter.unusedVariables false
set_option linter.unusedSimpArgs false
namespace Go.Proofs.A1
open Go Go.SL
open Tryz
open Tryz renaming prog->T_
def oo (n:Int):ByteArray:=⟨#[UInt8.ofNat (48+n.toNat)]⟩
theorem WB:∀ i,i<=9->(⟨(Lib.decDigits i).toArray⟩:ByteArray)=⟨#[UInt8.ofNat (48+i)]⟩:=by
 intro i h
 match i,h with
 | 0,_=>simp [Lib.decDigits]
 | 1,_=>simp [Lib.decDigits]
 | 2,_=>simp [Lib.decDigits]
 | 3,_=>simp [Lib.decDigits]
 | 4,_=>simp [Lib.decDigits]
 | 5,_=>simp [Lib.decDigits]
 | 6,_=>simp [Lib.decDigits]
 | 7,_=>simp [Lib.decDigits]
 | 8,_=>simp [Lib.decDigits]
 | 9,_=>simp [Lib.decDigits]
theorem OA (n:Int) (h0:0<=n) (h1:n<=9) (w:World):aj T_ 279 [.q n] w (.string (oo n)):=by
 obtain ⟨i,rfl⟩:∃ i:Nat,n=(i:Nat):=⟨n.toNat,by omega⟩;refine Calls.mono (internal_strconv_Itoa_small i (by omega) w) fun e w' ⟨he,hw⟩=>⟨?_,by rw [hw];exact .refl _ _⟩;rw [he,WB i (by omega)];unfold oo;rw [ZF]
theorem oO (n:Int) (h0:0<=n) (h1:n<=9) (w:World):aj T_ 193 [.q n] w (.string (oo n)):=by
 refine ah func193 I I ?_
 (refine Jr<|Ja I<|Ji<|Jv I<|ai bz I (fun w' aA=>(OA n h0 h1 w'))<|Ja I<|Jn<|Je<|JT ?_)
 rfl
theorem KP (n:Int):(oo n).size=1:=rfl
def yN (l:List ByteArray) (sep:ByteArray):ByteArray:=⟨(Lib.join (l.map (·.data.toList)) sep.data.toList).toArray⟩
variable {a:ByteArray} {c:Cx} {d:Value} {hs hs':List bd} {k:Nat} {kv:Value} {l:List ByteArray} {lv p:Value} {r:Ro} {s t v v1 v2:Value} {w:World} {x:Value×Value×Value×Value}
theorem Sh (sep:ByteArray) {w:World} (h:Rd w lv 1 (fX l)) (hl:l.length<=1000) (hlen:(Lib.join (l.map (·.data.toList)) sep.data.toList).length<=140737488355328) :
  aj T_ 278 [lv,.string sep] w (.string (yN l sep)):=by
 obtain ⟨a,cap,b,o,rfl,dp,bY,ha,hc⟩:=h;rw [bX] at *;cases l with
 | nil=>exact Calls.mono (strings_Join_none a cap sep w) fun e w' ⟨he,hw⟩=>⟨he,by rw [hw];exact .refl _ _⟩
 | cons x r =>
  have:=ha (by simp [fX]);subst this;have aB:∀ (j:Nat) y,(x::r)[j]? = some y->w.cell? ⟨b,o+j,none⟩=some (.string y):=fun j y hj=>by
   have:=(hc j [.string y] (by unfold fX;rw [ZA,hj];rfl)).2 0 _ I;simpa using this
  refine Calls.mono (Calls.up (strings_Join b o cap (x::r) sep w aB ?_ (by omega) dp hlen)) fun e w' ⟨he,hw,hd⟩=>⟨he,aK.Kx hw hd⟩;exact World.block_lt_of_cell? w _ (aB 0 x I)
theorem KO (l:List (List UInt8)) (sep:List UInt8) (n:Nat) (h:∀ x∈l,x.length<=n):(Lib.join l sep).length<=l.length*(n+sep.length):=by
 cases l with
 | nil=>simp [Lib.join]
 | cons x r =>
  have key:∀ (r:List (List UInt8)),(∀ y∈r,y.length<=n)->(Lib.joinTail sep r).length<=r.length*(n+sep.length):=by
   intro r
   induction r with
   | nil=>intro _;simp [Lib.joinTail]
   | cons y r ih =>
    intro hy;have h1:=hy y (by simp);have h2:=ih fun z hz=>hy z (by simp [hz])
    simp only [Lib.joinTail,ZZ,Zam,Zg,ZI,Zab] at h2 ⊢;omega
  rw [Lib.join_cons,Zg,ZI,Zab];have h1:=h x (by simp);have h2:=key r fun z hz=>h z (by simp [hz])
  omega
def P9 (l:List ByteArray):ByteArray:=yN l ⟨#[32]⟩++⟨#[10]⟩
theorem yM (h4:l.length<=4) (h:∀ x∈l,x.size<=24):(Lib.join (l.map (·.data.toList)) [32]).length<=100:=by
 have:=KO (l.map (·.data.toList)) [32] 24 (by
  intro x hx;obtain ⟨y,hy,rfl⟩:=Zo.1 hx;have:=h y hy;rw [ZaN];exact this)
 rw [Zd] at this;have h2:([32]:List UInt8).length=1:=rfl;rw [h2] at this;omega
theorem vT (h4:l.length<=4) (h:∀ x∈l,x.size<=24):(yN l ⟨#[32]⟩).size<=100:=by
 have:=yM h4 h;unfold yN;show Array.size _<=100;rw [Zbs];exact this
theorem gO (h4:l.length<=4) (h:∀ x∈l,x.size<=24):(P9 l).size<=101:=by
 have:=vT h4 h;unfold P9;rw [ByteArray.size_append];have:ByteArray.size ⟨#[10]⟩=1:=rfl;omega
theorem sR (h:Rd w v 1 (fX l)) (h4:l.length<=4) (hs:∀ x∈l,x.size<=24):aj T_ 192 [v] w (.string (P9 l)):=by
 have hj:∀ w',aK [] w w'->aj T_ 278 [v,.string ⟨#[32]⟩] w' (.string (yN l ⟨#[32]⟩)):=fun w' hk=>Sh (l:=l) ⟨#[32]⟩ (h.keeps hk) (by omega) (ZX (yM h4 hs) (by decide))
 have hz:=vT h4 hs;have h1:ByteArray.size ⟨#[10]⟩=1:=rfl;have hb:(yN l ⟨#[32]⟩).size+ByteArray.size ⟨#[10]⟩<=9223372036854775807:=by omega
 refine ah func192 I I ?_
 (refine Jr<|Ja I<|Ji<|Jv I<|ai ba I (fun w' aA=>(hj w' (Mem.keeps aA)))<|ab (sK (.of I) (.of I) hb) I<|Ja I<|Jn<|Je<|JT ?_)
 rfl
def E3:List Value:=[.string ⟨#[114,111,117,116,101,114]⟩,.func (.func 271) #[] #[],.string ⟨#[115,111,117,114,99,101]⟩,.func (.func 273) #[] #[],.string ⟨#[100,101,115,116,105,110,97,116,105,111,110]⟩,.func (.func 275) #[] #[],.string ⟨#[116,105,101]⟩,.func (.func 276) #[] #[],.string ⟨#[112,111,105,110,116]⟩,.func (.func 277) #[] #[]]
theorem Pf (w:World):aj T_ 191 [] w (.agg E3.toArray):=by
 unfold E3;refine ah func191 I I ?_
 (refine Jr<|Jz I I fun _ _=>Ji<|ab (aU (.o I (.o I .nil)) ak) I<|ab (aU (.o I (.o I .nil)) ak) I<|ab (aU (.o I (.o I .nil)) ak) I<|ab (aU (.o I (.o I .nil)) ak) I<|ab (aU (.o I (.o I .nil)) ak) I<|ab (aU (.o I (.o I (.o I (.o I (.o I .nil))))) ak) I<|an (.of I) (.of I) .here I I (aM I (aM I (WZ I I I I I I I I))) (bG I) ak<|Jn<|Je<|pC I (kQ I inferInstance I .here ak (by rfl)) ?_)
 rfl
def wR:ByteArray:=⟨#[114,111,117,116,101,114]⟩
def wS:ByteArray:=⟨#[115,111,117,114,99,101]⟩
def wD:ByteArray:=⟨#[100,101,115,116,105,110,97,116,105,111,110]⟩
def wT:ByteArray:=⟨#[116,105,101]⟩
def wP:ByteArray:=⟨#[112,111,105,110,116]⟩
def Ir:ByteArray:=⟨#[102,114,101,101]⟩
def Iq:ByteArray:=⟨#[112,114,111,116,101,99,116,101,100]⟩
def Xf (r:Ro):ByteArray:=P9 [wR,oo r.lv,oo r.ma]
def Ox (x:Sr):ByteArray:=P9 [wS,x.nm,oo x.mx]
def stD (b:Bool):ByteArray:=if b=true then Iq else Ir
def MS (x:De):ByteArray:=P9 [wD,x.nm,oo x.mx,stD x.pr]
def Ow (x:Ti):ByteArray:=P9 [wT,x.nm,oo x.fr,oo x.to]
def TW (x:Po):ByteArray:=P9 [wP,oo x.lv,x.ou,x.ip]
def mV (a:ByteArray) (l:List ByteArray):ByteArray:=l.foldl (fun a b=>a++b) a
theorem pW {α:Type} {f:α->ByteArray} {l:List α} (h:k<l.length):mV a ((l.take (k+1)).map f)=mV a ((l.take k).map f)++f l[k]:=by
 unfold mV;rw [Zn h,Zt,List.foldl_append];rfl
theorem mU {n:Nat}:∀ {l:List ByteArray} {a:ByteArray},(∀ x∈l,x.size<=n)->(mV a l).size<=a.size+n*l.length
 | [],a,_=>Zz _
 | x :: l, a, h => by
  have:=mU (l:=l) (a:=a++x) fun y hy=>h y (ZW _ hy)
  rw [ByteArray.size_append] at this;have h1:=h x Zr;show (mV (a++x) l).size<=_;rw [ZI,Nat.mul_succ];omega
theorem pX {n:Nat} {α:Type} {f:α->ByteArray} {l:List α} (hn:∀ x∈l,(f x).size<=n):(mV a ((l.take k).map f)).size<=a.size+n*l.length:=by
 have:=mU (n:=n) (a:=a) (l:=(l.take k).map f) (by
  intro x hx;obtain ⟨y,hy,rfl⟩:=Zo.1 hx;exact hn y (ZaG hy))
 rw [Zd,Zs] at this;have:n*min k l.length<=n*l.length:=Zbx _ (ZbF _ _);omega
def XZ (r:Ro):ByteArray:=mV (mV (mV (mV (Xf r) (r.sr.map Ox)) (r.de.map MS)) (r.ti.map Ow)) (r.po.map TW)
def Ka (r:Ro):ByteArray:=if ew r=0 then XZ r else ⟨#[]⟩
theorem Ol {s:ByteArray} (h:fA s=true):s.size<=24:=by
 unfold fA at h;simp only [Zl,decide_eq_true_eq] at h;exact h.1.1.2
structure Prn (r:Ro):Prop where
 n0:(0<=r.lv/\r.lv<=9)/\0<=r.ma/\r.ma<=9
 sr:∀ x∈r.sr,x.nm.size<=24/\0<=x.mx/\x.mx<=9
 de:∀ x∈r.de,x.nm.size<=24/\0<=x.mx/\x.mx<=9
 ti:∀ x∈r.ti,x.nm.size<=24/\(0<=x.fr/\x.fr<=9)/\0<=x.to/\x.to<=9
 po:∀ x∈r.po,(x.ou.size<=24/\x.ip.size<=24)/\0<=x.lv/\x.lv<=9
 len:(r.sr.length<=8/\r.de.length<=8/\r.ti.length<=6)/\r.po.length<=42
theorem prn (h:ew r=0):Prn r:=by
 have ho:=rO h;have hp:=prt (mC h).2.1;have hl:=ho.lim;have na:∀ s∈bW r,s.size<=24:=fun s hs=>Ol (hp.nm s hs)
 have n1:∀ s∈cG r,s.size<=24:=fun s hs=>na s (ZC _ (ZC _ hs))
 have n2:∀ s∈bU r,s.size<=24:=fun s hs=>na s (ZC _ (ZT _ hs))
 have n3:∀ s∈cN r,s.size<=24:=fun s hs=>na s (ZT _ hs)
 refine ⟨by omega,fun x hx=>?_,fun x hx=>?_,fun x hx=>?_,fun x hx=>?_,hp.len,kF ho ho.val⟩
 ·have:=ho.sm x hx;exact ⟨n1 _ (ZU hx),by omega,by omega⟩
 ·have:=ho.dm x hx;exact ⟨n2 _ (ZU hx),by omega,by omega⟩
 ·have:=ho.tm x hx;exact ⟨n3 _ (ZU hx),by omega,by omega⟩
 ·have:=ho.val.Ib x hx;exact ⟨⟨(ho.val.out x hx).elim (n2 _) (n3 _),(ho.val.uO x hx).elim (n1 _) (n3 _)⟩,by omega,by omega⟩
theorem sQ {a b c:ByteArray} (ha:a.size<=24) (hb:b.size<=24) (hc:c.size<=24):∀ x∈[a,b,c],x.size<=24:=by
 intro x hx;simp only [ZO,Zp,or_false] at hx;rcases hx with rfl | rfl | rfl <;> assumption
theorem jh {a b c d:ByteArray} (ha:a.size<=24) (hb:b.size<=24) (hc:c.size<=24) (hd:d.size<=24):∀ x∈[a,b,c,d],x.size<=24:=by
 intro x hx;simp only [ZO,Zp,or_false] at hx;rcases hx with rfl | rfl | rfl | rfl <;> assumption
theorem fh (n:Int):(oo n).size<=24:=by rw [KP];decide
theorem Ed (b:Bool):(stD b).size<=24:=by cases b <;> decide
theorem PS (h:RR w r s d t p) (cO:kE r):aj T_ 85 [RA r s d t p] w (.tuple #[.string (Ka r),.q (ew r)]):=by
 obtain ⟨h1,h2,h3,h4⟩:=h.one;have dD:∀ w',aK [] w w'->aj T_ 34 [.agg #[.int .i64 r.lv,.int .i64 r.ma,s,d,t,p]] w' (.int .i64 (ew r)):=fun w' hk=>dR (h.keeps hk) cO
 have Hy:=h.sr;have HH:=h.de;have CR:=h.ti;have La:=h.po;obtain ⟨a1,eJ,QS,P7,rfl,qp,jc,mG,kc⟩:=Hy;obtain ⟨a2,dB,QR,P6,rfl,ki,fB,jT,jS⟩:=HH;obtain ⟨a3,ep,Mk,Ko,rfl,nR,gP,uh,qI⟩:=CR;obtain ⟨a4,gz,WN,RZ,rfl,yV,mR,Ig,AT⟩:=La;rw [cR] at *;rw [cB] at *;rw [cr] at *;rw [c5] at *;unfold maxLen at jc fB gP mR;unfold RA;refine ah func85 I I ?_
 (refine Jr<|Jy I I fun _ _=>Ja I<|Ja I<|Jn<|Jq<|Jr<|ab (cK .here) I<|ai bz I (fun w' aA=>(dD w' (Mem.keeps aA)))<|Ja I<|Ji<|Jv I<|JD I<|Jn<|gB I (fun ar=>?_) fun ar=>?_;refine Jr<|Jv I<|Ja I<|Ja I<|Jn<|Ju<|pC I (gq I I I) ?_;rotate_left;refine Jk<|Jr<|ai lK I (fun w' aA=>(Pf w'))<|Jz I I fun _ _=>an (.of I) (.of I) .here I I (aM I (aM I (WZ I I I I I I I I))) (bG I) ak<|Jn<|Jq ?_;rotate_right)
 ·unfold Ka;rw [if_neg ar]
 have h0:ew r=0:=Zq.1 ar;have hN:=prn h0;have e0:Ka r=XZ r:=if_pos h0;rw [e0,h0];unfold E3
 skip
 try simp only [setCells,List.set_cons_zero,List.set_cons_succ]
 have q1:=hN.n0
 with_reducible refine dP 12 (by kernel_rfl) ?_
 (refine aq (fun β=>(gS (.of I) (.of I) (by omega) (by omega) bn)) br I<|aq (fun β=>(az (.of I) ae)) br I<|aq (fun β=>(ag (.of I) (At.lit .here I))) br I<|aq (fun β=>(az (.of I) ae)) br I<|aq (fun β=>(ag (.of I) (At.lit (.there .here) I))) br I ?_)
 dsimp only [Nat.zero_add,Nat.reduceAdd]
 with_reducible apply cy (B:=[]) (F:=fun _=>.string (oo r.lv)) (args:=fun _=>[.q r.lv])
 case hB=>rfl
 case hr=>exact fun β=>aZ (.of I) (.o I .nil) inferInstance I
 case hi=>exact br
 case hd=>rfl
 case hc=>exact fun β w' dF=>oO _ (by omega) (by omega) _
 dsimp only [Nat.reduceAdd]
 (refine aq (fun β=>(az (.of I) ae)) br I<|aq (fun β=>(ag (.of I) (At.lit (.there .here) I))) br I ?_)
 dsimp only [Nat.zero_add,Nat.reduceAdd]
 with_reducible apply cy (B:=[]) (F:=fun _=>.string (oo r.ma)) (args:=fun _=>[.q r.ma])
 case hB=>rfl
 case hr=>exact fun β=>aZ (.of I) (.o I .nil) inferInstance I
 case hi=>exact br
 case hd=>rfl
 case hc=>exact fun β w' dF=>oO _ (by omega) (by omega) _
 dsimp only [Nat.reduceAdd]
 skip
 refine jN (fun β=>(aC (.o I (.o I (.o I .nil))) I I I I)) (fun _ _ _=>rfl) I ?_;dsimp only [Nat.zero_add,Nat.reduceAdd]
 with_reducible apply cy (B:=[9]) (F:=fun _=>.string (Xf r)) (args:=fun β=>[.slice (some ⟨fk (β 9),0,none⟩) 3 3])
 case hB=>kernel_rfl
 case hr=>exact fun β=>aZ (.of I) (.o I .nil) inferInstance I
 case hi=>exact br
 case hd=>rfl
 case hc=>
  intro β w' dF;have mK:=dF.at 9 Zr (s:=⟨fun β=>.slice (some ⟨fk (β 9),0,none⟩) 3 3,fun β=>[bo (fk (β 9)) (.cells #[.string wR,.string (oo r.lv),.string (oo r.ma)] 9)]⟩) (by kernel_rfl)
  dsimp only [Zb,Za] at mK;exact sR (l:=[wR,oo r.lv,oo r.ma]) (Mem.dh mK (by exact .here) I I) (by simp) (sQ (by decide) (fh _) (fh _))
 dsimp only [Nat.reduceAdd];refine aq (fun β=>(cS (.of I))) br I ?_;refine fo fun β=>?_;dsimp only [eB,Za,Zb,List.append_eq,Nat.reduceAdd]
 with_reducible refine cM (by kernel_rfl) ?_
 (refine Jt<|Jq<|Jr<|bP I I ae<|JL I bF I<|JI I<|Jv I<|Jn<|J0 ?_)
 rename_i b1 tN b5 MY;generalize fk (β 9)=b9;clear β;have hA:(Xf r).size<=101:=gO (by simp) (sQ (by decide) (fh _) (fh _));unfold XZ;generalize Xf r=A at hA ⊢;refine a7 (ι:=Nat×ByteArray) (fun y=>y.1<=r.sr.length/\y.2=mV A ((r.sr.take y.1).map Ox)) (fun y=>[(36,.q (y.1:Nat)),(35,.q r.sr.length),(34,.slice a1 r.sr.length eJ),(6,.string y.2),(5,.p b5),(1,.p b1)]) (fun _=>[bo b5 (.cells #[.string ⟨#[114,111,117,116,101,114]⟩,.func (.func 271) #[] #[],.string ⟨#[115,111,117,114,99,101]⟩,.func (.func 273) #[] #[],.string ⟨#[100,101,115,116,105,110,97,116,105,111,110]⟩,.func (.func 275) #[] #[],.string ⟨#[116,105,101]⟩,.func (.func 276) #[] #[],.string ⟨#[112,111,105,110,116]⟩,.func (.func 277) #[] #[]] 265 (0,0)),JP b1 r (.slice a1 r.sr.length eJ) (.slice a2 r.de.length dB) (.slice a3 r.ti.length ep) (.slice a4 r.po.length gz)]) (fun y=>r.sr.length-y.1) ?_ ?_
 ·apply aI (0,A) ⟨Zi _,I⟩
  case hs1=>exact cu
  case ht=>
   exact .cons (.there .here) (.cons (.there .here) .nil)
 rintro ⟨k,S⟩ ⟨hk,hS⟩;dsimp only at hk hS ⊢;by_cases aN:k<r.sr.length
 ·have cP:=mG (iK aN);have aB:=(kc k _ (fY aN)).2;have hx:=hN.sr _ (Zj aN);have lL:=pW (a:=A) (f:=Ox) aN;rw [<- hS] at lL;unfold Sr.cells at aB;generalize r.sr[k]=x at aB hx lL;have hz:(Ox x).size<=101:=gO (by simp) (sQ (by decide) hx.1 (fh _));have S9:S.size<=A.size+101*r.sr.length:=by rw [hS];exact pX fun y hy=>gO (by simp) (sQ (by decide) (hN.sr y hy).1 (fh _))
  have VH:=hN.len;have hb:S.size+(Ox x).size<=9223372036854775807:=by omega
  (refine Jr<|JA I<|Jn<|Jq<|Jd I fun ar=>Jk<|Jq<|J0<|Jr<|ab (fZ cP ar) I<|ab (iA (eV.base aB I)) I<|Jz I I fun _ _=>an (.of I) (.of I) .here I I (gJ I I) (bG I) ak<|Jn ?_)
  with_reducible refine dP 13 (by kernel_rfl) ?_
  (refine aq (fun β=>(aX (.of I))) br I<|aq (fun β=>(gS (.of I) (.of I) (by omega) (by omega) bn)) br I<|aq (fun β=>(az (.of I) ae)) br I<|aq (fun β=>(ag (.of I) (At.lit (.there .here) I))) br I<|aq (fun β=>(az (.of I) ae)) br I<|aq (fun β=>(ag (.of I) (At.lit .here I))) br I<|aq (fun β=>(az (.of I) ae)) br I<|aq (fun β=>(ag (.of I) (At.lit .here I))) br I ?_)
  dsimp only [Nat.zero_add,Nat.reduceAdd]
  with_reducible apply cy (B:=[]) (F:=fun _=>.string (oo x.mx)) (args:=fun _=>[.q x.mx])
  case hB=>rfl
  case hr=>exact fun β=>aZ (.of I) (.o I .nil) inferInstance I
  case hi=>exact br
  case hd=>rfl
  case hc=>exact fun β w' dF=>oO _ (by omega) (by omega) _
  dsimp only [Nat.reduceAdd]
  skip
  refine jN (fun β=>(aC (.o I (.o I (.o I .nil))) I I I I)) (fun _ _ _=>rfl) I ?_;dsimp only [Nat.zero_add,Nat.reduceAdd]
  with_reducible apply cy (B:=[9]) (F:=fun _=>.string (Ox x)) (args:=fun β=>[.slice (some ⟨fk (β 9),0,none⟩) 3 3])
  case hB=>kernel_rfl
  case hr=>exact fun β=>aZ (.of I) (.o I .nil) inferInstance I
  case hi=>exact br
  case hd=>rfl
  case hc=>
   intro β w' dF;have mK:=dF.at 9 Zr (s:=⟨fun β=>.slice (some ⟨fk (β 9),0,none⟩) 3 3,fun β=>[bo (fk (β 9)) (.cells #[.string wS,.string x.nm,.string (oo x.mx)] 9)]⟩) (by kernel_rfl)
   dsimp only [Zb,Za] at mK;exact sR (l:=[wS,x.nm,oo x.mx]) (Mem.dh mK (by exact .here) I I) (by simp) (sQ (by decide) hx.1 (fh _))
  dsimp only [Nat.reduceAdd]
  (refine aq (fun β=>(sK (.of I) (.of I) hb)) br I<|aq (fun β=>(cS (.of I))) br I ?_)
  refine fo fun β=>?_;dsimp only [eB,Za,Zb,List.append_eq,Nat.reduceAdd]
  with_reducible refine cM (by kernel_rfl) ?_
  refine Jj<|Jt<|Jg<|JB I (by omega)<|Jv I<|Jn ?_;apply aL (k+1,_) (show _/\_ from ⟨by omega,lL.symm⟩) (show r.sr.length-(k+1)<r.sr.length-k by omega)
  case hs1=>exact cu
  case ht=>
   exact .cons bF (.cons bF .nil)
 obtain rfl:k=r.sr.length:=by omega
 rw [ZL] at hS;subst hS;have hA:(mV A (r.sr.map Ox)).size<=909:=by
  have:=mU (n:=101) (a:=A) (l:=r.sr.map Ox) (by
   intro x hx;obtain ⟨y,hy,rfl⟩:=Zo.1 hx;exact gO (by simp) (sQ (by decide) (hN.sr y hy).1 (fh _)))
  rw [Zd] at this;have:=hN.len;omega
 generalize mV A (r.sr.map Ox)=A at hA ⊢;clear aN hk
 (refine Jr<|JA I<|Jn<|Jq<|Jc I fun ar=>Jp<|Jl<|Jo<|Jt<|Jq<|Jr<|bP I I ae<|JL I (.there .here) I<|JI I<|Jv I<|Jn<|J0 ?_)
 refine a7 (ι:=Nat×ByteArray) (fun y=>y.1<=r.de.length/\y.2=mV A ((r.de.take y.1).map MS)) (fun y=>[(56,.q (y.1:Nat)),(55,.q r.de.length),(54,.slice a2 r.de.length dB),(6,.string y.2),(5,.p b5),(1,.p b1)]) (fun _=>[bo b5 (.cells #[.string ⟨#[114,111,117,116,101,114]⟩,.func (.func 271) #[] #[],.string ⟨#[115,111,117,114,99,101]⟩,.func (.func 273) #[] #[],.string ⟨#[100,101,115,116,105,110,97,116,105,111,110]⟩,.func (.func 275) #[] #[],.string ⟨#[116,105,101]⟩,.func (.func 276) #[] #[],.string ⟨#[112,111,105,110,116]⟩,.func (.func 277) #[] #[]] 265 (0,0)),JP b1 r (.slice a1 r.sr.length eJ) (.slice a2 r.de.length dB) (.slice a3 r.ti.length ep) (.slice a4 r.po.length gz)]) (fun y=>r.de.length-y.1) ?_ ?_
 ·apply aI (0,A) ⟨Zi _,I⟩
  case hs1=>exact cu
  case ht=>
   exact .h2 .nil
 rintro ⟨k,S⟩ ⟨hk,hS⟩;dsimp only at hk hS ⊢;by_cases aN:k<r.de.length
 ·have cP:=jT (gI aN);have aB:=(jS k _ (fm aN)).2;have hx:=hN.de _ (Zj aN);have lL:=pW (a:=A) (f:=MS) aN;rw [<- hS] at lL;unfold De.cells at aB;generalize r.de[k]=x at aB hx lL;have hz:(MS x).size<=101:=gO (by simp) (jh (by decide) hx.1 (fh _) (Ed _));have S9:S.size<=A.size+101*r.de.length:=by rw [hS];exact pX fun y hy=>gO (by simp) (jh (by decide) (hN.de y hy).1 (fh _) (Ed _))
  have VH:=hN.len;have hb:S.size+(MS x).size<=9223372036854775807:=by omega
  clear hz S9 VH;obtain ⟨xn,xm,xp⟩:=x;dsimp only at aB hx lL hb ⊢;cases xp
  ·(refine Jr<|JA I<|Jn<|Jq<|Jd I fun ar=>Jk<|Jq<|J0<|Jr<|ab (fZ cP ar) I<|ab (iA (eV.base aB I)) I<|Jz I I fun _ _=>an (.of I) (.of I) .here I I (fq I I I) (bG I) ak<|Ji<|Ja I<|Jn<|Jq<|Jr<|bP I I ae<|JL I .here I<|Jn<|bE (.of I)<|Jk ?_)
   with_reducible refine dP 14 (by kernel_rfl) ?_
   (refine aq (fun β=>(aX (.of I))) br I<|aq (fun β=>(gS (.of I) (.of I) (by omega) (by omega) bn)) br I<|aq (fun β=>(az (.of I) ae)) br I<|aq (fun β=>(ag (.of I) (At.lit (.there .here) I))) br I<|aq (fun β=>(az (.of I) ae)) br I<|aq (fun β=>(ag (.of I) (At.lit .here I))) br I<|aq (fun β=>(az (.of I) ae)) br I<|aq (fun β=>(ag (.of I) (At.lit .here I))) br I ?_)
   dsimp only [Nat.zero_add,Nat.reduceAdd]
   with_reducible apply cy (B:=[]) (F:=fun _=>.string (oo xm)) (args:=fun _=>[.q xm])
   case hB=>rfl
   case hr=>exact fun β=>aZ (.of I) (.o I .nil) inferInstance I
   case hi=>exact br
   case hd=>rfl
   case hc=>exact fun β w' dF=>oO _ (by omega) (by omega) _
   dsimp only [Nat.reduceAdd];refine aq (fun β=>(aX (.of I))) br I ?_;refine jN (fun β=>(aC (.o I (.o I (.o I (.o I .nil)))) I I I I)) (fun _ _ _=>rfl) I ?_;dsimp only [Nat.zero_add,Nat.reduceAdd]
   with_reducible apply cy (B:=[10]) (F:=fun _=>.string (MS ⟨xn,xm,false⟩)) (args:=fun β=>[.slice (some ⟨fk (β 10),0,none⟩) 4 4])
   case hB=>kernel_rfl
   case hr=>exact fun β=>aZ (.of I) (.o I .nil) inferInstance I
   case hi=>exact br
   case hd=>rfl
   case hc=>
    intro β w' dF;have mK:=dF.at 10 Zr (s:=⟨fun β=>.slice (some ⟨fk (β 10),0,none⟩) 4 4,fun β=>[bo (fk (β 10)) (.cells #[.string wD,.string xn,.string (oo xm),.string Ir] 9)]⟩) (by kernel_rfl)
    dsimp only [Zb,Za] at mK;exact sR (l:=[wD,xn,oo xm,Ir]) (Mem.dh mK (by exact .here) I I) (by simp) (jh (by decide) hx.1 (fh _) (by decide))
   dsimp only [Nat.reduceAdd]
   (refine aq (fun β=>(sK (.of I) (.of I) hb)) br I<|aq (fun β=>(cS (.of I))) br I ?_)
   refine fo fun β=>?_;dsimp only [eB,Za,Zb,List.append_eq,Nat.reduceAdd]
   with_reducible refine cM (by kernel_rfl) ?_
   refine Jj<|Jt<|Jg<|JB I (by omega)<|Jv I<|Jn ?_;apply aL (k+1,_) (show _/\_ from ⟨by omega,lL.symm⟩) (show r.de.length-(k+1)<r.de.length-k by omega)
   case hs1=>exact cu
   case ht=>
    exact .cons bF (.cons bF .nil)
  ·(refine Jr<|JA I<|Jn<|Jq<|Jd I fun ar=>Jk<|Jq<|J0<|Jr<|ab (fZ cP ar) I<|ab (iA (eV.base aB I)) I<|Jz I I fun _ _=>an (.of I) (.of I) .here I I (fq I I I) (bG I) ak<|Ji<|Ja I<|Jn<|Jq<|Jr<|bP I I ae<|JL I .here I<|Jn<|cL (.of I)<|Jg<|Ja I<|Jn ?_)
   with_reducible refine dP 14 (by kernel_rfl) ?_
   (refine aq (fun β=>(aX (.of I))) br I<|aq (fun β=>(gS (.of I) (.of I) (by omega) (by omega) bn)) br I<|aq (fun β=>(az (.of I) ae)) br I<|aq (fun β=>(ag (.of I) (At.lit (.there .here) I))) br I<|aq (fun β=>(az (.of I) ae)) br I<|aq (fun β=>(ag (.of I) (At.lit .here I))) br I<|aq (fun β=>(az (.of I) ae)) br I<|aq (fun β=>(ag (.of I) (At.lit .here I))) br I ?_)
   dsimp only [Nat.zero_add,Nat.reduceAdd]
   with_reducible apply cy (B:=[]) (F:=fun _=>.string (oo xm)) (args:=fun _=>[.q xm])
   case hB=>rfl
   case hr=>exact fun β=>aZ (.of I) (.o I .nil) inferInstance I
   case hi=>exact br
   case hd=>rfl
   case hc=>exact fun β w' dF=>oO _ (by omega) (by omega) _
   dsimp only [Nat.reduceAdd];refine aq (fun β=>(aX (.of I))) br I ?_;refine jN (fun β=>(aC (.o I (.o I (.o I (.o I .nil)))) I I I I)) (fun _ _ _=>rfl) I ?_;dsimp only [Nat.zero_add,Nat.reduceAdd]
   with_reducible apply cy (B:=[10]) (F:=fun _=>.string (MS ⟨xn,xm,true⟩)) (args:=fun β=>[.slice (some ⟨fk (β 10),0,none⟩) 4 4])
   case hB=>kernel_rfl
   case hr=>exact fun β=>aZ (.of I) (.o I .nil) inferInstance I
   case hi=>exact br
   case hd=>rfl
   case hc=>
    intro β w' dF;have mK:=dF.at 10 Zr (s:=⟨fun β=>.slice (some ⟨fk (β 10),0,none⟩) 4 4,fun β=>[bo (fk (β 10)) (.cells #[.string wD,.string xn,.string (oo xm),.string Iq] 9)]⟩) (by kernel_rfl)
    dsimp only [Zb,Za] at mK;exact sR (l:=[wD,xn,oo xm,Iq]) (Mem.dh mK (by exact .here) I I) (by simp) (jh (by decide) hx.1 (fh _) (by decide))
   dsimp only [Nat.reduceAdd]
   (refine aq (fun β=>(sK (.of I) (.of I) hb)) br I<|aq (fun β=>(cS (.of I))) br I ?_)
   refine fo fun β=>?_;dsimp only [eB,Za,Zb,List.append_eq,Nat.reduceAdd]
   with_reducible refine cM (by kernel_rfl) ?_
   refine Jj<|Jt<|Jg<|JB I (by omega)<|Jv I<|Jn ?_;apply aL (k+1,_) (show _/\_ from ⟨by omega,lL.symm⟩) (show r.de.length-(k+1)<r.de.length-k by omega)
   case hs1=>exact cu
   case ht=>
    exact .cons bF (.cons bF .nil)
 obtain rfl:k=r.de.length:=by omega
 rw [ZL] at hS;subst hS;have hA:(mV A (r.de.map MS)).size<=1717:=by
  have:=mU (n:=101) (a:=A) (l:=r.de.map MS) (by
   intro x hx;obtain ⟨y,hy,rfl⟩:=Zo.1 hx;exact gO (by simp) (jh (by decide) (hN.de y hy).1 (fh _) (Ed _)))
  rw [Zd] at this;have:=hN.len;omega
 generalize mV A (r.de.map MS)=A at hA ⊢;clear aN hk
 (refine Jr<|JA I<|Jn<|Jq<|Jc I fun ar=>Jp<|Jl<|Jo<|Jt<|Jq<|Jr<|bP I I ae<|JL I (.there .here) I<|JI I<|Jv I<|Jn<|J0 ?_)
 refine a7 (ι:=Nat×ByteArray) (fun y=>y.1<=r.ti.length/\y.2=mV A ((r.ti.take y.1).map Ow)) (fun y=>[(79,.q (y.1:Nat)),(78,.q r.ti.length),(77,.slice a3 r.ti.length ep),(6,.string y.2),(5,.p b5),(1,.p b1)]) (fun _=>[bo b5 (.cells #[.string ⟨#[114,111,117,116,101,114]⟩,.func (.func 271) #[] #[],.string ⟨#[115,111,117,114,99,101]⟩,.func (.func 273) #[] #[],.string ⟨#[100,101,115,116,105,110,97,116,105,111,110]⟩,.func (.func 275) #[] #[],.string ⟨#[116,105,101]⟩,.func (.func 276) #[] #[],.string ⟨#[112,111,105,110,116]⟩,.func (.func 277) #[] #[]] 265 (0,0)),JP b1 r (.slice a1 r.sr.length eJ) (.slice a2 r.de.length dB) (.slice a3 r.ti.length ep) (.slice a4 r.po.length gz)]) (fun y=>r.ti.length-y.1) ?_ ?_
 ·apply aI (0,A) ⟨Zi _,I⟩
  case hs1=>exact cu
  case ht=>
   exact .h2 .nil
 rintro ⟨k,S⟩ ⟨hk,hS⟩;dsimp only at hk hS ⊢;by_cases aN:k<r.ti.length
 ·have cP:=uh (fF aN);have aB:=(qI k _ (eO aN)).2;have hx:=hN.ti _ (Zj aN);have lL:=pW (a:=A) (f:=Ow) aN;rw [<- hS] at lL;unfold Ti.cells at aB;generalize r.ti[k]=x at aB hx lL;have hz:(Ow x).size<=101:=gO (by simp) (jh (by decide) hx.1 (fh _) (fh _));have S9:S.size<=A.size+101*r.ti.length:=by rw [hS];exact pX fun y hy=>gO (by simp) (jh (by decide) (hN.ti y hy).1 (fh _) (fh _))
  have VH:=hN.len;have hb:S.size+(Ow x).size<=9223372036854775807:=by omega
  (refine Jr<|JA I<|Jn<|Jq<|Jd I fun ar=>Jk<|Jq<|J0<|Jr<|ab (fZ cP ar) I<|ab (iA (eV.base aB I)) I<|Jz I I fun _ _=>an (.of I) (.of I) .here I I (fq I I I) (bG I) ak<|Jn ?_)
  with_reducible refine dP 16 (by kernel_rfl) ?_
  (refine aq (fun β=>(aX (.of I))) br I<|aq (fun β=>(gS (.of I) (.of I) (by omega) (by omega) bn)) br I<|aq (fun β=>(az (.of I) ae)) br I<|aq (fun β=>(ag (.of I) (At.lit (.there .here) I))) br I<|aq (fun β=>(az (.of I) ae)) br I<|aq (fun β=>(ag (.of I) (At.lit .here I))) br I<|aq (fun β=>(az (.of I) ae)) br I<|aq (fun β=>(ag (.of I) (At.lit .here I))) br I ?_)
  dsimp only [Nat.zero_add,Nat.reduceAdd]
  with_reducible apply cy (B:=[]) (F:=fun _=>.string (oo x.fr)) (args:=fun _=>[.q x.fr])
  case hB=>rfl
  case hr=>exact fun β=>aZ (.of I) (.o I .nil) inferInstance I
  case hi=>exact br
  case hd=>rfl
  case hc=>exact fun β w' dF=>oO _ (by omega) (by omega) _
  dsimp only [Nat.reduceAdd]
  (refine aq (fun β=>(az (.of I) ae)) br I<|aq (fun β=>(ag (.of I) (At.lit .here I))) br I ?_)
  dsimp only [Nat.zero_add,Nat.reduceAdd]
  with_reducible apply cy (B:=[]) (F:=fun _=>.string (oo x.to)) (args:=fun _=>[.q x.to])
  case hB=>rfl
  case hr=>exact fun β=>aZ (.of I) (.o I .nil) inferInstance I
  case hi=>exact br
  case hd=>rfl
  case hc=>exact fun β w' dF=>oO _ (by omega) (by omega) _
  dsimp only [Nat.reduceAdd]
  skip
  refine jN (fun β=>(aC (.o I (.o I (.o I (.o I .nil)))) I I I I)) (fun _ _ _=>rfl) I ?_;dsimp only [Nat.zero_add,Nat.reduceAdd]
  with_reducible apply cy (B:=[12]) (F:=fun _=>.string (Ow x)) (args:=fun β=>[.slice (some ⟨fk (β 12),0,none⟩) 4 4])
  case hB=>kernel_rfl
  case hr=>exact fun β=>aZ (.of I) (.o I .nil) inferInstance I
  case hi=>exact br
  case hd=>rfl
  case hc=>
   intro β w' dF;have mK:=dF.at 12 Zr (s:=⟨fun β=>.slice (some ⟨fk (β 12),0,none⟩) 4 4,fun β=>[bo (fk (β 12)) (.cells #[.string wT,.string x.nm,.string (oo x.fr),.string (oo x.to)] 9)]⟩) (by kernel_rfl)
   dsimp only [Zb,Za] at mK;exact sR (l:=[wT,x.nm,oo x.fr,oo x.to]) (Mem.dh mK (by exact .here) I I) (by simp) (jh (by decide) hx.1 (fh _) (fh _))
  dsimp only [Nat.reduceAdd]
  (refine aq (fun β=>(sK (.of I) (.of I) hb)) br I<|aq (fun β=>(cS (.of I))) br I ?_)
  refine fo fun β=>?_;dsimp only [eB,Za,Zb,List.append_eq,Nat.reduceAdd]
  with_reducible refine cM (by kernel_rfl) ?_
  refine Jj<|Jt<|Jg<|JB I (by omega)<|Jv I<|Jn ?_;apply aL (k+1,_) (show _/\_ from ⟨by omega,lL.symm⟩) (show r.ti.length-(k+1)<r.ti.length-k by omega)
  case hs1=>exact cu
  case ht=>
   exact .cons bF (.cons bF .nil)
 obtain rfl:k=r.ti.length:=by omega
 rw [ZL] at hS;subst hS;have hA:(mV A (r.ti.map Ow)).size<=2323:=by
  have:=mU (n:=101) (a:=A) (l:=r.ti.map Ow) (by
   intro x hx;obtain ⟨y,hy,rfl⟩:=Zo.1 hx;exact gO (by simp) (jh (by decide) (hN.ti y hy).1 (fh _) (fh _)))
  rw [Zd] at this;have:=hN.len;omega
 generalize mV A (r.ti.map Ow)=A at hA ⊢;clear aN hk
 (refine Jr<|JA I<|Jn<|Jq<|Jc I fun ar=>Jp<|Jl<|Jo<|Jt<|Jq<|Jr<|bP I I ae<|JL I (.there .here) I<|JI I<|Jv I<|Jn<|J0 ?_)
 refine a7 (ι:=Nat×ByteArray) (fun y=>y.1<=r.po.length/\y.2=mV A ((r.po.take y.1).map TW)) (fun y=>[(102,.q (y.1:Nat)),(101,.q r.po.length),(100,.slice a4 r.po.length gz),(6,.string y.2),(5,.p b5),(1,.p b1)]) (fun _=>[bo b5 (.cells #[.string ⟨#[114,111,117,116,101,114]⟩,.func (.func 271) #[] #[],.string ⟨#[115,111,117,114,99,101]⟩,.func (.func 273) #[] #[],.string ⟨#[100,101,115,116,105,110,97,116,105,111,110]⟩,.func (.func 275) #[] #[],.string ⟨#[116,105,101]⟩,.func (.func 276) #[] #[],.string ⟨#[112,111,105,110,116]⟩,.func (.func 277) #[] #[]] 265 (0,0)),JP b1 r (.slice a1 r.sr.length eJ) (.slice a2 r.de.length dB) (.slice a3 r.ti.length ep) (.slice a4 r.po.length gz)]) (fun y=>r.po.length-y.1) ?_ ?_
 ·apply aI (0,A) ⟨Zi _,I⟩
  case hs1=>exact cu
  case ht=>
   exact .h2 .nil
 rintro ⟨k,S⟩ ⟨hk,hS⟩;dsimp only at hk hS ⊢;by_cases aN:k<r.po.length
 ·have cP:=Ig (ku aN);have aB:=(AT k _ (iE aN)).2;have hx:=hN.po _ (Zj aN);have lL:=pW (a:=A) (f:=TW) aN;rw [<- hS] at lL;unfold Po.cells at aB;generalize r.po[k]=x at aB hx lL;have hz:(TW x).size<=101:=gO (by simp) (jh (by decide) (fh _) hx.1.1 hx.1.2);have S9:S.size<=A.size+101*r.po.length:=by rw [hS];exact pX fun y hy=>gO (by simp) (jh (by decide) (fh _) (hN.po y hy).1.1 (hN.po y hy).1.2)
  have VH:=hN.len;have hb:S.size+(TW x).size<=9223372036854775807:=by omega
  (refine Jr<|JA I<|Jn<|Jq<|Jd I fun ar=>Jk<|Jq<|J0<|Jr<|ab (fZ cP ar) I<|ab (iA (eV.base aB I)) I<|Jz I I fun _ _=>an (.of I) (.of I) .here I I (fq I I I) (bG I) ak<|Jn ?_)
  with_reducible refine dP 15 (by kernel_rfl) ?_
  (refine aq (fun β=>(aX (.of I))) br I<|aq (fun β=>(gS (.of I) (.of I) (by omega) (by omega) bn)) br I<|aq (fun β=>(az (.of I) ae)) br I<|aq (fun β=>(ag (.of I) (At.lit (.there .here) I))) br I<|aq (fun β=>(az (.of I) ae)) br I<|aq (fun β=>(ag (.of I) (At.lit .here I))) br I ?_)
  dsimp only [Nat.zero_add,Nat.reduceAdd]
  with_reducible apply cy (B:=[]) (F:=fun _=>.string (oo x.lv)) (args:=fun _=>[.q x.lv])
  case hB=>rfl
  case hr=>exact fun β=>aZ (.of I) (.o I .nil) inferInstance I
  case hi=>exact br
  case hd=>rfl
  case hc=>exact fun β w' dF=>oO _ (by omega) (by omega) _
  dsimp only [Nat.reduceAdd]
  (refine aq (fun β=>(az (.of I) ae)) br I<|aq (fun β=>(ag (.of I) (At.lit .here I))) br I<|aq (fun β=>(az (.of I) ae)) br I<|aq (fun β=>(ag (.of I) (At.lit .here I))) br I ?_)
  refine jN (fun β=>(aC (.o I (.o I (.o I (.o I .nil)))) I I I I)) (fun _ _ _=>rfl) I ?_;dsimp only [Nat.zero_add,Nat.reduceAdd]
  with_reducible apply cy (B:=[11]) (F:=fun _=>.string (TW x)) (args:=fun β=>[.slice (some ⟨fk (β 11),0,none⟩) 4 4])
  case hB=>kernel_rfl
  case hr=>exact fun β=>aZ (.of I) (.o I .nil) inferInstance I
  case hi=>exact br
  case hd=>rfl
  case hc=>
   intro β w' dF;have mK:=dF.at 11 Zr (s:=⟨fun β=>.slice (some ⟨fk (β 11),0,none⟩) 4 4,fun β=>[bo (fk (β 11)) (.cells #[.string wP,.string (oo x.lv),.string x.ou,.string x.ip] 9)]⟩) (by kernel_rfl)
   dsimp only [Zb,Za] at mK;exact sR (l:=[wP,oo x.lv,x.ou,x.ip]) (Mem.dh mK (by exact .here) I I) (by simp) (jh (by decide) (fh _) hx.1.1 hx.1.2)
  dsimp only [Nat.reduceAdd]
  (refine aq (fun β=>(sK (.of I) (.of I) hb)) br I<|aq (fun β=>(cS (.of I))) br I ?_)
  refine fo fun β=>?_;dsimp only [eB,Za,Zb,List.append_eq,Nat.reduceAdd]
  with_reducible refine cM (by kernel_rfl) ?_
  refine Jj<|Jt<|Jg<|JB I (by omega)<|Jv I<|Jn ?_;apply aL (k+1,_) (show _/\_ from ⟨by omega,lL.symm⟩) (show r.po.length-(k+1)<r.po.length-k by omega)
  case hs1=>exact cu
  case ht=>
   exact .cons bF (.cons bF .nil)
 obtain rfl:k=r.po.length:=by omega
 rw [ZL] at hS;rw [<- hS];refine Jr<|JA I<|Jn<|Jq<|Jc I fun ar=>Jp<|Jl<|Jo<|Jt<|Jr<|Jv I<|Ja I<|Ja I<|Jn<|Je<|pC I (gq I I I) ?_
 rfl
def DE (r:Ro) (x:Value×Value×Value×Value):List bd:=[row 118 2 x.1 r.sr.length (kY r.sr),row 88 3 x.2.1 r.de.length (jQ r.de),row 122 3 x.2.2.1 r.ti.length (l6 r.ti),row 180 3 x.2.2.2 r.po.length (gK r.po)]
def mE (r:Ro):Prop:=r.sr.length<=1000000/\r.de.length<=1000000/\r.ti.length<=1000000/\r.po.length<=1000000
theorem UP (h:RR w r s d t p) (cO:mE r):bb T_ 21 [RA r s d t p] w [] (fun _:Value×Value×Value×Value=>True) (fun x=>RA r x.1 x.2.1 x.2.2.1 x.2.2.2) (fun x=>oA r x):=by
 obtain ⟨h1,h2,h3,h4⟩:=h.one;have Hy:=h.sr;have HH:=h.de;have CR:=h.ti;have La:=h.po;obtain ⟨a1,eJ,QS,P7,rfl,qp,jc,mG,kc⟩:=Hy;obtain ⟨a2,dB,QR,P6,rfl,ki,fB,jT,jS⟩:=HH;obtain ⟨a3,ep,Mk,Ko,rfl,nR,gP,uh,qI⟩:=CR;obtain ⟨a4,gz,WN,RZ,rfl,yV,mR,Ig,AT⟩:=La;rw [cR] at *;rw [cB] at *;rw [cr] at *;rw [c5] at *;unfold maxLen at jc fB gP mR;obtain ⟨f1,f2,f3,f4⟩:=cO;unfold RA;refine aT func21 I I ?_
 (refine Jr<|Jy I I fun _ _=>Jz I I fun _ _=>Ji<|bP I I ae<|JL I (.there .here) I<|bP I I ae<|JL I (.there .here) I<|ab (aU (.o I (.o I .nil)) ak) I<|Jz I I fun _ _=>an (.of I) (.of I) .here I I (gr I I I I I I) (bG I) ak<|Jn<|Jq<|Jr<|bP I I ae<|JL I bF I<|JI I<|Jv I<|Jn<|J0 ?_)
 rename_i b1 tN b2 tM b3 uR;refine aP 186 2 ?_;refine a7 (ι:=Nat×Option Addr×Nat) (fun y=>y.1<=r.sr.length) (fun y=>[(20,.q (y.1:Nat)),(19,.q r.sr.length),(18,.slice a1 r.sr.length eJ),(3,.p b3),(2,.p b2),(1,.p b1)]) (fun y=>[row 186 2 (.slice y.2.1 y.1 y.2.2) y.1 (kY (r.sr.take y.1)),JP b3 r (.slice y.2.1 y.1 y.2.2) (.z) (.z) (.z),bo b2 (.cells #[.q 0,.q 0,.z,.z,.z,.z] 41 (0,0)),JQ b1 r (.slice a1 r.sr.length eJ) (.slice a2 r.de.length dB) (.slice a3 r.ti.length ep) (.slice a4 r.po.length gz)]) (fun y=>r.sr.length-y.1) ?_ ?_
 ·apply aI (0,none,0) (Zi _)
  case hs1=>exact cu
  case ht=>
   exact .h4 .nil
 rintro ⟨k,g1,r5⟩ hk;dsimp only at hk ⊢;by_cases aN:k<r.sr.length
 ·have cP:=mG (iK aN);have aB:=(kc k _ (fY aN)).2;have bh:=B2 aN;have hlen:(kY (r.sr.take k)).length=k*2:=by rw [zQ,Zs];omega
  unfold Sr.cells at aB bh;generalize r.sr[k]=x at aB bh
  (refine Jr<|JA I<|Jn<|Jq<|Jd I fun ar=>Jk<|Jq<|J0<|Jr<|ab (fZ cP ar) I<|ab (iA (eV.base aB I)) I<|Jz I I fun _ _=>an (.of I) (.of I) .here I I (gJ I I) (bG I) ak<|Jn<|Jg<|bP I I ae<|JL I bF I<|ab (cK .here) I<|bu (bB (.o I .nil) I I bR bR ak) I fun _ _=>?_)
  refine bK (.of I) (.of I) bF .here ak (by rfl) (gJ I I) (by rfl) (by rfl) (by rfl) fa (by rfl) ?_;intro v';refine aY (v:=v') (by exact .here) fun gx cx e=>?_;subst e
  (refine bP I I ae<|an (.of I) (.of I) cA I I (eL I) (bG I) ak<|Jx<|Jj<|Jt<|Jg<|JB I (by omega)<|Jv I<|Jn ?_)
  apply aL (k+1,gx,cx) (by show k+1<=r.sr.length;omega) (by show r.sr.length-(k+1)<r.sr.length-k;omega)
  case hs1=>exact cu
  case ht=>
   show bj _ [row 186 2 (.slice gx (k+1) cx) (k+1) (kY (r.sr.take (k+1))),JP b3 r (.slice gx (k+1) cx) (.z) (.z) (.z),bo b2 (.cells #[.q 0,.q 0,.z,.z,.z,.z] 41 (0,0)),JQ b1 r (.slice a1 r.sr.length eJ) (.slice a2 r.de.length dB) (.slice a3 r.ti.length ep) (.slice a4 r.po.length gz)] _;rw [bh];exact .cons (.there .here) (.h1 (.cons bF (.cons bF .nil)))
 obtain rfl:k=r.sr.length:=by omega
 rw [ZL];clear hk aN
 (refine Jr<|JA I<|Jn<|Jq<|Jc I fun ar=>Jp<|Jl<|Jo<|Jt<|Jq<|Jr<|bP I I ae<|JL I cA I<|JI I<|Jv I<|Jn<|J0 ?_)
 refine aP 90 3 ?_;refine a7 (ι:=Nat×Option Addr×Nat) (fun y=>y.1<=r.de.length) (fun y=>[(34,.q (y.1:Nat)),(33,.q r.de.length),(32,.slice a2 r.de.length dB),(3,.p b3),(2,.p b2),(1,.p b1)]) (fun y=>[row 90 3 (.slice y.2.1 y.1 y.2.2) y.1 (jQ (r.de.take y.1)),row 186 2 (.slice g1 r.sr.length r5) r.sr.length (kY r.sr),JP b3 r (.slice g1 r.sr.length r5) (.slice y.2.1 y.1 y.2.2) (.z) (.z),bo b2 (.cells #[.q 0,.q 0,.z,.z,.z,.z] 41 (0,0)),JQ b1 r (.slice a1 r.sr.length eJ) (.slice a2 r.de.length dB) (.slice a3 r.ti.length ep) (.slice a4 r.po.length gz)]) (fun y=>r.de.length-y.1) ?_ ?_
 ·apply aI (0,none,0) (Zi _)
  case hs1=>exact cu
  case ht=>
   exact .h5 .nil
 rintro ⟨k,g2,xO⟩ hk;dsimp only at hk ⊢;by_cases aN:k<r.de.length
 ·have cP:=jT (gI aN);have aB:=(jS k _ (fm aN)).2;have bh:=Dd aN;have hlen:(jQ (r.de.take k)).length=k*3:=by rw [A7,Zs];omega
  unfold De.cells at aB bh;generalize r.de[k]=x at aB bh
  (refine Jr<|JA I<|Jn<|Jq<|Jd I fun ar=>Jk<|Jq<|J0<|Jr<|ab (fZ cP ar) I<|ab (iA (eV.base aB I)) I<|Jz I I fun _ _=>an (.of I) (.of I) .here I I (fq I I I) (bG I) ak<|Jn<|Jg<|bP I I ae<|JL I cA I<|ab (cK .here) I<|bu (bB (.o I .nil) I I bR bR ak) I fun _ _=>?_)
  refine bK (.of I) (.of I) bF .here ak (by rfl) (fq I I I) (by rfl) (by rfl) (by rfl) fa (by rfl) ?_;intro v';refine aY (v:=v') (by exact .here) fun gx cx e=>?_;subst e
  (refine bP I I ae<|an (.of I) (.of I) df I I (eL I) (bG I) ak<|Jx<|Jj<|Jt<|Jg<|JB I (by omega)<|Jv I<|Jn ?_)
  apply aL (k+1,gx,cx) (by show k+1<=r.de.length;omega) (by show r.de.length-(k+1)<r.de.length-k;omega)
  case hs1=>exact cu
  case ht=>
   show bj _ [row 90 3 (.slice gx (k+1) cx) (k+1) (jQ (r.de.take (k+1))),row 186 2 (.slice g1 r.sr.length r5) r.sr.length (kY r.sr),JP b3 r (.slice g1 r.sr.length r5) (.slice gx (k+1) cx) (.z) (.z),bo b2 (.cells #[.q 0,.q 0,.z,.z,.z,.z] 41 (0,0)),JQ b1 r (.slice a1 r.sr.length eJ) (.slice a2 r.de.length dB) (.slice a3 r.ti.length ep) (.slice a4 r.po.length gz)] _;rw [bh];exact .cons (.there .here) (.cons cA (.h1 (.cons bF (.cons bF .nil))))
 obtain rfl:k=r.de.length:=by omega
 rw [ZL];clear hk aN
 (refine Jr<|JA I<|Jn<|Jq<|Jc I fun ar=>Jp<|Jl<|Jo<|Jt<|Jq<|Jr<|bP I I ae<|JL I df I<|JI I<|Jv I<|Jn<|J0 ?_)
 refine aP 187 3 ?_;refine a7 (ι:=Nat×Option Addr×Nat) (fun y=>y.1<=r.ti.length) (fun y=>[(48,.q (y.1:Nat)),(47,.q r.ti.length),(46,.slice a3 r.ti.length ep),(3,.p b3),(2,.p b2),(1,.p b1)]) (fun y=>[row 187 3 (.slice y.2.1 y.1 y.2.2) y.1 (l6 (r.ti.take y.1)),row 90 3 (.slice g2 r.de.length xO) r.de.length (jQ r.de),row 186 2 (.slice g1 r.sr.length r5) r.sr.length (kY r.sr),JP b3 r (.slice g1 r.sr.length r5) (.slice g2 r.de.length xO) (.slice y.2.1 y.1 y.2.2) (.z),bo b2 (.cells #[.q 0,.q 0,.z,.z,.z,.z] 41 (0,0)),JQ b1 r (.slice a1 r.sr.length eJ) (.slice a2 r.de.length dB) (.slice a3 r.ti.length ep) (.slice a4 r.po.length gz)]) (fun y=>r.ti.length-y.1) ?_ ?_
 ·apply aI (0,none,0) (Zi _)
  case hs1=>exact cu
  case ht=>
   exact .h6 .nil
 rintro ⟨k,g3,HO⟩ hk;dsimp only at hk ⊢;by_cases aN:k<r.ti.length
 ·have cP:=uh (fF aN);have aB:=(qI k _ (eO aN)).2;have bh:=BY aN;have hlen:(l6 (r.ti.take k)).length=k*3:=by rw [zK,Zs];omega
  unfold Ti.cells at aB bh;generalize r.ti[k]=x at aB bh
  (refine Jr<|JA I<|Jn<|Jq<|Jd I fun ar=>Jk<|Jq<|J0<|Jr<|ab (fZ cP ar) I<|ab (iA (eV.base aB I)) I<|Jz I I fun _ _=>an (.of I) (.of I) .here I I (fq I I I) (bG I) ak<|Jn<|Jg<|bP I I ae<|JL I df I<|ab (cK .here) I<|bu (bB (.o I .nil) I I bR bR ak) I fun _ _=>?_)
  refine bK (.of I) (.of I) bF .here ak (by rfl) (fq I I I) (by rfl) (by rfl) (by rfl) fa (by rfl) ?_;intro v';refine aY (v:=v') (by exact .here) fun gx cx e=>?_;subst e
  (refine bP I I ae<|an (.of I) (.of I) eG I I (eL I) (bG I) ak<|Jx<|Jj<|Jt<|Jg<|JB I (by omega)<|Jv I<|Jn ?_)
  apply aL (k+1,gx,cx) (by show k+1<=r.ti.length;omega) (by show r.ti.length-(k+1)<r.ti.length-k;omega)
  case hs1=>exact cu
  case ht=>
   show bj _ [row 187 3 (.slice gx (k+1) cx) (k+1) (l6 (r.ti.take (k+1))),row 90 3 (.slice g2 r.de.length xO) r.de.length (jQ r.de),row 186 2 (.slice g1 r.sr.length r5) r.sr.length (kY r.sr),JP b3 r (.slice g1 r.sr.length r5) (.slice g2 r.de.length xO) (.slice gx (k+1) cx) (.z),bo b2 (.cells #[.q 0,.q 0,.z,.z,.z,.z] 41 (0,0)),JQ b1 r (.slice a1 r.sr.length eJ) (.slice a2 r.de.length dB) (.slice a3 r.ti.length ep) (.slice a4 r.po.length gz)] _;rw [bh];exact .cons (.there .here) (.cons cA (.cons cA (.h1 (.cons bF (.cons bF .nil)))))
 obtain rfl:k=r.ti.length:=by omega
 rw [ZL];clear hk aN
 (refine Jr<|JA I<|Jn<|Jq<|Jc I fun ar=>Jp<|Jl<|Jo<|Jt<|Jq<|Jr<|bP I I ae<|JL I eG I<|JI I<|Jv I<|Jn<|J0 ?_)
 refine aP 188 3 ?_;refine a7 (ι:=Nat×Option Addr×Nat) (fun y=>y.1<=r.po.length) (fun y=>[(62,.q (y.1:Nat)),(61,.q r.po.length),(60,.slice a4 r.po.length gz),(3,.p b3),(2,.p b2),(1,.p b1)]) (fun y=>[row 188 3 (.slice y.2.1 y.1 y.2.2) y.1 (gK (r.po.take y.1)),row 187 3 (.slice g3 r.ti.length HO) r.ti.length (l6 r.ti),row 90 3 (.slice g2 r.de.length xO) r.de.length (jQ r.de),row 186 2 (.slice g1 r.sr.length r5) r.sr.length (kY r.sr),JP b3 r (.slice g1 r.sr.length r5) (.slice g2 r.de.length xO) (.slice g3 r.ti.length HO) (.slice y.2.1 y.1 y.2.2),bo b2 (.cells #[.q 0,.q 0,.z,.z,.z,.z] 41 (0,0)),JQ b1 r (.slice a1 r.sr.length eJ) (.slice a2 r.de.length dB) (.slice a3 r.ti.length ep) (.slice a4 r.po.length gz)]) (fun y=>r.po.length-y.1) ?_ ?_
 ·apply aI (0,none,0) (Zi _)
  case hs1=>exact cu
  case ht=>
   exact .h7 .nil
 rintro ⟨k,g4,Wm⟩ hk;dsimp only at hk ⊢;by_cases aN:k<r.po.length
 ·have cP:=Ig (ku aN);have aB:=(AT k _ (iE aN)).2;have bh:=Cy aN;have hlen:(gK (r.po.take k)).length=k*3:=by rw [jg,Zs];omega
  unfold Po.cells at aB bh;generalize r.po[k]=x at aB bh
  (refine Jr<|JA I<|Jn<|Jq<|Jd I fun ar=>Jk<|Jq<|J0<|Jr<|ab (fZ cP ar) I<|ab (iA (eV.base aB I)) I<|Jz I I fun _ _=>an (.of I) (.of I) .here I I (fq I I I) (bG I) ak<|Jn<|Jg<|bP I I ae<|JL I eG I<|ab (cK .here) I<|bu (bB (.o I .nil) I I bR bR ak) I fun _ _=>?_)
  refine bK (.of I) (.of I) bF .here ak (by rfl) (fq I I I) (by rfl) (by rfl) (by rfl) fa (by rfl) ?_;intro v';refine aY (v:=v') (by exact .here) fun gx cx e=>?_;subst e
  (refine bP I I ae<|an (.of I) (.of I) kU I I (eL I) (bG I) ak<|Jx<|Jj<|Jt<|Jg<|JB I (by omega)<|Jv I<|Jn ?_)
  apply aL (k+1,gx,cx) (by show k+1<=r.po.length;omega) (by show r.po.length-(k+1)<r.po.length-k;omega)
  case hs1=>exact cu
  case ht=>
   show bj _ [row 188 3 (.slice gx (k+1) cx) (k+1) (gK (r.po.take (k+1))),row 187 3 (.slice g3 r.ti.length HO) r.ti.length (l6 r.ti),row 90 3 (.slice g2 r.de.length xO) r.de.length (jQ r.de),row 186 2 (.slice g1 r.sr.length r5) r.sr.length (kY r.sr),JP b3 r (.slice g1 r.sr.length r5) (.slice g2 r.de.length xO) (.slice g3 r.ti.length HO) (.slice gx (k+1) cx),bo b2 (.cells #[.q 0,.q 0,.z,.z,.z,.z] 41 (0,0)),JQ b1 r (.slice a1 r.sr.length eJ) (.slice a2 r.de.length dB) (.slice a3 r.ti.length ep) (.slice a4 r.po.length gz)] _;rw [bh];exact .cons (.there .here) (.cons cA (.cons cA (.cons cA (.h1 (.cons bF (.cons bF .nil))))))
 obtain rfl:k=r.po.length:=by omega
 rw [ZL];clear hk aN
 (refine Jr<|JA I<|Jn<|Jq<|Jc I fun ar=>Jp<|Jl<|Jo<|Jt<|Jr<|ab (cK df) I<|an (.of I) (.of I) eG I I (gr I I I I I I) (bG I) ak<|Jn<|Je ?_)
 with_reducible first|apply aR|apply aS
 case he=>exact kQ I inferInstance I .here ak (by rfl)
 case hR=>
  intro w' aA;exact aD (.slice g1 r.sr.length r5,.slice g2 r.de.length xO,.slice g3 r.ti.length HO,.slice g4 r.po.length Wm) trivial (by exact .cons df (.cons cA (.cons bF (.cons (.there .here) .nil)))) aA I
theorem D6 (h:RR w r s d t p) (cO:mE r):bb T_ 57 [RA r s d t p] w [] (fun _:Value×Value×Value×Value=>True) (fun x=>RA r x.1 x.2.1 x.2.2.1 x.2.2.2) (fun x=>DE r x):=by
 obtain ⟨h1,h2,h3,h4⟩:=h.one;have Hy:=h.sr;have HH:=h.de;have CR:=h.ti;have La:=h.po;obtain ⟨a1,eJ,QS,P7,rfl,qp,jc,mG,kc⟩:=Hy;obtain ⟨a2,dB,QR,P6,rfl,ki,fB,jT,jS⟩:=HH;obtain ⟨a3,ep,Mk,Ko,rfl,nR,gP,uh,qI⟩:=CR;obtain ⟨a4,gz,WN,RZ,rfl,yV,mR,Ig,AT⟩:=La;rw [cR] at *;rw [cB] at *;rw [cr] at *;rw [c5] at *;unfold maxLen at jc fB gP mR;obtain ⟨f1,f2,f3,f4⟩:=cO;unfold RA;refine aT func57 I I ?_
 (refine Jr<|Jy I I fun _ _=>Jz I I fun _ _=>Ji<|bP I I ae<|JL I (.there .here) I<|bP I I ae<|JL I (.there .here) I<|ab (aU (.o I (.o I .nil)) ak) I<|Jz I I fun _ _=>an (.of I) (.of I) .here I I (gr I I I I I I) (bG I) ak<|Jn<|Jq<|Jr<|bP I I ae<|JL I bF I<|JI I<|Jv I<|Jn<|J0 ?_)
 rename_i b1 tN b2 tM b3 uR;refine aP 118 2 ?_;refine a7 (ι:=Nat×Option Addr×Nat) (fun y=>y.1<=r.sr.length) (fun y=>[(20,.q (y.1:Nat)),(19,.q r.sr.length),(18,.slice a1 r.sr.length eJ),(3,.p b3),(2,.p b2),(1,.p b1)]) (fun y=>[row 118 2 (.slice y.2.1 y.1 y.2.2) y.1 (kY (r.sr.take y.1)),JQ b3 r (.slice y.2.1 y.1 y.2.2) (.z) (.z) (.z),bo b2 (.cells #[.q 0,.q 0,.z,.z,.z,.z] 27 (0,0)),JP b1 r (.slice a1 r.sr.length eJ) (.slice a2 r.de.length dB) (.slice a3 r.ti.length ep) (.slice a4 r.po.length gz)]) (fun y=>r.sr.length-y.1) ?_ ?_
 ·apply aI (0,none,0) (Zi _)
  case hs1=>exact cu
  case ht=>
   exact .h4 .nil
 rintro ⟨k,g1,r5⟩ hk;dsimp only at hk ⊢;by_cases aN:k<r.sr.length
 ·have cP:=mG (iK aN);have aB:=(kc k _ (fY aN)).2;have bh:=B2 aN;have hlen:(kY (r.sr.take k)).length=k*2:=by rw [zQ,Zs];omega
  unfold Sr.cells at aB bh;generalize r.sr[k]=x at aB bh
  (refine Jr<|JA I<|Jn<|Jq<|Jd I fun ar=>Jk<|Jq<|J0<|Jr<|ab (fZ cP ar) I<|ab (iA (eV.base aB I)) I<|Jz I I fun _ _=>an (.of I) (.of I) .here I I (gJ I I) (bG I) ak<|Jn<|Jg<|bP I I ae<|JL I bF I<|ab (cK .here) I<|bu (bB (.o I .nil) I I bR bR ak) I fun _ _=>?_)
  refine bK (.of I) (.of I) bF .here ak (by rfl) (gJ I I) (by rfl) (by rfl) (by rfl) fa (by rfl) ?_;intro v';refine aY (v:=v') (by exact .here) fun gx cx e=>?_;subst e
  (refine bP I I ae<|an (.of I) (.of I) cA I I (eL I) (bG I) ak<|Jx<|Jj<|Jt<|Jg<|JB I (by omega)<|Jv I<|Jn ?_)
  apply aL (k+1,gx,cx) (by show k+1<=r.sr.length;omega) (by show r.sr.length-(k+1)<r.sr.length-k;omega)
  case hs1=>exact cu
  case ht=>
   show bj _ [row 118 2 (.slice gx (k+1) cx) (k+1) (kY (r.sr.take (k+1))),JQ b3 r (.slice gx (k+1) cx) (.z) (.z) (.z),bo b2 (.cells #[.q 0,.q 0,.z,.z,.z,.z] 27 (0,0)),JP b1 r (.slice a1 r.sr.length eJ) (.slice a2 r.de.length dB) (.slice a3 r.ti.length ep) (.slice a4 r.po.length gz)] _;rw [bh];exact .cons (.there .here) (.h1 (.cons bF (.cons bF .nil)))
 obtain rfl:k=r.sr.length:=by omega
 rw [ZL];clear hk aN
 (refine Jr<|JA I<|Jn<|Jq<|Jc I fun ar=>Jp<|Jl<|Jo<|Jt<|Jq<|Jr<|bP I I ae<|JL I cA I<|JI I<|Jv I<|Jn<|J0 ?_)
 refine aP 88 3 ?_;refine a7 (ι:=Nat×Option Addr×Nat) (fun y=>y.1<=r.de.length) (fun y=>[(34,.q (y.1:Nat)),(33,.q r.de.length),(32,.slice a2 r.de.length dB),(3,.p b3),(2,.p b2),(1,.p b1)]) (fun y=>[row 88 3 (.slice y.2.1 y.1 y.2.2) y.1 (jQ (r.de.take y.1)),row 118 2 (.slice g1 r.sr.length r5) r.sr.length (kY r.sr),JQ b3 r (.slice g1 r.sr.length r5) (.slice y.2.1 y.1 y.2.2) (.z) (.z),bo b2 (.cells #[.q 0,.q 0,.z,.z,.z,.z] 27 (0,0)),JP b1 r (.slice a1 r.sr.length eJ) (.slice a2 r.de.length dB) (.slice a3 r.ti.length ep) (.slice a4 r.po.length gz)]) (fun y=>r.de.length-y.1) ?_ ?_
 ·apply aI (0,none,0) (Zi _)
  case hs1=>exact cu
  case ht=>
   exact .h5 .nil
 rintro ⟨k,g2,xO⟩ hk;dsimp only at hk ⊢;by_cases aN:k<r.de.length
 ·have cP:=jT (gI aN);have aB:=(jS k _ (fm aN)).2;have bh:=Dd aN;have hlen:(jQ (r.de.take k)).length=k*3:=by rw [A7,Zs];omega
  unfold De.cells at aB bh;generalize r.de[k]=x at aB bh
  (refine Jr<|JA I<|Jn<|Jq<|Jd I fun ar=>Jk<|Jq<|J0<|Jr<|ab (fZ cP ar) I<|ab (iA (eV.base aB I)) I<|Jz I I fun _ _=>an (.of I) (.of I) .here I I (fq I I I) (bG I) ak<|Jn<|Jg<|bP I I ae<|JL I cA I<|ab (cK .here) I<|bu (bB (.o I .nil) I I bR bR ak) I fun _ _=>?_)
  refine bK (.of I) (.of I) bF .here ak (by rfl) (fq I I I) (by rfl) (by rfl) (by rfl) fa (by rfl) ?_;intro v';refine aY (v:=v') (by exact .here) fun gx cx e=>?_;subst e
  (refine bP I I ae<|an (.of I) (.of I) df I I (eL I) (bG I) ak<|Jx<|Jj<|Jt<|Jg<|JB I (by omega)<|Jv I<|Jn ?_)
  apply aL (k+1,gx,cx) (by show k+1<=r.de.length;omega) (by show r.de.length-(k+1)<r.de.length-k;omega)
  case hs1=>exact cu
  case ht=>
   show bj _ [row 88 3 (.slice gx (k+1) cx) (k+1) (jQ (r.de.take (k+1))),row 118 2 (.slice g1 r.sr.length r5) r.sr.length (kY r.sr),JQ b3 r (.slice g1 r.sr.length r5) (.slice gx (k+1) cx) (.z) (.z),bo b2 (.cells #[.q 0,.q 0,.z,.z,.z,.z] 27 (0,0)),JP b1 r (.slice a1 r.sr.length eJ) (.slice a2 r.de.length dB) (.slice a3 r.ti.length ep) (.slice a4 r.po.length gz)] _;rw [bh];exact .cons (.there .here) (.cons cA (.h1 (.cons bF (.cons bF .nil))))
 obtain rfl:k=r.de.length:=by omega
 rw [ZL];clear hk aN
 (refine Jr<|JA I<|Jn<|Jq<|Jc I fun ar=>Jp<|Jl<|Jo<|Jt<|Jq<|Jr<|bP I I ae<|JL I df I<|JI I<|Jv I<|Jn<|J0 ?_)
 refine aP 122 3 ?_;refine a7 (ι:=Nat×Option Addr×Nat) (fun y=>y.1<=r.ti.length) (fun y=>[(48,.q (y.1:Nat)),(47,.q r.ti.length),(46,.slice a3 r.ti.length ep),(3,.p b3),(2,.p b2),(1,.p b1)]) (fun y=>[row 122 3 (.slice y.2.1 y.1 y.2.2) y.1 (l6 (r.ti.take y.1)),row 88 3 (.slice g2 r.de.length xO) r.de.length (jQ r.de),row 118 2 (.slice g1 r.sr.length r5) r.sr.length (kY r.sr),JQ b3 r (.slice g1 r.sr.length r5) (.slice g2 r.de.length xO) (.slice y.2.1 y.1 y.2.2) (.z),bo b2 (.cells #[.q 0,.q 0,.z,.z,.z,.z] 27 (0,0)),JP b1 r (.slice a1 r.sr.length eJ) (.slice a2 r.de.length dB) (.slice a3 r.ti.length ep) (.slice a4 r.po.length gz)]) (fun y=>r.ti.length-y.1) ?_ ?_
 ·apply aI (0,none,0) (Zi _)
  case hs1=>exact cu
  case ht=>
   exact .h6 .nil
 rintro ⟨k,g3,HO⟩ hk;dsimp only at hk ⊢;by_cases aN:k<r.ti.length
 ·have cP:=uh (fF aN);have aB:=(qI k _ (eO aN)).2;have bh:=BY aN;have hlen:(l6 (r.ti.take k)).length=k*3:=by rw [zK,Zs];omega
  unfold Ti.cells at aB bh;generalize r.ti[k]=x at aB bh
  (refine Jr<|JA I<|Jn<|Jq<|Jd I fun ar=>Jk<|Jq<|J0<|Jr<|ab (fZ cP ar) I<|ab (iA (eV.base aB I)) I<|Jz I I fun _ _=>an (.of I) (.of I) .here I I (fq I I I) (bG I) ak<|Jn<|Jg<|bP I I ae<|JL I df I<|ab (cK .here) I<|bu (bB (.o I .nil) I I bR bR ak) I fun _ _=>?_)
  refine bK (.of I) (.of I) bF .here ak (by rfl) (fq I I I) (by rfl) (by rfl) (by rfl) fa (by rfl) ?_;intro v';refine aY (v:=v') (by exact .here) fun gx cx e=>?_;subst e
  (refine bP I I ae<|an (.of I) (.of I) eG I I (eL I) (bG I) ak<|Jx<|Jj<|Jt<|Jg<|JB I (by omega)<|Jv I<|Jn ?_)
  apply aL (k+1,gx,cx) (by show k+1<=r.ti.length;omega) (by show r.ti.length-(k+1)<r.ti.length-k;omega)
  case hs1=>exact cu
  case ht=>
   show bj _ [row 122 3 (.slice gx (k+1) cx) (k+1) (l6 (r.ti.take (k+1))),row 88 3 (.slice g2 r.de.length xO) r.de.length (jQ r.de),row 118 2 (.slice g1 r.sr.length r5) r.sr.length (kY r.sr),JQ b3 r (.slice g1 r.sr.length r5) (.slice g2 r.de.length xO) (.slice gx (k+1) cx) (.z),bo b2 (.cells #[.q 0,.q 0,.z,.z,.z,.z] 27 (0,0)),JP b1 r (.slice a1 r.sr.length eJ) (.slice a2 r.de.length dB) (.slice a3 r.ti.length ep) (.slice a4 r.po.length gz)] _;rw [bh];exact .cons (.there .here) (.cons cA (.cons cA (.h1 (.cons bF (.cons bF .nil)))))
 obtain rfl:k=r.ti.length:=by omega
 rw [ZL];clear hk aN
 (refine Jr<|JA I<|Jn<|Jq<|Jc I fun ar=>Jp<|Jl<|Jo<|Jt<|Jq<|Jr<|bP I I ae<|JL I eG I<|JI I<|Jv I<|Jn<|J0 ?_)
 refine aP 180 3 ?_;refine a7 (ι:=Nat×Option Addr×Nat) (fun y=>y.1<=r.po.length) (fun y=>[(62,.q (y.1:Nat)),(61,.q r.po.length),(60,.slice a4 r.po.length gz),(3,.p b3),(2,.p b2),(1,.p b1)]) (fun y=>[row 180 3 (.slice y.2.1 y.1 y.2.2) y.1 (gK (r.po.take y.1)),row 122 3 (.slice g3 r.ti.length HO) r.ti.length (l6 r.ti),row 88 3 (.slice g2 r.de.length xO) r.de.length (jQ r.de),row 118 2 (.slice g1 r.sr.length r5) r.sr.length (kY r.sr),JQ b3 r (.slice g1 r.sr.length r5) (.slice g2 r.de.length xO) (.slice g3 r.ti.length HO) (.slice y.2.1 y.1 y.2.2),bo b2 (.cells #[.q 0,.q 0,.z,.z,.z,.z] 27 (0,0)),JP b1 r (.slice a1 r.sr.length eJ) (.slice a2 r.de.length dB) (.slice a3 r.ti.length ep) (.slice a4 r.po.length gz)]) (fun y=>r.po.length-y.1) ?_ ?_
 ·apply aI (0,none,0) (Zi _)
  case hs1=>exact cu
  case ht=>
   exact .h7 .nil
 rintro ⟨k,g4,Wm⟩ hk;dsimp only at hk ⊢;by_cases aN:k<r.po.length
 ·have cP:=Ig (ku aN);have aB:=(AT k _ (iE aN)).2;have bh:=Cy aN;have hlen:(gK (r.po.take k)).length=k*3:=by rw [jg,Zs];omega
  unfold Po.cells at aB bh;generalize r.po[k]=x at aB bh
  (refine Jr<|JA I<|Jn<|Jq<|Jd I fun ar=>Jk<|Jq<|J0<|Jr<|ab (fZ cP ar) I<|ab (iA (eV.base aB I)) I<|Jz I I fun _ _=>an (.of I) (.of I) .here I I (fq I I I) (bG I) ak<|Jn<|Jg<|bP I I ae<|JL I eG I<|ab (cK .here) I<|bu (bB (.o I .nil) I I bR bR ak) I fun _ _=>?_)
  refine bK (.of I) (.of I) bF .here ak (by rfl) (fq I I I) (by rfl) (by rfl) (by rfl) fa (by rfl) ?_;intro v';refine aY (v:=v') (by exact .here) fun gx cx e=>?_;subst e
  (refine bP I I ae<|an (.of I) (.of I) kU I I (eL I) (bG I) ak<|Jx<|Jj<|Jt<|Jg<|JB I (by omega)<|Jv I<|Jn ?_)
  apply aL (k+1,gx,cx) (by show k+1<=r.po.length;omega) (by show r.po.length-(k+1)<r.po.length-k;omega)
  case hs1=>exact cu
  case ht=>
   show bj _ [row 180 3 (.slice gx (k+1) cx) (k+1) (gK (r.po.take (k+1))),row 122 3 (.slice g3 r.ti.length HO) r.ti.length (l6 r.ti),row 88 3 (.slice g2 r.de.length xO) r.de.length (jQ r.de),row 118 2 (.slice g1 r.sr.length r5) r.sr.length (kY r.sr),JQ b3 r (.slice g1 r.sr.length r5) (.slice g2 r.de.length xO) (.slice g3 r.ti.length HO) (.slice gx (k+1) cx),bo b2 (.cells #[.q 0,.q 0,.z,.z,.z,.z] 27 (0,0)),JP b1 r (.slice a1 r.sr.length eJ) (.slice a2 r.de.length dB) (.slice a3 r.ti.length ep) (.slice a4 r.po.length gz)] _;rw [bh];exact .cons (.there .here) (.cons cA (.cons cA (.cons cA (.h1 (.cons bF (.cons bF .nil))))))
 obtain rfl:k=r.po.length:=by omega
 rw [ZL];clear hk aN
 (refine Jr<|JA I<|Jn<|Jq<|Jc I fun ar=>Jp<|Jl<|Jo<|Jt<|Jr<|ab (cK df) I<|an (.of I) (.of I) eG I I (gr I I I I I I) (bG I) ak<|Jn<|Je ?_)
 with_reducible first|apply aR|apply aS
 case he=>exact kQ I inferInstance I .here ak (by rfl)
 case hR=>
  intro w' aA;exact aD (.slice g1 r.sr.length r5,.slice g2 r.de.length xO,.slice g3 r.ti.length HO,.slice g4 r.po.length Wm) trivial (by exact .cons df (.cons cA (.cons bF (.cons (.there .here) .nil)))) aA I
theorem j4 {α:Type} {l m:List α} (hl:k<l.length) (hm:k<m.length) (h:l[k]=m[k]):(l.drop k=m.drop k)↔l.drop (k+1)=m.drop (k+1):=by
 rw [Zu hl,Zu hm,h];exact ⟨fun e=>(List.cons.inj e).2,fun e=>by rw [e]⟩
theorem zW {l m:List ByteArray} (h1:Rd w v1 1 (fX l)) (h2:Rd w v2 1 (fX m)) :
  aj T_ 58 [v1,v2] w (.bool (decide (l=m))):=by
 obtain ⟨a1,WE,b1,o1,rfl,qp,jc,mG,kc⟩:=h1;obtain ⟨a2,oy,b2,o2,rfl,ki,fB,jT,jS⟩:=h2;rw [bX] at *;rw [bX] at *;unfold maxLen at jc fB;refine ah func58 I I ?_
 (refine Jr<|Ja I<|Jn<|Jq<|Jr<|Jv I<|JI I<|Jv I<|JI I<|JD I<|Jn<|gB I (fun ar=>?_) fun ar=>?_;refine Jr<|Ja I<|Jn<|Ju<|JT ?_;rotate_left;refine Jk<|Jq<|Jr<|Ja I<|Jn<|J0 ?_;rotate_right)
 ·rw [decide_eq_false fun e=>ar (by rw [e])]
 have By:l.length=m.length:=by omega
 refine a7 (ι:=Nat) (fun k=>k<=l.length/\(l=m↔l.drop k=m.drop k)) (fun k=>[(5,.q (k:Int)),(0,.slice a1 l.length WE),(1,.slice a2 m.length oy)]) (fun _=>[]) (fun k=>l.length-k) ?_ ?_
 ·apply aI (0:Nat) ⟨Zi _,Iff.rfl⟩
  case hs1=>exact cu
  case ht=>(try simp only [Ze,Zf,Za]);exact .nil
 rintro k ⟨hk,hf⟩;by_cases aN:k<l.length
 ·have fQ:k<m.length:=by omega
  have HK:=mG (mm aN);have ui:=jT (mm fQ);have lr:=(kc k _ (jf aN)).2;have eZ:=(jS k _ (jf fQ)).2;have hd:=j4 (l:=l) (m:=m) aN fQ;have fH:l[k]≠m[k]->l.drop k≠m.drop k:=fun hne e=>hne (by
   rw [Zu aN,Zu fQ] at e;exact (List.cons.inj e).1)
  generalize l[k]=x at lr hd fH;generalize m[k]=y at eZ hd fH;have c1:w.cell? ⟨b1,o1+k*1,none⟩=some (.string x):=lr 0 _ I;have c2:w.cell? ⟨b2,o2+k*1,none⟩=some (.string y):=eZ 0 _ I;refine Jq<|Jr<|Jv I<|Jv I<|JI I<|JA I<|Jn<|Jd I fun ar=>Jk<|Jq<|J0<|Jq ?_
  with_reducible refine ef 9 (by kernel_rfl) ?_
  (refine lH I I<|lH I I<|aO (fZ HK ar) I<|aO (ag (.of I) (At.base c1 I)) I<|lH I I<|lH I I<|aO (au (.of I) (.of I) ui (by omega) (by omega) bn) I<|aO (ag (.of I) (At.base c2 I)) I<|aO (gY (.of I) (.of I)) I ?_)
  with_reducible refine er ?_
  (refine Jn<|gB I (fun ar=>?_) fun ar=>?_;refine Jr<|Ja I<|Jn<|Je<|Jm<|Jh<|Jh<|Jm<|Jh<|JT ?_;rotate_left;refine Jw<|Jj<|Jt<|Jg<|Jv I<|JB I (by omega)<|Ja I<|Jn ?_;rotate_right)
  ·have hne:x≠y:=ar;rw [decide_eq_false fun e=>fH hne (hf.1 e)]
  ·have he:x=y:=Zq.1 ar;clear ar;apply aL (k+1) ⟨(show k+1<=l.length from aN),hf.trans (hd he)⟩ (show l.length-(k+1)<l.length-k by omega)
   case hs1=>exact cu
   case ht=>(try simp only [Ze,Zf,Za]);exact .nil
 ·obtain rfl:k=l.length:=by omega
  have:l=m:=hf.2 (by rw [Z7,By,Z7]);refine Jq<|Jr<|Jv I<|Jv I<|JI I<|JA I<|Jn<|Jc I fun ar=>Jp<|Jl<|Jo<|Jt<|Jr<|Ja I<|Jn<|Je<|JT ?_;rw [decide_eq_true this]
theorem NL {l m:List Int} (h1:Rd w v1 1 (ints l)) (h2:Rd w v2 1 (ints m)) :
  aj T_ 109 [v1,v2] w (.bool (decide (l=m))):=by
 obtain ⟨a1,WE,b1,o1,rfl,qp,jc,mG,kc⟩:=h1;obtain ⟨a2,oy,b2,o2,rfl,ki,fB,jT,jS⟩:=h2;rw [c7] at *;rw [c7] at *;unfold maxLen at jc fB;refine ah func109 I I ?_
 (refine Jr<|Ja I<|Jn<|Jq<|Jr<|Jv I<|JI I<|Jv I<|JI I<|JD I<|Jn<|gB I (fun ar=>?_) fun ar=>?_;refine Jr<|Ja I<|Jn<|Ju<|JT ?_;rotate_left;refine Jk<|Jq<|Jr<|Ja I<|Jn<|J0 ?_;rotate_right)
 ·rw [decide_eq_false fun e=>ar (by rw [e])]
 have By:l.length=m.length:=by omega
 refine a7 (ι:=Nat) (fun k=>k<=l.length/\(l=m↔l.drop k=m.drop k)) (fun k=>[(5,.q (k:Int)),(0,.slice a1 l.length WE),(1,.slice a2 m.length oy)]) (fun _=>[]) (fun k=>l.length-k) ?_ ?_
 ·apply aI (0:Nat) ⟨Zi _,Iff.rfl⟩
  case hs1=>exact cu
  case ht=>(try simp only [Ze,Zf,Za]);exact .nil
 rintro k ⟨hk,hf⟩;by_cases aN:k<l.length
 ·have fQ:k<m.length:=by omega
  have HK:=mG (jG aN);have ui:=jT (jG fQ);have lr:=(kc k _ (iw aN)).2;have eZ:=(jS k _ (iw fQ)).2;have hd:=j4 (l:=l) (m:=m) aN fQ;have fH:l[k]≠m[k]->l.drop k≠m.drop k:=fun hne e=>hne (by
   rw [Zu aN,Zu fQ] at e;exact (List.cons.inj e).1)
  generalize l[k]=x at lr hd fH;generalize m[k]=y at eZ hd fH;have c1:w.cell? ⟨b1,o1+k*1,none⟩=some (.q x):=lr 0 _ I;have c2:w.cell? ⟨b2,o2+k*1,none⟩=some (.q y):=eZ 0 _ I;refine Jq<|Jr<|Jv I<|Jv I<|JI I<|JA I<|Jn<|Jd I fun ar=>Jk<|Jq<|J0<|Jq ?_
  with_reducible refine ef 9 (by kernel_rfl) ?_
  (refine lH I I<|lH I I<|aO (fZ HK ar) I<|aO (ag (.of I) (At.base c1 I)) I<|lH I I<|lH I I<|aO (au (.of I) (.of I) ui (by omega) (by omega) bn) I<|aO (ag (.of I) (At.base c2 I)) I<|aO (gU (.of I) (.of I)) I ?_)
  with_reducible refine er ?_
  (refine Jn<|gB I (fun ar=>?_) fun ar=>?_;refine Jr<|Ja I<|Jn<|Je<|Jm<|Jh<|Jh<|Jm<|Jh<|JT ?_;rotate_left;refine Jw<|Jj<|Jt<|Jg<|Jv I<|JB I (by omega)<|Ja I<|Jn ?_;rotate_right)
  ·have hne:x≠y:=ar;rw [decide_eq_false fun e=>fH hne (hf.1 e)]
  ·have he:x=y:=Zq.1 ar;clear ar;apply aL (k+1) ⟨(show k+1<=l.length from aN),hf.trans (hd he)⟩ (show l.length-(k+1)<l.length-k by omega)
   case hs1=>exact cu
   case ht=>(try simp only [Ze,Zf,Za]);exact .nil
 ·obtain rfl:k=l.length:=by omega
  have:l=m:=hf.2 (by rw [Z7,By,Z7]);refine Jq<|Jr<|Jv I<|Jv I<|JI I<|JA I<|Jn<|Jc I fun ar=>Jp<|Jl<|Jo<|Jt<|Jr<|Ja I<|Jn<|Je<|JT ?_;rw [decide_eq_true this]
theorem Fv (h:Rd w lv 1 (fX l)) (hl:l.length<=1000000) :
  bb T_ 72 [lv] w [] (fun _:Value=>True) id (fun v=>[row 9 1 v l.length (aJ l)]):=by
 refine aT func72 I I ?_
 (refine Jr<|Ja I<|Ji<|bu (aC .nil I I I I) I fun _ _=>Jv I ?_)
 rename_i bq nf;refine ch (g:=bq) (E:=9) (ys:=[]) 0 1 (by exact .here) I I I ?_
 skip
 with_reducible apply il
 case hx=>exact Is.of I
 case hy=>exact Is.of I
 case ht=>exact .here
 case hsrc=>exact fun w' aA=>h.keeps aA.keeps
 case h1=>exact zO l
 case hz=>exact I
 case hsz=>exact I
 case hb0=>exact I
 case hb=>rw [bX];omega
 case hd=>rfl
 intro v';rw [bX,ZH,Za,<- rn];refine Ja I<|Jn<|Je ?_
 with_reducible first|apply aR|apply aS
 case he=>exact dH I I
 case hR=>
  intro w' aA;exact aD v' trivial (by exact .h1 .nil) aA I
theorem UE {r q:Ro}:r=q↔(((((r.lv=q.lv/\r.ma=q.ma)/\r.sr=q.sr)/\r.de=q.de)/\r.ti=q.ti)/\r.po=q.po):=by
 cases r;cases q;simp [and_assoc]
theorem MB {r q:Ro} {s d t p s' d' t' p':Value} (h:RR w r s d t p) (h':RR w q s' d' t' p'):aj T_ 84 [RA r s d t p,RA q s' d' t' p'] w (.bool (decide (r=q))):=by
 obtain ⟨h1,h2,h3,h4⟩:=h.one;have g1:=Rd.one h'.sr;have g2:=Rd.one h'.de;have g3:=Rd.one h'.ti;have g4:=Rd.one h'.po;have Hy:=h.sr;have HH:=h.de;have CR:=h.ti;have La:=h.po;have gs_:=h'.sr;have gd_:=h'.de;have gt_:=h'.ti;have gp_:=h'.po;obtain ⟨a1,eJ,QS,P7,rfl,qp,jc,mG,kc⟩:=Hy;obtain ⟨x1,M6,xs1,xo1,rfl,acK,Wk,ga1,r5⟩:=gs_;obtain ⟨a2,dB,QR,P6,rfl,ki,fB,jT,jS⟩:=HH;obtain ⟨x2,M5,xs2,xo2,rfl,acJ,Wj,ga2,xO⟩:=gd_;obtain ⟨a3,ep,Mk,Ko,rfl,nR,gP,uh,qI⟩:=CR;obtain ⟨x3,M4,xs3,xo3,rfl,acI,Wi,ga3,HO⟩:=gt_;obtain ⟨a4,gz,WN,RZ,rfl,yV,mR,Ig,AT⟩:=La;obtain ⟨x4,M3,xs4,xo4,rfl,acH,Wh,ga4,Wm⟩:=gp_;rw [cR] at *;rw [cR] at *;rw [cB] at *;rw [cB] at *;rw [cr] at *;rw [cr] at *;rw [c5] at *;rw [c5] at *;unfold maxLen at jc fB gP mR Wk Wj Wi Wh;unfold RA;refine ah func84 I I ?_
 (refine Jr<|Jy I I fun _ _=>Jy I I fun _ _=>Ja I<|Jn<|Jq<|Jr<|bP I I ae<|JL I (.there .here) I<|bP I I ae<|JL I .here I<|JD I<|Jv I<|aF I I (fun hg bT=>(az (.of I) ae)) I<|aF I I (fun hg bT=>(ag (.cD hg I) (At.lit (.there .here) I))) I<|aF I I (fun hg bT=>(az (.of I) ae)) I<|aF I I (fun hg bT=>(ag (.cD hg I) (At.lit .here I))) I<|aF I I (fun hg bT=>(gU (.cD hg I) (.cD hg I))) I<|ab (bC (.of I) I) I<|Jv I<|aF I I (fun hg bT=>(az (.of I) ae)) I<|aF I I (fun hg bT=>(ag (.cD hg I) (At.lit (.there .here) I))) I<|aF I I (fun hg bT=>(cI (.cD hg I))) I<|aF I I (fun hg bT=>(az (.of I) ae)) I<|aF I I (fun hg bT=>(ag (.cD hg I) (At.lit .here I))) I<|aF I I (fun hg bT=>(cI (.cD hg I))) I<|aF I I (fun hg bT=>(gU (.cD hg I) (.cD hg I))) I<|ab (bC (.of I) I) I<|Jv I<|aF I I (fun hg bT=>(az (.of I) ae)) I<|aF I I (fun hg bT=>(ag (.cD hg I) (At.lit (.there .here) I))) I<|aF I I (fun hg bT=>(cI (.cD hg I))) I<|aF I I (fun hg bT=>(az (.of I) ae)) I<|aF I I (fun hg bT=>(ag (.cD hg I) (At.lit .here I))) I<|aF I I (fun hg bT=>(cI (.cD hg I))) I<|aF I I (fun hg bT=>(gU (.cD hg I) (.cD hg I))) I<|ab (bC (.of I) I) I<|Jv I<|aF I I (fun hg bT=>(az (.of I) ae)) I<|aF I I (fun hg bT=>(ag (.cD hg I) (At.lit (.there .here) I))) I<|aF I I (fun hg bT=>(cI (.cD hg I))) I<|aF I I (fun hg bT=>(az (.of I) ae)) I<|aF I I (fun hg bT=>(ag (.cD hg I) (At.lit .here I))) I<|aF I I (fun hg bT=>(cI (.cD hg I))) I<|aF I I (fun hg bT=>(gU (.cD hg I) (.cD hg I))) I<|ab (bC (.of I) I) I<|Jv I<|aF I I (fun hg bT=>(az (.of I) ae)) I<|aF I I (fun hg bT=>(ag (.cD hg I) (At.lit (.there .here) I))) I<|aF I I (fun hg bT=>(cI (.cD hg I))) I<|aF I I (fun hg bT=>(az (.of I) ae)) I<|aF I I (fun hg bT=>(ag (.cD hg I) (At.lit .here I))) I<|aF I I (fun hg bT=>(cI (.cD hg I))) I<|aF I I (fun hg bT=>(gU (.cD hg I) (.cD hg I))) I<|ab (bC (.of I) I) I<|Jn<|qv I (fun ar=>?_) fun ar=>?_;refine Jr<|Ja I<|Jn<|Ju<|JT ?_;rotate_left;refine Jk<|Jq<|Jr<|Ja I<|Jn<|J0 ?_;rotate_right)
 ·rw [decide_eq_false fun e=>by subst e;simp at ar]
 simp only [not_or,ne_eq,Zq] at ar;obtain ⟨⟨⟨⟨⟨e1,e2⟩,e3⟩,e4⟩,e5⟩,e6⟩:=ar;rename_i b1 tN b2 tM;refine a7 (ι:=Nat) (fun k=>k<=r.sr.length/\(r.sr=q.sr↔r.sr.drop k=q.sr.drop k)) (fun k=>[(5,.int .i64 (k:Nat)),(3,.pointer (some ⟨b2,0,none⟩)),(2,.pointer (some ⟨b1,0,none⟩))]) (fun _=>[bo b2 (.cells #[.int .i64 q.lv,.int .i64 q.ma,.slice x1 q.sr.length M6,.slice x2 q.de.length M5,.slice x3 q.ti.length M4,.slice x4 q.po.length M3] 27 (0,0)),JQ b1 r (.slice a1 r.sr.length eJ) (.slice a2 r.de.length dB) (.slice a3 r.ti.length ep) (.slice a4 r.po.length gz)]) (fun k=>r.sr.length-k) ?_ ?_
 ·apply aI (0:Nat) ⟨Zi _,Iff.rfl⟩
  case hs1=>exact cu
  case ht=>
   exact .h2 .nil
 rintro k ⟨hk,hf⟩;have el:r.sr.length=q.sr.length:=by omega
 by_cases aN:k<r.sr.length
 ·have fQ:k<q.sr.length:=by omega
  have cP:=mG (iK aN);have Tg:=ga1 (iK fQ);have aB:=(kc k _ (fY aN)).2;have lu:=(r5 k _ (fY fQ)).2;have hd:=j4 (l:=r.sr) (m:=q.sr) aN fQ;have fH:r.sr[k]≠q.sr[k]->r.sr.drop k≠q.sr.drop k:=fun hne e=>hne (by
   rw [Zu aN,Zu fQ] at e;exact (List.cons.inj e).1)
  generalize r.sr[k]=x at aB hd fH;generalize q.sr[k]=y at lu hd fH;unfold Sr.cells at aB lu
  (refine Jq<|Jr<|Jv I<|bP I I ae<|JL I (.there .here) I<|JI I<|JA I<|Jn<|Jd I fun ar=>Jk<|Jq<|J0<|Jq ?_)
  with_reducible refine ef 10 (by kernel_rfl) ?_
  (refine pt I I ae<|aO (ie (.there .here)) I<|lH I I<|aO (fZ cP ar) I<|aO (iA (eV.base aB I)) I<|pt I I ae<|aO (ie .here) I<|lH I I<|aO (au (.of I) (.of I) Tg (by omega) (by omega) bn) I<|aO (iA (eV.base lu I)) I ?_)
  with_reducible refine er ?_
  (refine ab (uD (.of I) (.of I) (fy (ka me)) I) I<|Jn<|qv I (fun ar=>?_) fun ar=>?_;refine Jr<|Ja I<|Jn<|Je<|Jm<|Jh<|Jh<|Jm<|Jh<|JT ?_;rotate_left;refine Jw<|Jj<|Jt<|Jg<|Jv I<|JB I (by omega)<|Ja I<|Jn ?_;rotate_right)
  ·have hne:x≠y:=by
    intro e;subst e;simp at ar
   rw [decide_eq_false fun e=>fH hne (hf.1 (by rw [e]))]
  ·have he:x=y:=by
    obtain ⟨q1,q2,_⟩:=ar;cases x;cases y;dsimp only at q1 q2;subst q1;subst q2
    rfl
   clear ar;apply aL (k+1) ⟨(show k+1<=r.sr.length from aN),hf.trans (hd he)⟩ (show r.sr.length-(k+1)<r.sr.length-k by omega)
   case hs1=>exact cu
   case ht=>
    exact .h2 .nil
 have z1:r.sr=q.sr:=by
  obtain rfl:k=r.sr.length:=by omega
  exact hf.2 (by rw [Z7,el,Z7])
 obtain rfl:k=r.sr.length:=by omega
 clear hk hf aN
 (refine Jq<|Jr<|Jv I<|bP I I ae<|JL I (.there .here) I<|JI I<|JA I<|Jn<|Jc I fun ar=>Jp<|Jl<|Jo<|Jt<|Jq<|Jr<|Ja I<|Jn<|J0 ?_)
 refine a7 (ι:=Nat) (fun k=>k<=r.de.length/\(r.de=q.de↔r.de.drop k=q.de.drop k)) (fun k=>[(6,.q (k:Nat)),(3,.p b2),(2,.p b1)]) (fun _=>[bo b2 (.cells #[.q q.lv,.q q.ma,.slice x1 q.sr.length M6,.slice x2 q.de.length M5,.slice x3 q.ti.length M4,.slice x4 q.po.length M3] 27 (0,0)),JQ b1 r (.slice a1 r.sr.length eJ) (.slice a2 r.de.length dB) (.slice a3 r.ti.length ep) (.slice a4 r.po.length gz)]) (fun k=>r.de.length-k) ?_ ?_
 ·apply aI (0:Nat) ⟨Zi _,Iff.rfl⟩
  case hs1=>exact cu
  case ht=>
   exact .h2 .nil
 rintro k ⟨hk,hf⟩;have el:r.de.length=q.de.length:=by omega
 by_cases aN:k<r.de.length
 ·have fQ:k<q.de.length:=by omega
  have cP:=jT (gI aN);have Tg:=ga2 (gI fQ);have aB:=(jS k _ (fm aN)).2;have lu:=(xO k _ (fm fQ)).2;have hd:=j4 (l:=r.de) (m:=q.de) aN fQ;have fH:r.de[k]≠q.de[k]->r.de.drop k≠q.de.drop k:=fun hne e=>hne (by
   rw [Zu aN,Zu fQ] at e;exact (List.cons.inj e).1)
  generalize r.de[k]=x at aB hd fH;generalize q.de[k]=y at lu hd fH;unfold De.cells at aB lu
  (refine Jq<|Jr<|Jv I<|bP I I ae<|JL I (.there .here) I<|JI I<|JA I<|Jn<|Jd I fun ar=>Jk<|Jq<|J0<|Jq ?_)
  with_reducible refine ef 10 (by kernel_rfl) ?_
  (refine pt I I ae<|aO (ie (.there .here)) I<|lH I I<|aO (fZ cP ar) I<|aO (iA (eV.base aB I)) I<|pt I I ae<|aO (ie .here) I<|lH I I<|aO (au (.of I) (.of I) Tg (by omega) (by omega) bn) I<|aO (iA (eV.base lu I)) I ?_)
  with_reducible refine er ?_
  (refine ab (uD (.of I) (.of I) (fy (ka (Kw me))) I) I<|Jn<|qv I (fun ar=>?_) fun ar=>?_;refine Jr<|Ja I<|Jn<|Je<|Jm<|Jh<|Jh<|Jm<|Jh<|JT ?_;rotate_left;refine Jw<|Jj<|Jt<|Jg<|Jv I<|JB I (by omega)<|Ja I<|Jn ?_;rotate_right)
  ·have hne:x≠y:=by
    intro e;subst e;simp at ar
   rw [decide_eq_false fun e=>fH hne (hf.1 (by rw [e]))]
  ·have he:x=y:=by
    obtain ⟨q1,q2,q3,_⟩:=ar;cases x;cases y;dsimp only at q1 q2 q3;have q3:=eq_of_beq q3;subst q1;subst q2;subst q3
    rfl
   clear ar;apply aL (k+1) ⟨(show k+1<=r.de.length from aN),hf.trans (hd he)⟩ (show r.de.length-(k+1)<r.de.length-k by omega)
   case hs1=>exact cu
   case ht=>
    exact .h2 .nil
 have z2:r.de=q.de:=by
  obtain rfl:k=r.de.length:=by omega
  exact hf.2 (by rw [Z7,el,Z7])
 obtain rfl:k=r.de.length:=by omega
 clear hk hf aN
 (refine Jq<|Jr<|Jv I<|bP I I ae<|JL I (.there .here) I<|JI I<|JA I<|Jn<|Jc I fun ar=>Jp<|Jl<|Jo<|Jt<|Jq<|Jr<|Ja I<|Jn<|J0 ?_)
 refine a7 (ι:=Nat) (fun k=>k<=r.ti.length/\(r.ti=q.ti↔r.ti.drop k=q.ti.drop k)) (fun k=>[(7,.q (k:Nat)),(3,.p b2),(2,.p b1)]) (fun _=>[bo b2 (.cells #[.q q.lv,.q q.ma,.slice x1 q.sr.length M6,.slice x2 q.de.length M5,.slice x3 q.ti.length M4,.slice x4 q.po.length M3] 27 (0,0)),JQ b1 r (.slice a1 r.sr.length eJ) (.slice a2 r.de.length dB) (.slice a3 r.ti.length ep) (.slice a4 r.po.length gz)]) (fun k=>r.ti.length-k) ?_ ?_
 ·apply aI (0:Nat) ⟨Zi _,Iff.rfl⟩
  case hs1=>exact cu
  case ht=>
   exact .h2 .nil
 rintro k ⟨hk,hf⟩;have el:r.ti.length=q.ti.length:=by omega
 by_cases aN:k<r.ti.length
 ·have fQ:k<q.ti.length:=by omega
  have cP:=uh (fF aN);have Tg:=ga3 (fF fQ);have aB:=(qI k _ (eO aN)).2;have lu:=(HO k _ (eO fQ)).2;have hd:=j4 (l:=r.ti) (m:=q.ti) aN fQ;have fH:r.ti[k]≠q.ti[k]->r.ti.drop k≠q.ti.drop k:=fun hne e=>hne (by
   rw [Zu aN,Zu fQ] at e;exact (List.cons.inj e).1)
  generalize r.ti[k]=x at aB hd fH;generalize q.ti[k]=y at lu hd fH;unfold Ti.cells at aB lu
  (refine Jq<|Jr<|Jv I<|bP I I ae<|JL I (.there .here) I<|JI I<|JA I<|Jn<|Jd I fun ar=>Jk<|Jq<|J0<|Jq ?_)
  with_reducible refine ef 10 (by kernel_rfl) ?_
  (refine pt I I ae<|aO (ie (.there .here)) I<|lH I I<|aO (fZ cP ar) I<|aO (iA (eV.base aB I)) I<|pt I I ae<|aO (ie .here) I<|lH I I<|aO (au (.of I) (.of I) Tg (by omega) (by omega) bn) I<|aO (iA (eV.base lu I)) I ?_)
  with_reducible refine er ?_
  (refine ab (uD (.of I) (.of I) (fy (ka (ka me))) I) I<|Jn<|qv I (fun ar=>?_) fun ar=>?_;refine Jr<|Ja I<|Jn<|Je<|Jm<|Jh<|Jh<|Jm<|Jh<|JT ?_;rotate_left;refine Jw<|Jj<|Jt<|Jg<|Jv I<|JB I (by omega)<|Ja I<|Jn ?_;rotate_right)
  ·have hne:x≠y:=by
    intro e;subst e;simp at ar
   rw [decide_eq_false fun e=>fH hne (hf.1 (by rw [e]))]
  ·have he:x=y:=by
    obtain ⟨q1,q2,q3,_⟩:=ar;cases x;cases y;dsimp only at q1 q2 q3;subst q1;subst q2;subst q3
    rfl
   clear ar;apply aL (k+1) ⟨(show k+1<=r.ti.length from aN),hf.trans (hd he)⟩ (show r.ti.length-(k+1)<r.ti.length-k by omega)
   case hs1=>exact cu
   case ht=>
    exact .h2 .nil
 have z3:r.ti=q.ti:=by
  obtain rfl:k=r.ti.length:=by omega
  exact hf.2 (by rw [Z7,el,Z7])
 obtain rfl:k=r.ti.length:=by omega
 clear hk hf aN
 (refine Jq<|Jr<|Jv I<|bP I I ae<|JL I (.there .here) I<|JI I<|JA I<|Jn<|Jc I fun ar=>Jp<|Jl<|Jo<|Jt<|Jq<|Jr<|Ja I<|Jn<|J0 ?_)
 refine a7 (ι:=Nat) (fun k=>k<=r.po.length/\(r.po=q.po↔r.po.drop k=q.po.drop k)) (fun k=>[(8,.q (k:Nat)),(3,.p b2),(2,.p b1)]) (fun _=>[bo b2 (.cells #[.q q.lv,.q q.ma,.slice x1 q.sr.length M6,.slice x2 q.de.length M5,.slice x3 q.ti.length M4,.slice x4 q.po.length M3] 27 (0,0)),JQ b1 r (.slice a1 r.sr.length eJ) (.slice a2 r.de.length dB) (.slice a3 r.ti.length ep) (.slice a4 r.po.length gz)]) (fun k=>r.po.length-k) ?_ ?_
 ·apply aI (0:Nat) ⟨Zi _,Iff.rfl⟩
  case hs1=>exact cu
  case ht=>
   exact .h2 .nil
 rintro k ⟨hk,hf⟩;have el:r.po.length=q.po.length:=by omega
 by_cases aN:k<r.po.length
 ·have fQ:k<q.po.length:=by omega
  have cP:=Ig (ku aN);have Tg:=ga4 (ku fQ);have aB:=(AT k _ (iE aN)).2;have lu:=(Wm k _ (iE fQ)).2;have hd:=j4 (l:=r.po) (m:=q.po) aN fQ;have fH:r.po[k]≠q.po[k]->r.po.drop k≠q.po.drop k:=fun hne e=>hne (by
   rw [Zu aN,Zu fQ] at e;exact (List.cons.inj e).1)
  generalize r.po[k]=x at aB hd fH;generalize q.po[k]=y at lu hd fH;unfold Po.cells at aB lu
  (refine Jq<|Jr<|Jv I<|bP I I ae<|JL I (.there .here) I<|JI I<|JA I<|Jn<|Jd I fun ar=>Jk<|Jq<|J0<|Jq ?_)
  with_reducible refine ef 10 (by kernel_rfl) ?_
  (refine pt I I ae<|aO (ie (.there .here)) I<|lH I I<|aO (fZ cP ar) I<|aO (iA (eV.base aB I)) I<|pt I I ae<|aO (ie .here) I<|lH I I<|aO (au (.of I) (.of I) Tg (by omega) (by omega) bn) I<|aO (iA (eV.base lu I)) I ?_)
  with_reducible refine er ?_
  (refine ab (uD (.of I) (.of I) (ka (fy (fy me))) I) I<|Jn<|qv I (fun ar=>?_) fun ar=>?_;refine Jr<|Ja I<|Jn<|Je<|Jm<|Jh<|Jh<|Jm<|Jh<|JT ?_;rotate_left;refine Jw<|Jj<|Jt<|Jg<|Jv I<|JB I (by omega)<|Ja I<|Jn ?_;rotate_right)
  ·have hne:x≠y:=by
    intro e;subst e;simp at ar
   rw [decide_eq_false fun e=>fH hne (hf.1 (by rw [e]))]
  ·have he:x=y:=by
    obtain ⟨q1,q2,q3,_⟩:=ar;cases x;cases y;dsimp only at q1 q2 q3;subst q1;subst q2;subst q3
    rfl
   clear ar;apply aL (k+1) ⟨(show k+1<=r.po.length from aN),hf.trans (hd he)⟩ (show r.po.length-(k+1)<r.po.length-k by omega)
   case hs1=>exact cu
   case ht=>
    exact .h2 .nil
 have z4:r.po=q.po:=by
  obtain rfl:k=r.po.length:=by omega
  exact hf.2 (by rw [Z7,el,Z7])
 obtain rfl:k=r.po.length:=by omega
 clear hk hf aN
 (refine Jq<|Jr<|Jv I<|bP I I ae<|JL I (.there .here) I<|JI I<|JA I<|Jn<|Jc I fun ar=>Jp<|Jl<|Jo<|Jt<|Jr<|Ja I<|Jn<|Je<|JT ?_)
 rw [decide_eq_true (UE.2 ⟨⟨⟨⟨⟨e1,e2⟩,z1⟩,z2⟩,z3⟩,z4⟩)]
theorem bb.Ei {P:Program} {f:FuncId} {args:List Value} {md:List Nat} {E:TypeId} {sz n:Nat} {xs:List Value} {val:Value->Value} (h:bb P f args w md (fun _:Value=>True) val (fun v=>[row E sz v n xs])) :
  bb P f args w md (fun _:Option Addr×Nat=>True) (fun x=>val (.slice x.1 n x.2)) (fun x=>[row E sz (.slice x.1 n x.2) n xs]):=
 Calls.mono h fun e w' ⟨v,he,_,hk,fp,hn,hs,hf⟩=>by
  have hv:∃ x:Option Addr×Nat,v=.slice x.1 n x.2:=by
   obtain ⟨f1,f2,_,⟨_,_,⟨e1,e2⟩ | ⟨g,cap,cur,e1,_⟩⟩,_⟩:=hs
   ·exact ⟨(none,0),by rw [e1,e2]⟩
   ·exact ⟨(_,cap),e1⟩
  obtain ⟨x,rfl⟩:=hv;exact ⟨x,he,trivial,hk,fp,hn,hs,hf⟩
def Tf:Value->Option Addr×Nat
 | .slice a _ c=>(a,c)
 | _=>(none,0)
theorem E2 (x:Option Addr×Nat):∃ v,Tf v=x:=⟨.slice x.1 0 x.2,I⟩
theorem uz {l:List eN} (h:Rd w kv 2 (gL l)) (hM:qY w l) (hn:l.length<=1000) (hs:∀ x∈l,x.tk.so.length<=1000) :
  bb T_ 54 [kv] w [] (fun x:Value×List eN=>cq x.2=cq l) (fun x=>x.1) (fun x=>[row 69 2 x.1 x.2.length (gL x.2).flatten,DX x.2]):=by
 obtain ⟨a,cp,b,o,rfl,dp,bY,ha,hc⟩:=h;rw [dy] at *;unfold maxLen at bY;refine aT func54 I I ?_;refine Jr<|Ja I<|Ji<|Ja I<|Jn<|Jq<|Jr<|Jv I<|JI I<|Jv I<|Jn<|J0 ?_;refine aP 69 2 ?_;refine jU 9 ?_
 refine a7 (ι:=Nat×Value×List eN) (fun x=>x.1<=l.length/\cq x.2.2=cq (l.take x.1)) (fun x=>[(8,.q (x.1:Nat)),(7,.q (l.length:Nat)),(6,.slice a l.length cp),(3,x.2.1)])
  (fun x=>[row 69 2 x.2.1 x.2.2.length (gL x.2.2).flatten,mN 9 (x.2.2.map eN.v) (x.2.2.map fun y=>aJ y.tk.so)]) (fun x=>l.length-x.1) ?_ ?_
 ·apply aI (0,.z,[]) ⟨Zi _,I⟩
  case hs1=>exact cu
  case ht=>
   exact .cons (.there .here) (.h1 .nil)
 rintro ⟨k,v,W⟩ ⟨hk,hW⟩;dsimp only at hk hW ⊢;have S8:W.length=k:=by
  have:=congrArg List.length hW;unfold cq at this;rw [Zd,Zd,Zs] at this;omega
 by_cases aN:k<l.length
 ·have cP:=ha (jV aN);have aB:=(hc k _ (jA aN)).2;have hx:=hM _ (Zj aN);have U3:=hs _ (Zj aN);have htk:cq (l.take (k+1))=cq (l.take k)++[l[k].tk]:=by
   unfold cq;rw [Zn aN,Zt];rfl
  have sX:(gL W).flatten.length=W.length*2:=by rw [fC (zH W),dy]
  have ia:=Rd.one hx;unfold eN.cells at aB;generalize l[k]=x at aB hx U3 htk ia;obtain ⟨⟨xd,xs⟩,xv⟩:=x;dsimp only at aB hx U3 htk ia;have Yl:∀ w',aK [] w w'->bb T_ 72 [xv] w' [] (fun _:Option Addr×Nat=>True) (fun z=>.slice z.1 xs.length z.2) (fun z=>[row 9 1 (.slice z.1 xs.length z.2) xs.length (aJ xs)]):=fun w' hk=>bb.Ei (val:=id) (Fv (hx.keeps hk) (by omega))
  refine aY (E:=69) (sz:=2) (v:=v) (by exact .here) fun va vc e=>?_;subst e
  (refine Jr<|JA I<|Jn<|Jq<|Jd I fun ar=>Jk<|Jq<|J0<|Jr<|ab (fZ cP ar) I<|ab (iA (eV.base aB I)) I<|Jz I I fun _ _=>an (.of I) (.of I) .here I I (gJ I ia) (bG I) ak<|Jn ?_)
  with_reducible refine dP 8 (by kernel_rfl) ?_
  (refine aq (fun β=>(aX (.of I))) br I<|aq (fun β=>(az (.of I) ae)) br I<|aq (fun β=>(ag (.of I) (At.lit .here I))) br I<|aq (fun β=>(az (.of I) ae)) br I<|aq (fun β=>(ag (.of I) (At.lit .here I))) br I ?_)
  dsimp only [Nat.zero_add,Nat.reduceAdd]
  with_reducible apply dW (ι:=Option Addr×Nat) (Φ:=fun _=>True) (val:=fun z=>.slice z.1 xs.length z.2) (own:=fun z=>[row 9 1 (.slice z.1 xs.length z.2) xs.length (aJ xs)]) (g:=Tf) (B:=[]) (args:=fun _=>[xv])
  case hg=>exact E2
  case hB=>rfl
  case hr=>exact fun β=>aZ (.of I) (.o I .nil) inferInstance I
  case hd=>rfl
  case hc=>exact fun β w' hb=>Yl w' hb.mem.keeps
  dsimp only [Nat.reduceAdd]
  with_reducible apply aq
  case hr=>(intro β;exact aU (.o I (.o I .nil)) ak)
  case hi=>exact fun β β' h=>by simp only [h 5 (by kernel_rfl)]
  case hd=>rfl
  dsimp only [Nat.reduceAdd]
  with_reducible apply jN
  case hr=>(intro β;exact bB (.o I .nil) I I bR bR ak)
  case hi=>exact fun β β' h=>by simp only [h 5 (by decide) (by kernel_rfl)]
  case hd=>rfl
  dsimp only [Nat.reduceAdd];refine fo fun β=>?_;dsimp only [eB,Za,Zb,List.append_eq,Nat.reduceAdd];generalize fk (β 7)=b7;generalize Tf (β 5)=y;obtain ⟨ya,yc⟩:=y;clear β;dsimp only;refine ct (rs:=[8]) (by kernel_rfl) (by simp) (Zw.2 ⟨?_,fun _ h=>absurd h Zp⟩);refine cF I ?_;refine bK (.of I) (.of I) cA (.there .here) ak (by rfl) (gJ I I) (by rfl) (by rfl) (by rfl) fa (by rfl) ?_;intro v';refine Jn ?_;refine ct (rs:=[9]) (by kernel_rfl) (by simp) (Zw.2 ⟨?_,fun _ h=>absurd h Zp⟩);refine cF I ?_;refine Ja I<|Jn ?_
  with_reducible refine cM (by kernel_rfl) ?_
  refine Jj<|Jt<|Jg<|JB I (by omega)<|Jv I<|Jn ?_;have Vs:(aJ xs).length=xs.length:=dq xs
  with_reducible apply lj (E:=9) (vs:=W.map eN.v) (xs:=W.map fun y=>aJ y.tk.so) (v:=.slice ya xs.length yc) (x:=aJ xs) (n:=xs.length)
  case ht=>exact df
  case ht2=>exact Take.there .here
  case hn=>exact Vs.symm
  case hl=>rw [Zd,Zd]
  case k=>
   apply aL (k+1,v',W++[⟨⟨xd,xs⟩,.slice ya xs.length yc⟩]) ⟨by show k+1<=_;omega,by
    show cq (W++[_])=_;unfold cq at hW htk ⊢;rw [Zt,hW];exact htk.symm⟩ (by show l.length-(k+1)<l.length-k;omega)
   case hs1=>exact cu
   case ht=>
    dsimp only;rw [zJ,Zg,Zt,Zt];simp only [ZZ,Zf,ZI,Zaj,ZH];exact .cons (.there .here) (.h1 .nil)
 ·have e:k=l.length:=by omega
  rw [e,ZL] at hW;refine aY (E:=69) (sz:=2) (v:=v) (by exact .here) fun va vc e=>?_;subst e;refine Jr<|JA I<|Jn<|Jq<|Jc I fun ar=>Jp<|Jl<|Jo<|Jt<|Jr<|Jv I<|Ja I<|Jn<|Je ?_
  with_reducible first|apply aR|apply aS
  case he=>exact dH I I
  case hR=>
   intro w' aA;exact aD (.slice va W.length vc,W) hW (by exact .h2 .nil) aA I
theorem uV {l:List eN} (h:Rd w kv 2 (gL l)) (hM:qY w l) (hn:l.length<=1000) (hs:∀ x∈l,x.tk.so.length<=1000) :
  bb T_ 46 [kv] w [] (fun x:Value×List eN=>cq x.2=cq l) (fun x=>x.1) (fun x=>[row 78 2 x.1 x.2.length (gL x.2).flatten,DX x.2]):=by
 obtain ⟨a,cp,b,o,rfl,dp,bY,ha,hc⟩:=h;rw [dy] at *;unfold maxLen at bY;refine aT func46 I I ?_;refine Jr<|Ja I<|Ji<|Ja I<|Jn<|Jq<|Jr<|Jv I<|JI I<|Jv I<|Jn<|J0 ?_;refine aP 78 2 ?_;refine jU 9 ?_
 refine a7 (ι:=Nat×Value×List eN) (fun x=>x.1<=l.length/\cq x.2.2=cq (l.take x.1)) (fun x=>[(8,.q (x.1:Nat)),(7,.q (l.length:Nat)),(6,.slice a l.length cp),(3,x.2.1)])
  (fun x=>[row 78 2 x.2.1 x.2.2.length (gL x.2.2).flatten,mN 9 (x.2.2.map eN.v) (x.2.2.map fun y=>aJ y.tk.so)]) (fun x=>l.length-x.1) ?_ ?_
 ·apply aI (0,.z,[]) ⟨Zi _,I⟩
  case hs1=>exact cu
  case ht=>
   exact .cons (.there .here) (.h1 .nil)
 rintro ⟨k,v,W⟩ ⟨hk,hW⟩;dsimp only at hk hW ⊢;have S8:W.length=k:=by
  have:=congrArg List.length hW;unfold cq at this;rw [Zd,Zd,Zs] at this;omega
 by_cases aN:k<l.length
 ·have cP:=ha (jV aN);have aB:=(hc k _ (jA aN)).2;have hx:=hM _ (Zj aN);have U3:=hs _ (Zj aN);have htk:cq (l.take (k+1))=cq (l.take k)++[l[k].tk]:=by
   unfold cq;rw [Zn aN,Zt];rfl
  have sX:(gL W).flatten.length=W.length*2:=by rw [fC (zH W),dy]
  have ia:=Rd.one hx;unfold eN.cells at aB;generalize l[k]=x at aB hx U3 htk ia;obtain ⟨⟨xd,xs⟩,xv⟩:=x;dsimp only at aB hx U3 htk ia;have Yl:∀ w',aK [] w w'->bb T_ 72 [xv] w' [] (fun _:Option Addr×Nat=>True) (fun z=>.slice z.1 xs.length z.2) (fun z=>[row 9 1 (.slice z.1 xs.length z.2) xs.length (aJ xs)]):=fun w' hk=>bb.Ei (val:=id) (Fv (hx.keeps hk) (by omega))
  refine aY (E:=78) (sz:=2) (v:=v) (by exact .here) fun va vc e=>?_;subst e
  (refine Jr<|JA I<|Jn<|Jq<|Jd I fun ar=>Jk<|Jq<|J0<|Jr<|ab (fZ cP ar) I<|ab (iA (eV.base aB I)) I<|Jz I I fun _ _=>an (.of I) (.of I) .here I I (gJ I ia) (bG I) ak<|Jn ?_)
  with_reducible refine dP 8 (by kernel_rfl) ?_
  (refine aq (fun β=>(aX (.of I))) br I<|aq (fun β=>(az (.of I) ae)) br I<|aq (fun β=>(ag (.of I) (At.lit .here I))) br I<|aq (fun β=>(az (.of I) ae)) br I<|aq (fun β=>(ag (.of I) (At.lit .here I))) br I ?_)
  dsimp only [Nat.zero_add,Nat.reduceAdd]
  with_reducible apply dW (ι:=Option Addr×Nat) (Φ:=fun _=>True) (val:=fun z=>.slice z.1 xs.length z.2) (own:=fun z=>[row 9 1 (.slice z.1 xs.length z.2) xs.length (aJ xs)]) (g:=Tf) (B:=[]) (args:=fun _=>[xv])
  case hg=>exact E2
  case hB=>rfl
  case hr=>exact fun β=>aZ (.of I) (.o I .nil) inferInstance I
  case hd=>rfl
  case hc=>exact fun β w' hb=>Yl w' hb.mem.keeps
  dsimp only [Nat.reduceAdd]
  with_reducible apply aq
  case hr=>(intro β;exact aU (.o I (.o I .nil)) ak)
  case hi=>exact fun β β' h=>by simp only [h 5 (by kernel_rfl)]
  case hd=>rfl
  dsimp only [Nat.reduceAdd]
  with_reducible apply jN
  case hr=>(intro β;exact bB (.o I .nil) I I bR bR ak)
  case hi=>exact fun β β' h=>by simp only [h 5 (by decide) (by kernel_rfl)]
  case hd=>rfl
  dsimp only [Nat.reduceAdd];refine fo fun β=>?_;dsimp only [eB,Za,Zb,List.append_eq,Nat.reduceAdd];generalize fk (β 7)=b7;generalize Tf (β 5)=y;obtain ⟨ya,yc⟩:=y;clear β;dsimp only;refine ct (rs:=[8]) (by kernel_rfl) (by simp) (Zw.2 ⟨?_,fun _ h=>absurd h Zp⟩);refine cF I ?_;refine bK (.of I) (.of I) cA (.there .here) ak (by rfl) (gJ I I) (by rfl) (by rfl) (by rfl) fa (by rfl) ?_;intro v';refine Jn ?_;refine ct (rs:=[9]) (by kernel_rfl) (by simp) (Zw.2 ⟨?_,fun _ h=>absurd h Zp⟩);refine cF I ?_;refine Ja I<|Jn ?_
  with_reducible refine cM (by kernel_rfl) ?_
  refine Jj<|Jt<|Jg<|JB I (by omega)<|Jv I<|Jn ?_;have Vs:(aJ xs).length=xs.length:=dq xs
  with_reducible apply lj (E:=9) (vs:=W.map eN.v) (xs:=W.map fun y=>aJ y.tk.so) (v:=.slice ya xs.length yc) (x:=aJ xs) (n:=xs.length)
  case ht=>exact df
  case ht2=>exact Take.there .here
  case hn=>exact Vs.symm
  case hl=>rw [Zd,Zd]
  case k=>
   apply aL (k+1,v',W++[⟨⟨xd,xs⟩,.slice ya xs.length yc⟩]) ⟨by show k+1<=_;omega,by
    show cq (W++[_])=_;unfold cq at hW htk ⊢;rw [Zt,hW];exact htk.symm⟩ (by show l.length-(k+1)<l.length-k;omega)
   case hs1=>exact cu
   case ht=>
    dsimp only;rw [zJ,Zg,Zt,Zt];simp only [ZZ,Zf,ZI,Zaj,ZH];exact .cons (.there .here) (.h1 .nil)
 ·have e:k=l.length:=by omega
  rw [e,ZL] at hW;refine aY (E:=78) (sz:=2) (v:=v) (by exact .here) fun va vc e=>?_;subst e;refine Jr<|JA I<|Jn<|Jq<|Jc I fun ar=>Jp<|Jl<|Jo<|Jt<|Jr<|Jv I<|Ja I<|Jn<|Je ?_
  with_reducible first|apply aR|apply aS
  case he=>exact dH I I
  case hR=>
   intro w' aA;exact aD (.slice va W.length vc,W) hW (by exact .h2 .nil) aA I
def cU:ByteArray:=⟨#[99,97,109]⟩
def kz:ByteArray:=⟨#[118,116,114]⟩
def nX:ByteArray:=⟨#[109,111,110]⟩
def dL:ByteArray:=⟨#[97,105,114]⟩
def ji:ByteArray:=⟨#[114,101,99]⟩
def nT:ByteArray:=⟨#[116]⟩
def nU:ByteArray:=⟨#[117]⟩
def mo:Ro:=⟨2,2,[⟨cU,0⟩,⟨kz,1⟩],[⟨nX,0,false⟩,⟨dL,1,false⟩,⟨ji,1,false⟩],[⟨nT,0,1⟩,⟨nU,0,1⟩],[]⟩
def om:Tk:=⟨dL,[cU,cU]⟩
def TQ:Tk:=⟨ji,[cU,⟨#[]⟩]⟩
def oh:Tk:=⟨dL,[kz,kz]⟩
def X4:List Po:=[⟨0,dL,nT⟩,⟨0,nT,cU⟩,⟨1,dL,nT⟩,⟨1,nT,cU⟩]
def X3:List Po:=[⟨0,dL,nT⟩,⟨0,ji,nT⟩,⟨0,nT,cU⟩,⟨1,dL,nT⟩,⟨1,nT,cU⟩]
def X2:List Po:=[⟨0,dL,kz⟩,⟨0,ji,nT⟩,⟨0,nT,cU⟩,⟨1,dL,kz⟩]
def gy:Ro:={ mo with po:=X4 }
def hY:Ro:={ mo with po:=X3 }
def xg:Ro:={ mo with po:=X2 }
def Ej:Ro:=gy.iD nX true
theorem Wz:ew mo=0:=by kernel_rfl
theorem QD:GO mo 0 cU dL=0/\DV mo 0 cU dL=[nT]:=⟨by kernel_rfl,by kernel_rfl⟩
theorem Ww:fT mo [om]=(gy,0,0):=by kernel_rfl
theorem Wv:fT gy [TQ]=(hY,0,0):=by kernel_rfl
theorem QJ:fT hY [oh]=(xg,0,0):=by kernel_rfl
theorem Wt:zw hY [oh]=[om]:=by kernel_rfl
theorem QC:GO mo 0 kz nX=18/\DV mo 0 kz nX=[]:=⟨by kernel_rfl,by kernel_rfl⟩
theorem QL:LZ mo 0 kz nX=0/\HU mo 0 kz nX=[1]:=⟨by kernel_rfl,by kernel_rfl⟩
theorem WA:XJ mo 0 kz nX [0]=19:=by kernel_rfl
theorem Wx:CY hY ji=0/\ET hY ji=[cU,⟨#[]⟩]:=⟨by kernel_rfl,by kernel_rfl⟩
theorem QF:BJ gy 0 dL=0/\DY gy 0 dL=[cU,nT,dL]:=⟨by kernel_rfl,by kernel_rfl⟩
theorem QM:Dq gy 0=0/\Fg gy 0=[nT]:=⟨by kernel_rfl,by kernel_rfl⟩
theorem QE:Iv hY 0 cU=0/\GQ hY 0 cU=[dL,ji]:=⟨by kernel_rfl,by kernel_rfl⟩
theorem QK:nO gy nX=0/\nN gy nX true=Ej:=⟨by kernel_rfl,by kernel_rfl⟩
theorem Wu:(fT Ej [⟨ji,[⟨#[45]⟩,⟨#[]⟩]⟩,⟨nX,[cU,cU]⟩]).2=(1,31):=by kernel_rfl
theorem QI:ru mo [⟨10,[om]⟩,⟨12,[oh]⟩] dL 9=0/\ub mo [⟨10,[om]⟩,⟨12,[oh]⟩] dL 9=[⟨#[]⟩,⟨#[]⟩]:=⟨by kernel_rfl,by kernel_rfl⟩
theorem QH:ru mo [⟨10,[om]⟩,⟨12,[oh]⟩] dL 11=0/\ub mo [⟨10,[om]⟩,⟨12,[oh]⟩] dL 11=[cU,cU]:=⟨by kernel_rfl,by kernel_rfl⟩
theorem QG:ru mo [⟨10,[om]⟩,⟨12,[oh]⟩] dL 12=0/\ub mo [⟨10,[om]⟩,⟨12,[oh]⟩] dL 12=[kz,kz]:=⟨by kernel_rfl,by kernel_rfl⟩
theorem Tj:Ka mo=⟨#[114,111,117,116,101,114,32,50,32,50,10,115,111,117,114,99,101,32,99,97,109,32,48,10,115,111,117,114,99,101,32,118,116,114,32,49,10,100,101,115,116,105,110,97,116,105,111,110,32,109,111,110,32,48,32,102,114,101,101,10,100,101,115,116,105,110,97,116,105,111,110,32,97,105,114,32,49,32,102,114,101,101,10,100,101,115,116,105,110,97,116,105,111,110,32,114,101,99,32,49,32,102,114,101,101,10,116,105,101,32,116,32,48,32,49,10,116,105,101,32,117,32,48,32,49,10]⟩:=by kernel_rfl
theorem Pp (w:World):bb T_ 105 [] w [] (fun _:Value×Value×Value×Value=>True) (fun x=>RA mo x.1 x.2.1 x.2.2.1 x.2.2.2) (fun x=>oA mo x):=by
 unfold RA;refine aT func105 I I ?_
 (refine Jr<|Jz I I fun _ _=>Ji<|ab (aU (.o I .nil) ak) I<|ab (aU (.o I (.o I .nil)) ak) I<|bu (bB (.o I (.o I .nil)) I I bR bR ak) I fun _ _=>ab (aU (.o I .nil) ak) I<|ab (aU (.o I (.o I .nil)) ak) I<|ab (aU (.o I (.o I .nil)) ak) I<|bu (bB (.o I (.o I (.o I .nil))) I I bR bR ak) I fun _ _=>ab (aU (.o I (.o I .nil)) ak) I<|ab (aU (.o I (.o I .nil)) ak) I<|bu (bB (.o I (.o I .nil)) I I bR bR ak) I fun _ _=>ab (aU (.o I (.o I (.o I (.o I (.o I .nil))))) ak) I<|an (.of I) (.of I) cA I I (gr I I I I I I) (bG I) ak<|Jn<|Je ?_)
 rename_i b0 hb0 b1 tN b2 tM b3 uR;refine ch (g:=b1) (E:=186) (ys:=kY mo.sr) 2 2 cA (by exact I) I I ?_;refine ch (g:=b2) (E:=90) (ys:=jQ mo.de) 3 3 cA (by exact I) I I ?_;refine ch (g:=b3) (E:=187) (ys:=l6 mo.ti) 2 3 cA (by exact I) I I ?_;refine aP 188 3 ?_
 with_reducible first|apply aR|apply aS
 case he=>exact kQ I inferInstance I df ak (by rfl)
 case hR=>
  intro w' aA;exact aD (.w b1 2 2,.w b2 3 3,.w b3 2 2,.z) trivial (by exact .cons cA (.cons bF (.cons (.there .here) (.h1 .nil)))) aA I
theorem Tn (w:World):bb T_ 106 [] w [] (fun _:Option Addr×Nat=>True) (fun x=>.agg (eN.cells ⟨om,.slice x.1 2 x.2⟩).toArray) (fun x=>[row 9 1 (.slice x.1 2 x.2) 2 (aJ om.so)]):=by
 unfold eN.cells;refine aT func106 I I ?_
 (refine Jr<|Jz I I fun _ _=>Ji<|bu (aC (.o I (.o I .nil)) I I I I) I fun _ _=>ab (aU (.o I (.o I .nil)) ak) I<|an (.of I) (.of I) (.there .here) I I (gJ I I) (bG I) ak<|Jn<|Je ?_)
 rename_i b0 hb0 b1 tN;refine ch (g:=b1) (E:=9) (ys:=aJ om.so) 2 1 (by exact Take.there .here) (by exact I) I I ?_
 with_reducible first|apply aR|apply aS
 case he=>exact kQ I inferInstance I (.there .here) ak (by rfl)
 case hR=>
  intro w' aA;exact aD (some ⟨b1,0,none⟩,2) trivial (by exact .h1 .nil) aA I
theorem Tm (w:World):bb T_ 107 [] w [] (fun _:Option Addr×Nat=>True) (fun x=>.agg (eN.cells ⟨TQ,.slice x.1 2 x.2⟩).toArray) (fun x=>[row 9 1 (.slice x.1 2 x.2) 2 (aJ TQ.so)]):=by
 unfold eN.cells;refine aT func107 I I ?_
 (refine Jr<|Jz I I fun _ _=>Ji<|bu (aC (.o I (.o I .nil)) I I I I) I fun _ _=>ab (aU (.o I (.o I .nil)) ak) I<|an (.of I) (.of I) (.there .here) I I (gJ I I) (bG I) ak<|Jn<|Je ?_)
 rename_i b0 hb0 b1 tN;refine ch (g:=b1) (E:=9) (ys:=aJ TQ.so) 2 1 (by exact Take.there .here) (by exact I) I I ?_
 with_reducible first|apply aR|apply aS
 case he=>exact kQ I inferInstance I (.there .here) ak (by rfl)
 case hR=>
  intro w' aA;exact aD (some ⟨b1,0,none⟩,2) trivial (by exact .h1 .nil) aA I
theorem Tl (w:World):bb T_ 108 [] w [] (fun _:Option Addr×Nat=>True) (fun x=>.agg (eN.cells ⟨oh,.slice x.1 2 x.2⟩).toArray) (fun x=>[row 9 1 (.slice x.1 2 x.2) 2 (aJ oh.so)]):=by
 unfold eN.cells;refine aT func108 I I ?_
 (refine Jr<|Jz I I fun _ _=>Ji<|bu (aC (.o I (.o I .nil)) I I I I) I fun _ _=>ab (aU (.o I (.o I .nil)) ak) I<|an (.of I) (.of I) (.there .here) I I (gJ I I) (bG I) ak<|Jn<|Je ?_)
 rename_i b0 hb0 b1 tN;refine ch (g:=b1) (E:=9) (ys:=aJ oh.so) 2 1 (by exact Take.there .here) (by exact I) I I ?_
 with_reducible first|apply aR|apply aS
 case he=>exact kQ I inferInstance I (.there .here) ak (by rfl)
 case hR=>
  intro w' aA;exact aD (some ⟨b1,0,none⟩,2) trivial (by exact .h1 .nil) aA I
instance :DecidableEq Tk:=fun a b=>decidable_of_iff (a.de=b.de/\a.so=b.so) (by cases a;cases b;simp)
theorem I7 (hm:Mem c hs w) (ht:bj hs (oA r x) hs'):RR w r x.1 x.2.1 x.2.2.1 x.2.2.2:=by
 have k6:=hm.jo ht;exact ⟨bM k6 .here I,bN k6 (.there .here) I,bL k6 bF I,bJ k6 cA I⟩
theorem Ce (hm:Mem c hs w) (ht:bj hs (DE r x) hs'):RR w r x.1 x.2.1 x.2.2.1 x.2.2.2:=by
 have k6:=hm.jo ht;exact ⟨bM k6 .here I,bN k6 (.there .here) I,bL k6 bF I,bJ k6 cA I⟩
theorem gi {D:List Nat} {sl:aH} {X:Act->World->Prop} (ht:bj hs (DE r (s,d,t,p)) hs')
  (k:s.oneCell'=true->d.oneCell'=true->t.oneCell'=true->p.oneCell'=true->Tr c D sl (row 118 2 s r.sr.length (kY r.sr)::row 88 3 d r.de.length (jQ r.de)::row 122 3 t r.ti.length (l6 r.ti)::row 180 3 p r.po.length (gK r.po)::hs') X):Tr c D sl hs X:=by
 intro a w bh;have hm:=bh.mem.jo (ht.append (nb D));have k2:Tr c D sl (row 118 2 s r.sr.length (kY r.sr)::row 88 3 d r.de.length (jQ r.de)::row 122 3 t r.ti.length (l6 r.ti)::row 180 3 p r.po.length (gK r.po)::hs') X:=by
  refine aY (E:=118) (sz:=2) (v:=s) .here fun _ _ e=>?_;have k1:s.oneCell'=true:=by rw [e];rfl
  clear e;refine aY (E:=88) (sz:=3) (v:=d) (.there .here) fun _ _ e=>?_;have k2:d.oneCell'=true:=by rw [e];rfl
  clear e;refine aY (E:=122) (sz:=3) (v:=t) bF fun _ _ e=>?_;have k3:t.oneCell'=true:=by rw [e];rfl
  clear e;refine aY (E:=180) (sz:=3) (v:=p) cA fun _ _ e=>?_;have k4:p.oneCell'=true:=by rw [e];rfl
  clear e;exact k k1 k2 k3 k4
 exact k2 a w (bh.heap hm)
theorem Dy {l m:List eN} (h1:Rd w v1 2 (gL l)) (hM1:qY w l) (h2:Rd w v2 2 (gL m)) (hM2:qY w m) :
  aj T_ 53 [v1,v2] w (.bool (decide (cq l=cq m))):=by
 obtain ⟨a1,WE,b1,o1,rfl,qp,jc,mG,kc⟩:=h1;obtain ⟨a2,oy,b2,o2,rfl,ki,fB,jT,jS⟩:=h2;rw [dy] at *;rw [dy] at *;unfold maxLen at jc fB;refine ah func53 I I ?_
 (refine Jr<|Ja I<|Jn<|Jq<|Jr<|Jv I<|JI I<|Jv I<|JI I<|JD I<|Jn<|gB I (fun ar=>?_) fun ar=>?_;refine Jr<|Ja I<|Jn<|Ju<|JT ?_;rotate_left;refine Jk<|Jq<|Jr<|Ja I<|Jn<|J0 ?_;rotate_right)
 ·rw [decide_eq_false fun e=>ar (by have:=congrArg List.length e;unfold cq at this;rw [Zd,Zd] at this;rw [this])]
 have By:l.length=m.length:=by omega
 refine a7 (ι:=Nat) (fun k=>k<=l.length/\(cq l=cq m↔cq (l.drop k)=cq (m.drop k))) (fun k=>[(5,.q (k:Int)),(0,.slice a1 l.length WE),(1,.slice a2 m.length oy)]) (fun _=>[]) (fun k=>l.length-k) ?_ ?_
 ·apply aI (0:Nat) ⟨Zi _,Iff.rfl⟩
  case hs1=>exact cu
  case ht=>(try simp only [Ze,Zf,Za]);exact .nil
 rintro k ⟨hk,hf⟩;by_cases aN:k<l.length
 ·have fQ:k<m.length:=by omega
  have HK:=mG (jV aN);have ui:=jT (jV fQ);have lr:=(kc k _ (jA aN)).2;have eZ:=(jS k _ (jA fQ)).2;have x1:=hM1 _ (Zj aN);have x2:=hM2 _ (Zj fQ);have hd:cq (l.drop k)=cq (m.drop k)↔(l[k].tk=m[k].tk/\cq (l.drop (k+1))=cq (m.drop (k+1))):=by
   rw [Zu aN,Zu fQ];unfold cq;rw [ZZ,ZZ];exact List.cons_eq_cons
  rw [hd] at hf;clear hd;unfold eN.cells at lr eZ;generalize l[k]=x at lr x1 hf;generalize m[k]=y at eZ x2 hf;obtain ⟨⟨xd,xs⟩,xv⟩:=x;obtain ⟨⟨yd,ys⟩,yv⟩:=y;dsimp only at lr eZ x1 x2 hf;have c1:w.cell? ⟨b1,o1+k*2,none⟩=some (.string xd):=lr 0 _ I;have c2:w.cell? ⟨b2,o2+k*2,none⟩=some (.string yd):=eZ 0 _ I;have c3:w.cell? ⟨b1,o1+k*2+1,none⟩=some xv:=lr 1 _ I;have c4:w.cell? ⟨b2,o2+k*2+1,none⟩=some yv:=eZ 1 _ I;have Xn:∀ w',aK [] w w'->aj T_ 58 [xv,yv] w' (.bool (decide (xs=ys))):=fun w' hk=>zW (x1.keeps hk) (x2.keeps hk)
  refine Jq<|Jr<|Jv I<|Jv I<|JI I<|JA I<|Jn<|Jd I fun ar=>Jk<|Jq<|J0<|Jq ?_
  with_reducible refine ef 25 (by kernel_rfl) ?_
  (refine lH I I<|lH I I<|aO (fZ HK ar) I<|pt I I ae<|aO (ag (.of I) (At.base c1 I)) I<|lH I I<|lH I I<|aO (au (.of I) (.of I) ui (by omega) (by omega) bn) I<|pt I I ae<|aO (ag (.of I) (At.base c2 I)) I<|aO (gY (.of I) (.of I)) I<|lH I I<|dJ I I (fun hg bT=>(aX (.of I))) I<|dJ I I (fun hg bT=>(aX (.of I))) I<|dJ I I (fun hg bT=>(au (.cD hg I) (.cD hg I) HK (by omega) ar bn)) I<|dJ I I (fun hg bT=>(az (.cD hg I) ae)) I<|dJ I I (fun hg bT=>(ag (.cD hg I) (At.base c3 I))) I<|dJ I I (fun hg bT=>(aX (.of I))) I<|dJ I I (fun hg bT=>(aX (.of I))) I<|dJ I I (fun hg bT=>(au (.cD hg I) (.cD hg I) ui (by omega) (by omega) bn)) I<|dJ I I (fun hg bT=>(az (.cD hg I) ae)) I<|dJ I I (fun hg bT=>(ag (.cD hg I) (At.base c4 I))) I<|wQ I I (fun hg=>(aZ (.of I) (.cons (.cD hg I) (.cons (.cD hg I) .nil)) inferInstance eQ)) I (fun hg w' aA=>(Xn w' (Mem.keeps aA)))<|dJ I I (fun hg bT=>(dX (.cD hg I))) I<|aO (bC (.of I) I) I ?_)
  with_reducible refine er ?_
  (refine Jn<|qv I (fun ar=>?_) fun ar=>?_;refine Jr<|Ja I<|Jn<|Je<|Jm<|Jh<|Jh<|Jm<|Jh<|JT ?_;rotate_left;refine Jw<|Jj<|Jt<|Jg<|Jv I<|JB I (by omega)<|Ja I<|Jn ?_;rotate_right)
  ·have hne:¬ cq l=cq m:=fun e=>by
    obtain ⟨e1,_⟩:=hf.1 e;injection e1 with e2 e3
    rcases ar with h | h
    ·exact h e2
    ·exact h e3
   rw [decide_eq_false hne]
  ·obtain ⟨q1,q2⟩:=ar;have q1:=Zq.1 q1;subst q1;subst q2;clear Xn;apply aL (k+1) ⟨(show k+1<=l.length from aN),hf.trans ⟨fun e=>e.2,fun e=>⟨I,e⟩⟩⟩ (show l.length-(k+1)<l.length-k by omega)
   case hs1=>exact cu
   case ht=>(try simp only [Ze,Zf,Za]);exact .nil
 ·obtain rfl:k=l.length:=by omega
  have:cq l=cq m:=hf.2 (by rw [Z7,By,Z7]);refine Jq<|Jr<|Jv I<|Jv I<|JI I<|JA I<|Jn<|Jc I fun ar=>Jp<|Jl<|Jo<|Jt<|Jr<|Ja I<|Jn<|Je<|JT ?_;rw [decide_eq_true this]
theorem Ki {q:List Po} (h:RR w r s d t p) (cO:mE r) (hv:Rd w v 3 (ud q)):aj T_ 110 [RA r s d t p,v] w (.bool (decide (r.po=q))):=by
 obtain ⟨h1,h2,h3,h4⟩:=h.one;have hv2:=hv;obtain ⟨av,cv,bv,ov,rfl,_,_,_,_⟩:=hv2;rw [c5] at *;have ht:∀ w',aK [] w w'->bb T_ 57 [.agg #[.int .i64 r.lv,.int .i64 r.ma,s,d,t,p]] w' [] (fun _:Value×Value×Value×Value=>True) (fun x=>RA r x.1 x.2.1 x.2.2.1 x.2.2.2) (fun x=>DE r x):=fun w' hk=>D6 (h.keeps hk) cO
 unfold RA at ht ⊢;refine ah func110 I I ?_;refine Jr<|Jy I I fun _ _=>Ja I<|Ji<|ab (cK .here) I ?_;refine JN bz I (fun w1 aG=>ht w1 aG.keeps) ?_;rintro ⟨s1,d1,t1,p1⟩ _;dsimp only
 try unfold RA
 refine gi (r:=r) (s:=s1) (d:=d1) (t:=t1) (p:=p1) (aQ _ _) fun k1 k2 k3 k4=>?_
 (refine Jz I I fun _ _=>an (.of I) (.of I) .here I I (gr I I k1 k2 k3 k4) (bG I) ak<|Ji<|Jv I<|bP I I ae<|an (.of I) (.of I) .here I I (eL I) (bG I) ak<|Jn<|Jq ?_)
 with_reducible refine dP 5 (by kernel_rfl) ?_
 refine aq (fun β=>(bV (.of I) eG ak (by rfl))) br I ?_;dsimp only [Nat.zero_add,Nat.reduceAdd]
 with_reducible apply dW (ι:=Value×Value×Value×Value) (Φ:=fun _=>True) (val:=fun x=>.agg #[.q r.lv,.q r.ma,x.1,x.2.1,x.2.2.1,x.2.2.2]) (own:=fun x=>DE r x) (g:=g4) (B:=[]) (args:=fun _=>[.agg #[.q r.lv,.q r.ma,s,d,t,p]])
 case hg=>exact oV
 case hB=>rfl
 case hr=>exact fun β=>aZ (.of I) (.o I .nil) inferInstance I
 case hd=>rfl
 case hc=>exact fun β w' hb=>ht w' hb.mem.keeps
 dsimp only [Nat.reduceAdd];refine aq (fun β=>(bV (.of I) .here ak (by rfl))) br I ?_;dsimp only [Nat.reduceAdd]
 with_reducible apply cy (B:=[1]) (F:=fun _=>.bool (decide (r={ r with po:=q }))) (args:=fun β=>[.agg #[.q r.lv,.q r.ma,(g4 (β 1)).1,(g4 (β 1)).2.1,(g4 (β 1)).2.2.1,(g4 (β 1)).2.2.2],.agg #[.q r.lv,.q r.ma,s1,d1,t1,.slice av q.length cv]])
 case hB=>kernel_rfl
 case hr=>exact fun β=>aZ (.of I) (.o I (.o I .nil)) inferInstance I
 case hi=>exact br
 case hd=>rfl
 case hc=>
  intro β w' dF;have m1:=dF.at 1 Zr (s:=⟨fun β=>.agg #[.q r.lv,.q r.ma,(g4 (β 1)).1,(g4 (β 1)).2.1,(g4 (β 1)).2.2.1,(g4 (β 1)).2.2.2],fun β=>DE r (g4 (β 1))⟩) (by kernel_rfl)
  dsimp only at m1;have hk:=dF.mem.keeps;have r1:=Ce m1 (aQ _ _);have m2:=dF.mem;have r2:RR w' { r with po:=q } s1 d1 t1 (.slice av q.length cv):=⟨bM m2 (by exact Take.there .here) I,bN m2 bF I,bL m2 cA I,hv.keeps hk⟩
  exact MB r1 r2
 refine aq (fun β=>(cS (.of I))) br I ?_;refine fo fun β=>?_;dsimp only [eB,Za,Zb,List.append_eq,Nat.reduceAdd]
 with_reducible refine cM (by kernel_rfl) ?_
 refine Jt<|Je<|JT ?_;have e:(r={ r with po:=q })↔r.po=q:=⟨fun e=>congrArg Ro.po e,fun e=>by cases r;subst e;rfl⟩
 rw [decide_eq_decide.2 e]
end Go.Proofs.A1
