/- Parts of the proof: LI LJ LK LL LM LN LO. -/
import Derived.Test.YteonnodafmegaaaGreatDoorNM11
import Derived.Test.YteonnodafmegaaaGreatDoorNM04
import Derived.Test.YteonnodafmegaaaGreatDoorNM10
import Derived.Lib.AppendIntMem
import Derived.KernelRfl
set_option linter.unusedSectionVars false
set_option linter.unusedVariables false
set_option linter.unusedSimpArgs false
namespace Go.Proofs.A1
open Go Go.SL
def nK (n:Int):ByteArray:=⟨#[UInt8.ofNat (48+n.toNat)]⟩
theorem VE:∀ i,i≤9→(⟨(Lib.decDigits i).toArray⟩:ByteArray)=⟨#[UInt8.ofNat (48+i)]⟩:=by
 intro i h
 match i,h with
 | 0,_=>simp [Lib.decDigits]
 | 1,_=>simp [Lib.decDigits]
 | 2,_=>simp [Lib.decDigits]
 | 3,_=>simp [Lib.decDigits]
 | 4,_=>simp [Lib.decDigits]
 | 5,_=>simp [Lib.decDigits]
 | 6,_=>simp [Lib.decDigits]
 | 7,_=>simp [Lib.decDigits]
 | 8,_=>simp [Lib.decDigits]
 | 9,_=>simp [Lib.decDigits]
theorem No (n:Int) (h0:0≤n) (h1:n≤9) (w:World):aj Tryz.prog 279 [.int .i64 n] w (.string (nK n)):=by
 obtain ⟨i,rfl⟩:∃ i:Nat,n=(i:Nat):=⟨n.toNat,by omega⟩
 refine Calls.mono (Tryz.internal_strconv_Itoa_small i (by omega) w) fun e w' ⟨he,hw⟩=>⟨?_,by rw [hw];exact .refl _ _⟩
 rw [he,VE i (by omega)]
 unfold nK
 rw [ZG]
theorem oz (n:Int) (h0:0≤n) (h1:n≤9) (w:World):aj Tryz.prog 193 [.int .i64 n] w (.string (nK n)):=by
 refine ah Tryz.func193 rfl rfl ?_
 (refine Jr<|Ja rfl<|Ji<|Jv rfl<|ai bL rfl (fun w' aB=>(No n h0 h1 w'))<|Ja rfl<|Jn<|Je<|JT ?_)
 rfl
theorem I6 (n:Int):(nK n).size=1:=rfl
def xW (l:List ByteArray) (sep:ByteArray):ByteArray:=⟨(Lib.join (l.map (·.data.toList)) sep.data.toList).toArray⟩
theorem QT {lv:Value} {l:List ByteArray} (sep:ByteArray) {w:World} (h:Rd w lv 1 (iI l)) (hl:l.length≤1000) (hlen:(Lib.join (l.map (·.data.toList)) sep.data.toList).length≤140737488355328) :
  aj Tryz.prog 278 [lv,.string sep] w (.string (xW l sep)):=by
 obtain ⟨a,cap,b,o,rfl,c7,bQ,ha,hc⟩:=h
 rw [bV] at *
 cases l with
 | nil=>exact Calls.mono (Tryz.strings_Join_none a cap sep w) fun e w' ⟨he,hw⟩=>⟨he,by rw [hw];exact .refl _ _⟩
 | cons x r =>
  have:=ha (by simp [iI])
  subst this
  have aC:∀ (j:Nat) y,(x::r)[j]? = some y→w.cell? ⟨b,o+j,none⟩=some (.string y):=fun j y hj=>by
   have:=(hc j [.string y] (by unfold iI;rw [ZD,hj];rfl)).2 0 _ rfl
   simpa using this
  refine Calls.mono (Calls.up (Tryz.strings_Join b o cap (x::r) sep w aC ?_ (by omega) c7 hlen)) fun e w' ⟨he,hw,hd⟩=>⟨he,aH.IH hw hd⟩
  exact World.block_lt_of_cell? w _ (aC 0 x rfl)
theorem I5 (l:List (List UInt8)) (sep:List UInt8) (n:Nat) (h:∀ x∈l,x.length≤n):(Lib.join l sep).length≤l.length*(n+sep.length):=by
 cases l with
 | nil=>simp [Lib.join]
 | cons x r =>
  have key:∀ (r:List (List UInt8)),(∀ y∈r,y.length≤n)→(Lib.joinTail sep r).length≤r.length*(n+sep.length):=by
   intro r
   induction r with
   | nil=>intro _;simp [Lib.joinTail]
   | cons y r ih =>
    intro hy
    have h1:=hy y (by simp)
    have h2:=ih fun z hz=>hy z (by simp [hz])
    simp only [Lib.joinTail,Z8,ZaB,Zg,ZJ,Zag] at h2 ⊢
    omega
  rw [Lib.join_cons,Zg,ZJ,Zag]
  have h1:=h x (by simp)
  have h2:=key r fun z hz=>h z (by simp [hz])
  omega
def OW (l:List ByteArray):ByteArray:=xW l ⟨#[32]⟩++⟨#[10]⟩
theorem xV {l:List ByteArray} (h4:l.length≤4) (h:∀ x∈l,x.size≤24):(Lib.join (l.map (·.data.toList)) [32]).length≤100:=by
 have:=I5 (l.map (·.data.toList)) [32] 24 (by
  intro x hx
  obtain ⟨y,hy,rfl⟩:=Zu.1 hx
  have:=h y hy
  rw [ZaN];exact this)
 rw [Zd] at this
 have h2:([32]:List UInt8).length=1:=rfl
 rw [h2] at this
 omega
theorem u3 {l:List ByteArray} (h4:l.length≤4) (h:∀ x∈l,x.size≤24):(xW l ⟨#[32]⟩).size≤100:=by
 have:=xV h4 h
 unfold xW
 show Array.size _≤100
 rw [Zbk];exact this
theorem gA {l:List ByteArray} (h4:l.length≤4) (h:∀ x∈l,x.size≤24):(OW l).size≤101:=by
 have:=u3 h4 h
 unfold OW
 rw [ByteArray.size_append]
 have:ByteArray.size ⟨#[10]⟩=1:=rfl
 omega
theorem rY {v:Value} {l:List ByteArray} {w:World} (h:Rd w v 1 (iI l)) (h4:l.length≤4) (hs:∀ x∈l,x.size≤24):aj Tryz.prog 192 [v] w (.string (OW l)):=by
 have hj:∀ w',aH [] w w'→aj Tryz.prog 278 [v,.string ⟨#[32]⟩] w' (.string (xW l ⟨#[32]⟩)):=fun w' hk=>QT (l:=l) ⟨#[32]⟩ (h.keeps hk) (by omega) (ZY (xV h4 hs) (by decide))
 have hz:=u3 h4 hs
 have h1:ByteArray.size ⟨#[10]⟩=1:=rfl
 have hb:(xW l ⟨#[32]⟩).size+ByteArray.size ⟨#[10]⟩≤9223372036854775807:=by omega
 refine ah Tryz.func192 rfl rfl ?_
 (refine Jr<|Ja rfl<|Ji<|Jv rfl<|ai bd rfl (fun w' aB=>(hj w' (Mem.keeps aB)))<|ab (rS (.of rfl) (.of rfl) hb) rfl<|Ja rfl<|Jn<|Je<|JT ?_)
 rfl
def DV:List Value:=[.string ⟨#[114,111,117,116,101,114]⟩,.func (.func 271) #[] #[],.string ⟨#[115,111,117,114,99,101]⟩,.func (.func 273) #[] #[],.string ⟨#[100,101,115,116,105,110,97,116,105,111,110]⟩,.func (.func 275) #[] #[],.string ⟨#[116,105,101]⟩,.func (.func 276) #[] #[],.string ⟨#[112,111,105,110,116]⟩,.func (.func 277) #[] #[]]
theorem N2 (w:World):aj Tryz.prog 191 [] w (.agg DV.toArray):=by
 unfold DV
 refine ah Tryz.func191 rfl rfl ?_
 (refine Jr<|Jz rfl rfl fun _ _=>Ji<|ab (aS (.cons (.of rfl) (.cons (.of rfl) .nil)) ak) rfl<|ab (aS (.cons (.of rfl) (.cons (.of rfl) .nil)) ak) rfl<|ab (aS (.cons (.of rfl) (.cons (.of rfl) .nil)) ak) rfl<|ab (aS (.cons (.of rfl) (.cons (.of rfl) .nil)) ak) rfl<|ab (aS (.cons (.of rfl) (.cons (.of rfl) .nil)) ak) rfl<|ab (aS (.cons (.of rfl) (.cons (.of rfl) (.cons (.of rfl) (.cons (.of rfl) (.cons (.of rfl) .nil))))) ak) rfl<|aq (.of rfl) (.of rfl) .here rfl rfl (bJ rfl (bJ rfl (V1 rfl rfl rfl rfl rfl rfl rfl rfl))) (bF rfl) ak<|Jn<|Je<|oT rfl (kN rfl inferInstance rfl .here ak (by rfl)) ?_)
 rfl
def wR:ByteArray:=⟨#[114,111,117,116,101,114]⟩
def wS:ByteArray:=⟨#[115,111,117,114,99,101]⟩
def wD:ByteArray:=⟨#[100,101,115,116,105,110,97,116,105,111,110]⟩
def wT:ByteArray:=⟨#[116,105,101]⟩
def wP:ByteArray:=⟨#[112,111,105,110,116]⟩
def Hm:ByteArray:=⟨#[102,114,101,101]⟩
def Hl:ByteArray:=⟨#[112,114,111,116,101,99,116,101,100]⟩
def V8 (r:Ro):ByteArray:=OW [wR,nK r.lv,nK r.ma]
def Nl (x:Sr):ByteArray:=OW [wS,x.nm,nK x.mx]
def stD (b:Bool):ByteArray:=if b=true then Hl else Hm
def LF (x:De):ByteArray:=OW [wD,x.nm,nK x.mx,stD x.pr]
def Nk (x:Ti):ByteArray:=OW [wT,x.nm,nK x.fr,nK x.to]
def SR (x:Po):ByteArray:=OW [wP,nK x.lv,x.ou,x.ip]
def mE (a:ByteArray) (l:List ByteArray):ByteArray:=l.foldl (fun a b=>a++b) a
theorem pf {a:ByteArray} {α:Type} {f:α→ByteArray} {l:List α} {k:Nat} (h:k<l.length):mE a ((l.take (k+1)).map f)=mE a ((l.take k).map f)++f l[k]:=by
 unfold mE
 rw [Zn h,Zr,List.foldl_append];rfl
theorem mD {n:Nat}:∀ {l:List ByteArray} {a:ByteArray},(∀ x∈l,x.size≤n)→(mE a l).size≤a.size+n*l.length
 | [],a,_=>Zz _
 | x :: l, a, h => by
  have:=mD (l:=l) (a:=a++x) fun y hy=>h y (ZV _ hy)
  rw [ByteArray.size_append] at this
  have h1:=h x Zt
  show (mE (a++x) l).size≤_
  rw [ZJ,Nat.mul_succ]
  omega
theorem pg {n:Nat} {a:ByteArray} {α:Type} {f:α→ByteArray} {l:List α} {k:Nat} (hn:∀ x∈l,(f x).size≤n):(mE a ((l.take k).map f)).size≤a.size+n*l.length:=by
 have:=mD (n:=n) (a:=a) (l:=(l.take k).map f) (by
  intro x hx
  obtain ⟨y,hy,rfl⟩:=Zu.1 hx
  exact hn y (Zbl hy))
 rw [Zd,Zp] at this
 have:n*min k l.length≤n*l.length:=Zbo _ (Nat.min_le_right _ _)
 omega
def WY (r:Ro):ByteArray:=mE (mE (mE (mE (V8 r) (r.sr.map Nl)) (r.de.map LF)) (r.ti.map Nk)) (r.po.map SR)
def Ij (r:Ro):ByteArray:=if gC r=0 then WY r else ⟨#[]⟩
theorem Na {s:ByteArray} (h:jY s=true):s.size≤24:=by
 unfold jY at h
 simp only [Zm,decide_eq_true_eq] at h
 exact h.1.1.2
structure Prn (r:Ro):Prop where
 n0:(0≤r.lv∧r.lv≤9)∧0≤r.ma∧r.ma≤9
 sr:∀ x∈r.sr,x.nm.size≤24∧0≤x.mx∧x.mx≤9
 de:∀ x∈r.de,x.nm.size≤24∧0≤x.mx∧x.mx≤9
 ti:∀ x∈r.ti,x.nm.size≤24∧(0≤x.fr∧x.fr≤9)∧0≤x.to∧x.to≤9
 po:∀ x∈r.po,(x.ou.size≤24∧x.ip.size≤24)∧0≤x.lv∧x.lv≤9
 len:(r.sr.length≤8∧r.de.length≤8∧r.ti.length≤6)∧r.po.length≤42
theorem prn {r:Ro} (h:gC r=0):Prn r:=by
 have ho:=G9 h
 have hp:=prt (ss h).2.1
 have hl:=ho.lim
 have na:∀ s∈ef r,s.size≤24:=fun s hs=>Na (hp.nm s hs)
 have n1:∀ s∈cC r,s.size≤24:=fun s hs=>na s (ZE _ (ZE _ hs))
 have n2:∀ s∈cy r,s.size≤24:=fun s hs=>na s (ZE _ (ZS _ hs))
 have n3:∀ s∈cU r,s.size≤24:=fun s hs=>na s (ZS _ hs)
 refine ⟨by omega,fun x hx=>?_,fun x hx=>?_,fun x hx=>?_,fun x hx=>?_,hp.len,mO ho ho.val⟩
 ·have:=ho.sm x hx
  exact ⟨n1 _ (Z0 hx),by omega,by omega⟩
 ·have:=ho.dm x hx
  exact ⟨n2 _ (Z0 hx),by omega,by omega⟩
 ·have:=ho.tm x hx
  exact ⟨n3 _ (Z0 hx),by omega,by omega⟩
 ·have:=ho.val.LG x hx
  exact ⟨⟨(ho.val.out x hx).elim (n2 _) (n3 _),(ho.val.xY x hx).elim (n1 _) (n3 _)⟩,by omega,by omega⟩
theorem rX {a b c:ByteArray} (ha:a.size≤24) (hb:b.size≤24) (hc:c.size≤24):∀ x∈[a,b,c],x.size≤24:=by
 intro x hx
 simp only [ZR,Zq,or_false] at hx
 rcases hx with rfl | rfl | rfl <;> assumption
theorem jc {a b c d:ByteArray} (ha:a.size≤24) (hb:b.size≤24) (hc:c.size≤24) (hd:d.size≤24):∀ x∈[a,b,c,d],x.size≤24:=by
 intro x hx
 simp only [ZR,Zq,or_false] at hx
 rcases hx with rfl | rfl | rfl | rfl <;> assumption
theorem eT (n:Int):(nK n).size≤24:=by rw [I6];decide
theorem C8 (b:Bool):(stD b).size≤24:=by cases b <;> decide
theorem OE {r:Ro} {s d t p:Value} {w:World} (h:RR w r s d t p) (cI:lz r):aj Tryz.prog 85 [RA r s d t p] w (.tuple #[.string (Ij r),.int .i64 (gC r)]):=by
 have h1:=Rd.one h.sr
 have h2:=Rd.one h.de
 have h3:=Rd.one h.ti
 have h4:=Rd.one h.po
 have fK:∀ w',aH [] w w'→aj Tryz.prog 34 [.agg #[.int .i64 r.lv,.int .i64 r.ma,s,d,t,p]] w' (.int .i64 (gC r)):=fun w' hk=>eD (h.keeps hk) cI
 have Gu:=h.sr
 have GG:=h.de
 have BO:=h.ti
 have J7:=h.po
 obtain ⟨a1,er,PH,OS,rfl,pJ,iW,lR,kz⟩:=Gu
 obtain ⟨a2,dB,PG,OR,rfl,ku,fb,jz,j6⟩:=GG
 obtain ⟨a3,ee,K9,Iw,rfl,nr,gB,tw,qk⟩:=BO
 obtain ⟨a4,gi,VO,QE,rfl,yi,mz,Hd,zV⟩:=J7
 rw [cE] at *
 rw [cg] at *
 rw [bY] at *
 rw [cT] at *
 unfold maxLen at iW fb gB mz
 unfold RA
 refine ah Tryz.func85 rfl rfl ?_
 (refine Jr<|Jy rfl rfl fun _ _=>Ja rfl<|Ja rfl<|Jn<|Jq<|Jr<|ab (cL .here) rfl<|ai bL rfl (fun w' aB=>(fK w' (Mem.keeps aB)))<|Ja rfl<|Ji<|Jv rfl<|JD rfl<|Jn<|fP rfl (fun ar=>?_) fun ar=>?_;refine Jr<|Jv rfl<|Ja rfl<|Ja rfl<|Jn<|Ju<|oT rfl (fY rfl rfl rfl) ?_;rotate_left;refine Jk<|Jr<|ai ka rfl (fun w' aB=>(N2 w'))<|Jz rfl rfl fun _ _=>aq (.of rfl) (.of rfl) .here rfl rfl (bJ rfl (bJ rfl (V1 rfl rfl rfl rfl rfl rfl rfl rfl))) (bF rfl) ak<|Jn<|Jq ?_;rotate_right)
 ·unfold Ij;rw [if_neg ar]
 have h0:gC r=0:=Zo.1 ar
 have hN:=prn h0
 have e0:Ij r=WY r:=if_pos h0
 rw [e0,h0]
 unfold DV
 skip
 try simp only [setCells,List.set_cons_zero,List.set_cons_succ]
 have q1:=hN.n0
 with_reducible refine dK 12 (by kernel_rfl) ?_
 (refine au (fun β=>(gF (.of rfl) (.of rfl) (by omega) (by omega) bj)) bC rfl<|au (fun β=>(ao (.of rfl) ae)) bC rfl<|au (fun β=>(ag (.of rfl) (At.lit .here rfl))) bC rfl<|au (fun β=>(ao (.of rfl) ae)) bC rfl<|au (fun β=>(ag (.of rfl) (At.lit (.there .here) rfl))) bC rfl ?_)
 dsimp only [Nat.zero_add,Nat.reduceAdd]
 with_reducible apply cZ (B:=[]) (F:=fun _=>.string (nK r.lv)) (args:=fun _=>[.int .i64 r.lv])
 case hB=>rfl
 case hr=>exact fun β=>aY (.of rfl) (.cons (.of rfl) .nil) inferInstance rfl
 case hi=>exact bC
 case hd=>rfl
 case hc=>exact fun β w' dA=>oz _ (by omega) (by omega) _
 dsimp only [Nat.reduceAdd]
 (refine au (fun β=>(ao (.of rfl) ae)) bC rfl<|au (fun β=>(ag (.of rfl) (At.lit (.there .here) rfl))) bC rfl ?_)
 dsimp only [Nat.zero_add,Nat.reduceAdd]
 with_reducible apply cZ (B:=[]) (F:=fun _=>.string (nK r.ma)) (args:=fun _=>[.int .i64 r.ma])
 case hB=>rfl
 case hr=>exact fun β=>aY (.of rfl) (.cons (.of rfl) .nil) inferInstance rfl
 case hi=>exact bC
 case hd=>rfl
 case hc=>exact fun β w' dA=>oz _ (by omega) (by omega) _
 dsimp only [Nat.reduceAdd]
 skip
 refine lu (fun β=>(aD (.cons (.of rfl) (.cons (.of rfl) (.cons (.of rfl) .nil))) rfl rfl rfl rfl)) (fun _ _ _=>rfl) rfl ?_
 dsimp only [Nat.zero_add,Nat.reduceAdd]
 with_reducible apply cZ (B:=[9]) (F:=fun _=>.string (V8 r)) (args:=fun β=>[.slice (some ⟨fL (β 9),0,none⟩) 3 3])
 case hB=>kernel_rfl
 case hr=>exact fun β=>aY (.of rfl) (.cons (.of rfl) .nil) inferInstance rfl
 case hi=>exact bC
 case hd=>rfl
 case hc=>
  intro β w' dA
  have mK:=dA.at 9 Zt (s:=⟨fun β=>.slice (some ⟨fL (β 9),0,none⟩) 3 3,fun β=>[bG (fL (β 9)) (.cells #[.string wR,.string (nK r.lv),.string (nK r.ma)] 9)]⟩) (by kernel_rfl)
  dsimp only [Zb,Za] at mK
  exact rY (l:=[wR,nK r.lv,nK r.ma]) (Mem.dh mK (by exact .here) rfl rfl) (by simp) (rX (by decide) (eT _) (eT _))
 dsimp only [Nat.reduceAdd]
 refine au (fun β=>(cA (.of rfl))) bC rfl ?_
 refine fh fun β=>?_
 dsimp only [eu,Za,Zb,List.append_eq,Nat.reduceAdd]
 with_reducible refine cH (by kernel_rfl) ?_
 (refine Jt<|Jq<|Jr<|bP rfl rfl ae<|JL rfl bT rfl<|JI rfl<|Jv rfl<|Jn<|J0 ?_)
 rename_i b1 sX b5 NQ
 generalize fL (β 9)=b9
 clear β
 have hA:(V8 r).size≤101:=gA (by simp) (rX (by decide) (eT _) (eT _))
 unfold WY
 generalize V8 r=A at hA ⊢
 refine aX (ι:=Nat×ByteArray) (fun y=>y.1≤r.sr.length∧y.2=mE A ((r.sr.take y.1).map Nl)) (fun y=>[(36,.int .i64 (y.1:Nat)),(35,.int .i64 r.sr.length),(34,.slice a1 r.sr.length er),(6,.string y.2),(5,.pointer (some ⟨b5,0,none⟩)),(1,.pointer (some ⟨b1,0,none⟩))]) (fun _=>[bG b5 (.cells #[.string ⟨#[114,111,117,116,101,114]⟩,.func (.func 271) #[] #[],.string ⟨#[115,111,117,114,99,101]⟩,.func (.func 273) #[] #[],.string ⟨#[100,101,115,116,105,110,97,116,105,111,110]⟩,.func (.func 275) #[] #[],.string ⟨#[116,105,101]⟩,.func (.func 276) #[] #[],.string ⟨#[112,111,105,110,116]⟩,.func (.func 277) #[] #[]] 265 (0,0)),JP b1 r (.slice a1 r.sr.length er) (.slice a2 r.de.length dB) (.slice a3 r.ti.length ee) (.slice a4 r.po.length gi)]) (fun y=>r.sr.length-y.1) ?_ ?_
 ·apply aI (0,A) ⟨Zi _,rfl⟩
  case hs1=>exact cd
  case ht=>
   exact .cons (.there .here) (.cons (.there .here) .nil)
 rintro ⟨k,S⟩ ⟨hk,hS⟩
 dsimp only at hk hS ⊢
 by_cases aK:k<r.sr.length
 ·have cB:=lR (iJ aK)
  have aC:=(kz k _ (fQ aK)).2
  have hx:=hN.sr _ (Zj aK)
  have jE:=pf (a:=A) (f:=Nl) aK
  rw [← hS] at jE
  unfold Sr.cells at aC
  generalize r.sr[k]=x at aC hx jE
  have hz:(Nl x).size≤101:=gA (by simp) (rX (by decide) hx.1 (eT _))
  have R2:S.size≤A.size+101*r.sr.length:=by rw [hS];exact pg fun y hy=>gA (by simp) (rX (by decide) (hN.sr y hy).1 (eT _))
  have Ws:=hN.len
  have hb:S.size+(Nl x).size≤9223372036854775807:=by omega
  (refine Jr<|JA rfl<|Jn<|Jq<|Jd rfl fun ar=>Jk<|Jq<|J0<|Jr<|ab (fG cB ar) rfl<|ab (gS (eF.base aC rfl)) rfl<|Jz rfl rfl fun _ _=>aq (.of rfl) (.of rfl) .here rfl rfl (fN rfl rfl) (bF rfl) ak<|Jn ?_)
  with_reducible refine dK 13 (by kernel_rfl) ?_
  (refine au (fun β=>(a7 (.of rfl))) bC rfl<|au (fun β=>(gF (.of rfl) (.of rfl) (by omega) (by omega) bj)) bC rfl<|au (fun β=>(ao (.of rfl) ae)) bC rfl<|au (fun β=>(ag (.of rfl) (At.lit (.there .here) rfl))) bC rfl<|au (fun β=>(ao (.of rfl) ae)) bC rfl<|au (fun β=>(ag (.of rfl) (At.lit .here rfl))) bC rfl<|au (fun β=>(ao (.of rfl) ae)) bC rfl<|au (fun β=>(ag (.of rfl) (At.lit .here rfl))) bC rfl ?_)
  dsimp only [Nat.zero_add,Nat.reduceAdd]
  with_reducible apply cZ (B:=[]) (F:=fun _=>.string (nK x.mx)) (args:=fun _=>[.int .i64 x.mx])
  case hB=>rfl
  case hr=>exact fun β=>aY (.of rfl) (.cons (.of rfl) .nil) inferInstance rfl
  case hi=>exact bC
  case hd=>rfl
  case hc=>exact fun β w' dA=>oz _ (by omega) (by omega) _
  dsimp only [Nat.reduceAdd]
  skip
  refine lu (fun β=>(aD (.cons (.of rfl) (.cons (.of rfl) (.cons (.of rfl) .nil))) rfl rfl rfl rfl)) (fun _ _ _=>rfl) rfl ?_
  dsimp only [Nat.zero_add,Nat.reduceAdd]
  with_reducible apply cZ (B:=[9]) (F:=fun _=>.string (Nl x)) (args:=fun β=>[.slice (some ⟨fL (β 9),0,none⟩) 3 3])
  case hB=>kernel_rfl
  case hr=>exact fun β=>aY (.of rfl) (.cons (.of rfl) .nil) inferInstance rfl
  case hi=>exact bC
  case hd=>rfl
  case hc=>
   intro β w' dA
   have mK:=dA.at 9 Zt (s:=⟨fun β=>.slice (some ⟨fL (β 9),0,none⟩) 3 3,fun β=>[bG (fL (β 9)) (.cells #[.string wS,.string x.nm,.string (nK x.mx)] 9)]⟩) (by kernel_rfl)
   dsimp only [Zb,Za] at mK
   exact rY (l:=[wS,x.nm,nK x.mx]) (Mem.dh mK (by exact .here) rfl rfl) (by simp) (rX (by decide) hx.1 (eT _))
  dsimp only [Nat.reduceAdd]
  (refine au (fun β=>(rS (.of rfl) (.of rfl) hb)) bC rfl<|au (fun β=>(cA (.of rfl))) bC rfl ?_)
  refine fh fun β=>?_
  dsimp only [eu,Za,Zb,List.append_eq,Nat.reduceAdd]
  with_reducible refine cH (by kernel_rfl) ?_
  refine Jj<|Jt<|Jg<|JB rfl (by omega)<|Jv rfl<|Jn ?_
  apply aJ (k+1,_) (show _∧_ from ⟨by omega,jE.symm⟩) (show r.sr.length-(k+1)<r.sr.length-k by omega)
  case hs1=>exact cd
  case ht=>
   exact .cons bT (.cons bT .nil)
 obtain rfl:k=r.sr.length:=by omega
 rw [ZL] at hS
 subst hS
 have hA:(mE A (r.sr.map Nl)).size≤909:=by
  have:=mD (n:=101) (a:=A) (l:=r.sr.map Nl) (by
   intro x hx
   obtain ⟨y,hy,rfl⟩:=Zu.1 hx
   exact gA (by simp) (rX (by decide) (hN.sr y hy).1 (eT _)))
  rw [Zd] at this
  have:=hN.len
  omega
 generalize mE A (r.sr.map Nl)=A at hA ⊢
 clear aK hk
 (refine Jr<|JA rfl<|Jn<|Jq<|Jc rfl fun ar=>Jp<|Jl<|Jo<|Jt<|Jq<|Jr<|bP rfl rfl ae<|JL rfl (.there .here) rfl<|JI rfl<|Jv rfl<|Jn<|J0 ?_)
 refine aX (ι:=Nat×ByteArray) (fun y=>y.1≤r.de.length∧y.2=mE A ((r.de.take y.1).map LF)) (fun y=>[(56,.int .i64 (y.1:Nat)),(55,.int .i64 r.de.length),(54,.slice a2 r.de.length dB),(6,.string y.2),(5,.pointer (some ⟨b5,0,none⟩)),(1,.pointer (some ⟨b1,0,none⟩))]) (fun _=>[bG b5 (.cells #[.string ⟨#[114,111,117,116,101,114]⟩,.func (.func 271) #[] #[],.string ⟨#[115,111,117,114,99,101]⟩,.func (.func 273) #[] #[],.string ⟨#[100,101,115,116,105,110,97,116,105,111,110]⟩,.func (.func 275) #[] #[],.string ⟨#[116,105,101]⟩,.func (.func 276) #[] #[],.string ⟨#[112,111,105,110,116]⟩,.func (.func 277) #[] #[]] 265 (0,0)),JP b1 r (.slice a1 r.sr.length er) (.slice a2 r.de.length dB) (.slice a3 r.ti.length ee) (.slice a4 r.po.length gi)]) (fun y=>r.de.length-y.1) ?_ ?_
 ·apply aI (0,A) ⟨Zi _,rfl⟩
  case hs1=>exact cd
  case ht=>
   exact .cons .here (.cons .here .nil)
 rintro ⟨k,S⟩ ⟨hk,hS⟩
 dsimp only at hk hS ⊢
 by_cases aK:k<r.de.length
 ·have cB:=jz (gJ aK)
  have aC:=(j6 k _ (fj aK)).2
  have hx:=hN.de _ (Zj aK)
  have jE:=pf (a:=A) (f:=LF) aK
  rw [← hS] at jE
  unfold De.cells at aC
  generalize r.de[k]=x at aC hx jE
  have hz:(LF x).size≤101:=gA (by simp) (jc (by decide) hx.1 (eT _) (C8 _))
  have R2:S.size≤A.size+101*r.de.length:=by rw [hS];exact pg fun y hy=>gA (by simp) (jc (by decide) (hN.de y hy).1 (eT _) (C8 _))
  have Ws:=hN.len
  have hb:S.size+(LF x).size≤9223372036854775807:=by omega
  clear hz R2 Ws
  obtain ⟨xn,xm,xp⟩:=x
  dsimp only at aC hx jE hb ⊢
  cases xp
  ·(refine Jr<|JA rfl<|Jn<|Jq<|Jd rfl fun ar=>Jk<|Jq<|J0<|Jr<|ab (fG cB ar) rfl<|ab (gS (eF.base aC rfl)) rfl<|Jz rfl rfl fun _ _=>aq (.of rfl) (.of rfl) .here rfl rfl (fo rfl rfl rfl) (bF rfl) ak<|Ji<|Ja rfl<|Jn<|Jq<|Jr<|bP rfl rfl ae<|JL rfl .here rfl<|Jn<|bN (.of rfl)<|Jk ?_)
   with_reducible refine dK 14 (by kernel_rfl) ?_
   (refine au (fun β=>(a7 (.of rfl))) bC rfl<|au (fun β=>(gF (.of rfl) (.of rfl) (by omega) (by omega) bj)) bC rfl<|au (fun β=>(ao (.of rfl) ae)) bC rfl<|au (fun β=>(ag (.of rfl) (At.lit (.there .here) rfl))) bC rfl<|au (fun β=>(ao (.of rfl) ae)) bC rfl<|au (fun β=>(ag (.of rfl) (At.lit .here rfl))) bC rfl<|au (fun β=>(ao (.of rfl) ae)) bC rfl<|au (fun β=>(ag (.of rfl) (At.lit .here rfl))) bC rfl ?_)
   dsimp only [Nat.zero_add,Nat.reduceAdd]
   with_reducible apply cZ (B:=[]) (F:=fun _=>.string (nK xm)) (args:=fun _=>[.int .i64 xm])
   case hB=>rfl
   case hr=>exact fun β=>aY (.of rfl) (.cons (.of rfl) .nil) inferInstance rfl
   case hi=>exact bC
   case hd=>rfl
   case hc=>exact fun β w' dA=>oz _ (by omega) (by omega) _
   dsimp only [Nat.reduceAdd]
   refine au (fun β=>(a7 (.of rfl))) bC rfl ?_
   refine lu (fun β=>(aD (.cons (.of rfl) (.cons (.of rfl) (.cons (.of rfl) (.cons (.of rfl) .nil)))) rfl rfl rfl rfl)) (fun _ _ _=>rfl) rfl ?_
   dsimp only [Nat.zero_add,Nat.reduceAdd]
   with_reducible apply cZ (B:=[10]) (F:=fun _=>.string (LF ⟨xn,xm,false⟩)) (args:=fun β=>[.slice (some ⟨fL (β 10),0,none⟩) 4 4])
   case hB=>kernel_rfl
   case hr=>exact fun β=>aY (.of rfl) (.cons (.of rfl) .nil) inferInstance rfl
   case hi=>exact bC
   case hd=>rfl
   case hc=>
    intro β w' dA
    have mK:=dA.at 10 Zt (s:=⟨fun β=>.slice (some ⟨fL (β 10),0,none⟩) 4 4,fun β=>[bG (fL (β 10)) (.cells #[.string wD,.string xn,.string (nK xm),.string Hm] 9)]⟩) (by kernel_rfl)
    dsimp only [Zb,Za] at mK
    exact rY (l:=[wD,xn,nK xm,Hm]) (Mem.dh mK (by exact .here) rfl rfl) (by simp) (jc (by decide) hx.1 (eT _) (by decide))
   dsimp only [Nat.reduceAdd]
   (refine au (fun β=>(rS (.of rfl) (.of rfl) hb)) bC rfl<|au (fun β=>(cA (.of rfl))) bC rfl ?_)
   refine fh fun β=>?_
   dsimp only [eu,Za,Zb,List.append_eq,Nat.reduceAdd]
   with_reducible refine cH (by kernel_rfl) ?_
   refine Jj<|Jt<|Jg<|JB rfl (by omega)<|Jv rfl<|Jn ?_
   apply aJ (k+1,_) (show _∧_ from ⟨by omega,jE.symm⟩) (show r.de.length-(k+1)<r.de.length-k by omega)
   case hs1=>exact cd
   case ht=>
    exact .cons bT (.cons bT .nil)
  ·(refine Jr<|JA rfl<|Jn<|Jq<|Jd rfl fun ar=>Jk<|Jq<|J0<|Jr<|ab (fG cB ar) rfl<|ab (gS (eF.base aC rfl)) rfl<|Jz rfl rfl fun _ _=>aq (.of rfl) (.of rfl) .here rfl rfl (fo rfl rfl rfl) (bF rfl) ak<|Ji<|Ja rfl<|Jn<|Jq<|Jr<|bP rfl rfl ae<|JL rfl .here rfl<|Jn<|cF (.of rfl)<|Jg<|Ja rfl<|Jn ?_)
   with_reducible refine dK 14 (by kernel_rfl) ?_
   (refine au (fun β=>(a7 (.of rfl))) bC rfl<|au (fun β=>(gF (.of rfl) (.of rfl) (by omega) (by omega) bj)) bC rfl<|au (fun β=>(ao (.of rfl) ae)) bC rfl<|au (fun β=>(ag (.of rfl) (At.lit (.there .here) rfl))) bC rfl<|au (fun β=>(ao (.of rfl) ae)) bC rfl<|au (fun β=>(ag (.of rfl) (At.lit .here rfl))) bC rfl<|au (fun β=>(ao (.of rfl) ae)) bC rfl<|au (fun β=>(ag (.of rfl) (At.lit .here rfl))) bC rfl ?_)
   dsimp only [Nat.zero_add,Nat.reduceAdd]
   with_reducible apply cZ (B:=[]) (F:=fun _=>.string (nK xm)) (args:=fun _=>[.int .i64 xm])
   case hB=>rfl
   case hr=>exact fun β=>aY (.of rfl) (.cons (.of rfl) .nil) inferInstance rfl
   case hi=>exact bC
   case hd=>rfl
   case hc=>exact fun β w' dA=>oz _ (by omega) (by omega) _
   dsimp only [Nat.reduceAdd]
   refine au (fun β=>(a7 (.of rfl))) bC rfl ?_
   refine lu (fun β=>(aD (.cons (.of rfl) (.cons (.of rfl) (.cons (.of rfl) (.cons (.of rfl) .nil)))) rfl rfl rfl rfl)) (fun _ _ _=>rfl) rfl ?_
   dsimp only [Nat.zero_add,Nat.reduceAdd]
   with_reducible apply cZ (B:=[10]) (F:=fun _=>.string (LF ⟨xn,xm,true⟩)) (args:=fun β=>[.slice (some ⟨fL (β 10),0,none⟩) 4 4])
   case hB=>kernel_rfl
   case hr=>exact fun β=>aY (.of rfl) (.cons (.of rfl) .nil) inferInstance rfl
   case hi=>exact bC
   case hd=>rfl
   case hc=>
    intro β w' dA
    have mK:=dA.at 10 Zt (s:=⟨fun β=>.slice (some ⟨fL (β 10),0,none⟩) 4 4,fun β=>[bG (fL (β 10)) (.cells #[.string wD,.string xn,.string (nK xm),.string Hl] 9)]⟩) (by kernel_rfl)
    dsimp only [Zb,Za] at mK
    exact rY (l:=[wD,xn,nK xm,Hl]) (Mem.dh mK (by exact .here) rfl rfl) (by simp) (jc (by decide) hx.1 (eT _) (by decide))
   dsimp only [Nat.reduceAdd]
   (refine au (fun β=>(rS (.of rfl) (.of rfl) hb)) bC rfl<|au (fun β=>(cA (.of rfl))) bC rfl ?_)
   refine fh fun β=>?_
   dsimp only [eu,Za,Zb,List.append_eq,Nat.reduceAdd]
   with_reducible refine cH (by kernel_rfl) ?_
   refine Jj<|Jt<|Jg<|JB rfl (by omega)<|Jv rfl<|Jn ?_
   apply aJ (k+1,_) (show _∧_ from ⟨by omega,jE.symm⟩) (show r.de.length-(k+1)<r.de.length-k by omega)
   case hs1=>exact cd
   case ht=>
    exact .cons bT (.cons bT .nil)
 obtain rfl:k=r.de.length:=by omega
 rw [ZL] at hS
 subst hS
 have hA:(mE A (r.de.map LF)).size≤1717:=by
  have:=mD (n:=101) (a:=A) (l:=r.de.map LF) (by
   intro x hx
   obtain ⟨y,hy,rfl⟩:=Zu.1 hx
   exact gA (by simp) (jc (by decide) (hN.de y hy).1 (eT _) (C8 _)))
  rw [Zd] at this
  have:=hN.len
  omega
 generalize mE A (r.de.map LF)=A at hA ⊢
 clear aK hk
 (refine Jr<|JA rfl<|Jn<|Jq<|Jc rfl fun ar=>Jp<|Jl<|Jo<|Jt<|Jq<|Jr<|bP rfl rfl ae<|JL rfl (.there .here) rfl<|JI rfl<|Jv rfl<|Jn<|J0 ?_)
 refine aX (ι:=Nat×ByteArray) (fun y=>y.1≤r.ti.length∧y.2=mE A ((r.ti.take y.1).map Nk)) (fun y=>[(79,.int .i64 (y.1:Nat)),(78,.int .i64 r.ti.length),(77,.slice a3 r.ti.length ee),(6,.string y.2),(5,.pointer (some ⟨b5,0,none⟩)),(1,.pointer (some ⟨b1,0,none⟩))]) (fun _=>[bG b5 (.cells #[.string ⟨#[114,111,117,116,101,114]⟩,.func (.func 271) #[] #[],.string ⟨#[115,111,117,114,99,101]⟩,.func (.func 273) #[] #[],.string ⟨#[100,101,115,116,105,110,97,116,105,111,110]⟩,.func (.func 275) #[] #[],.string ⟨#[116,105,101]⟩,.func (.func 276) #[] #[],.string ⟨#[112,111,105,110,116]⟩,.func (.func 277) #[] #[]] 265 (0,0)),JP b1 r (.slice a1 r.sr.length er) (.slice a2 r.de.length dB) (.slice a3 r.ti.length ee) (.slice a4 r.po.length gi)]) (fun y=>r.ti.length-y.1) ?_ ?_
 ·apply aI (0,A) ⟨Zi _,rfl⟩
  case hs1=>exact cd
  case ht=>
   exact .cons .here (.cons .here .nil)
 rintro ⟨k,S⟩ ⟨hk,hS⟩
 dsimp only at hk hS ⊢
 by_cases aK:k<r.ti.length
 ·have cB:=tw (fq aK)
  have aC:=(qk k _ (eB aK)).2
  have hx:=hN.ti _ (Zj aK)
  have jE:=pf (a:=A) (f:=Nk) aK
  rw [← hS] at jE
  unfold Ti.cells at aC
  generalize r.ti[k]=x at aC hx jE
  have hz:(Nk x).size≤101:=gA (by simp) (jc (by decide) hx.1 (eT _) (eT _))
  have R2:S.size≤A.size+101*r.ti.length:=by rw [hS];exact pg fun y hy=>gA (by simp) (jc (by decide) (hN.ti y hy).1 (eT _) (eT _))
  have Ws:=hN.len
  have hb:S.size+(Nk x).size≤9223372036854775807:=by omega
  (refine Jr<|JA rfl<|Jn<|Jq<|Jd rfl fun ar=>Jk<|Jq<|J0<|Jr<|ab (fG cB ar) rfl<|ab (gS (eF.base aC rfl)) rfl<|Jz rfl rfl fun _ _=>aq (.of rfl) (.of rfl) .here rfl rfl (fo rfl rfl rfl) (bF rfl) ak<|Jn ?_)
  with_reducible refine dK 16 (by kernel_rfl) ?_
  (refine au (fun β=>(a7 (.of rfl))) bC rfl<|au (fun β=>(gF (.of rfl) (.of rfl) (by omega) (by omega) bj)) bC rfl<|au (fun β=>(ao (.of rfl) ae)) bC rfl<|au (fun β=>(ag (.of rfl) (At.lit (.there .here) rfl))) bC rfl<|au (fun β=>(ao (.of rfl) ae)) bC rfl<|au (fun β=>(ag (.of rfl) (At.lit .here rfl))) bC rfl<|au (fun β=>(ao (.of rfl) ae)) bC rfl<|au (fun β=>(ag (.of rfl) (At.lit .here rfl))) bC rfl ?_)
  dsimp only [Nat.zero_add,Nat.reduceAdd]
  with_reducible apply cZ (B:=[]) (F:=fun _=>.string (nK x.fr)) (args:=fun _=>[.int .i64 x.fr])
  case hB=>rfl
  case hr=>exact fun β=>aY (.of rfl) (.cons (.of rfl) .nil) inferInstance rfl
  case hi=>exact bC
  case hd=>rfl
  case hc=>exact fun β w' dA=>oz _ (by omega) (by omega) _
  dsimp only [Nat.reduceAdd]
  (refine au (fun β=>(ao (.of rfl) ae)) bC rfl<|au (fun β=>(ag (.of rfl) (At.lit .here rfl))) bC rfl ?_)
  dsimp only [Nat.zero_add,Nat.reduceAdd]
  with_reducible apply cZ (B:=[]) (F:=fun _=>.string (nK x.to)) (args:=fun _=>[.int .i64 x.to])
  case hB=>rfl
  case hr=>exact fun β=>aY (.of rfl) (.cons (.of rfl) .nil) inferInstance rfl
  case hi=>exact bC
  case hd=>rfl
  case hc=>exact fun β w' dA=>oz _ (by omega) (by omega) _
  dsimp only [Nat.reduceAdd]
  skip
  refine lu (fun β=>(aD (.cons (.of rfl) (.cons (.of rfl) (.cons (.of rfl) (.cons (.of rfl) .nil)))) rfl rfl rfl rfl)) (fun _ _ _=>rfl) rfl ?_
  dsimp only [Nat.zero_add,Nat.reduceAdd]
  with_reducible apply cZ (B:=[12]) (F:=fun _=>.string (Nk x)) (args:=fun β=>[.slice (some ⟨fL (β 12),0,none⟩) 4 4])
  case hB=>kernel_rfl
  case hr=>exact fun β=>aY (.of rfl) (.cons (.of rfl) .nil) inferInstance rfl
  case hi=>exact bC
  case hd=>rfl
  case hc=>
   intro β w' dA
   have mK:=dA.at 12 Zt (s:=⟨fun β=>.slice (some ⟨fL (β 12),0,none⟩) 4 4,fun β=>[bG (fL (β 12)) (.cells #[.string wT,.string x.nm,.string (nK x.fr),.string (nK x.to)] 9)]⟩) (by kernel_rfl)
   dsimp only [Zb,Za] at mK
   exact rY (l:=[wT,x.nm,nK x.fr,nK x.to]) (Mem.dh mK (by exact .here) rfl rfl) (by simp) (jc (by decide) hx.1 (eT _) (eT _))
  dsimp only [Nat.reduceAdd]
  (refine au (fun β=>(rS (.of rfl) (.of rfl) hb)) bC rfl<|au (fun β=>(cA (.of rfl))) bC rfl ?_)
  refine fh fun β=>?_
  dsimp only [eu,Za,Zb,List.append_eq,Nat.reduceAdd]
  with_reducible refine cH (by kernel_rfl) ?_
  refine Jj<|Jt<|Jg<|JB rfl (by omega)<|Jv rfl<|Jn ?_
  apply aJ (k+1,_) (show _∧_ from ⟨by omega,jE.symm⟩) (show r.ti.length-(k+1)<r.ti.length-k by omega)
  case hs1=>exact cd
  case ht=>
   exact .cons bT (.cons bT .nil)
 obtain rfl:k=r.ti.length:=by omega
 rw [ZL] at hS
 subst hS
 have hA:(mE A (r.ti.map Nk)).size≤2323:=by
  have:=mD (n:=101) (a:=A) (l:=r.ti.map Nk) (by
   intro x hx
   obtain ⟨y,hy,rfl⟩:=Zu.1 hx
   exact gA (by simp) (jc (by decide) (hN.ti y hy).1 (eT _) (eT _)))
  rw [Zd] at this
  have:=hN.len
  omega
 generalize mE A (r.ti.map Nk)=A at hA ⊢
 clear aK hk
 (refine Jr<|JA rfl<|Jn<|Jq<|Jc rfl fun ar=>Jp<|Jl<|Jo<|Jt<|Jq<|Jr<|bP rfl rfl ae<|JL rfl (.there .here) rfl<|JI rfl<|Jv rfl<|Jn<|J0 ?_)
 refine aX (ι:=Nat×ByteArray) (fun y=>y.1≤r.po.length∧y.2=mE A ((r.po.take y.1).map SR)) (fun y=>[(102,.int .i64 (y.1:Nat)),(101,.int .i64 r.po.length),(100,.slice a4 r.po.length gi),(6,.string y.2),(5,.pointer (some ⟨b5,0,none⟩)),(1,.pointer (some ⟨b1,0,none⟩))]) (fun _=>[bG b5 (.cells #[.string ⟨#[114,111,117,116,101,114]⟩,.func (.func 271) #[] #[],.string ⟨#[115,111,117,114,99,101]⟩,.func (.func 273) #[] #[],.string ⟨#[100,101,115,116,105,110,97,116,105,111,110]⟩,.func (.func 275) #[] #[],.string ⟨#[116,105,101]⟩,.func (.func 276) #[] #[],.string ⟨#[112,111,105,110,116]⟩,.func (.func 277) #[] #[]] 265 (0,0)),JP b1 r (.slice a1 r.sr.length er) (.slice a2 r.de.length dB) (.slice a3 r.ti.length ee) (.slice a4 r.po.length gi)]) (fun y=>r.po.length-y.1) ?_ ?_
 ·apply aI (0,A) ⟨Zi _,rfl⟩
  case hs1=>exact cd
  case ht=>
   exact .cons .here (.cons .here .nil)
 rintro ⟨k,S⟩ ⟨hk,hS⟩
 dsimp only at hk hS ⊢
 by_cases aK:k<r.po.length
 ·have cB:=Hd (kg aK)
  have aC:=(zV k _ (iq aK)).2
  have hx:=hN.po _ (Zj aK)
  have jE:=pf (a:=A) (f:=SR) aK
  rw [← hS] at jE
  unfold Po.cells at aC
  generalize r.po[k]=x at aC hx jE
  have hz:(SR x).size≤101:=gA (by simp) (jc (by decide) (eT _) hx.1.1 hx.1.2)
  have R2:S.size≤A.size+101*r.po.length:=by rw [hS];exact pg fun y hy=>gA (by simp) (jc (by decide) (eT _) (hN.po y hy).1.1 (hN.po y hy).1.2)
  have Ws:=hN.len
  have hb:S.size+(SR x).size≤9223372036854775807:=by omega
  (refine Jr<|JA rfl<|Jn<|Jq<|Jd rfl fun ar=>Jk<|Jq<|J0<|Jr<|ab (fG cB ar) rfl<|ab (gS (eF.base aC rfl)) rfl<|Jz rfl rfl fun _ _=>aq (.of rfl) (.of rfl) .here rfl rfl (fo rfl rfl rfl) (bF rfl) ak<|Jn ?_)
  with_reducible refine dK 15 (by kernel_rfl) ?_
  (refine au (fun β=>(a7 (.of rfl))) bC rfl<|au (fun β=>(gF (.of rfl) (.of rfl) (by omega) (by omega) bj)) bC rfl<|au (fun β=>(ao (.of rfl) ae)) bC rfl<|au (fun β=>(ag (.of rfl) (At.lit (.there .here) rfl))) bC rfl<|au (fun β=>(ao (.of rfl) ae)) bC rfl<|au (fun β=>(ag (.of rfl) (At.lit .here rfl))) bC rfl ?_)
  dsimp only [Nat.zero_add,Nat.reduceAdd]
  with_reducible apply cZ (B:=[]) (F:=fun _=>.string (nK x.lv)) (args:=fun _=>[.int .i64 x.lv])
  case hB=>rfl
  case hr=>exact fun β=>aY (.of rfl) (.cons (.of rfl) .nil) inferInstance rfl
  case hi=>exact bC
  case hd=>rfl
  case hc=>exact fun β w' dA=>oz _ (by omega) (by omega) _
  dsimp only [Nat.reduceAdd]
  (refine au (fun β=>(ao (.of rfl) ae)) bC rfl<|au (fun β=>(ag (.of rfl) (At.lit .here rfl))) bC rfl<|au (fun β=>(ao (.of rfl) ae)) bC rfl<|au (fun β=>(ag (.of rfl) (At.lit .here rfl))) bC rfl ?_)
  refine lu (fun β=>(aD (.cons (.of rfl) (.cons (.of rfl) (.cons (.of rfl) (.cons (.of rfl) .nil)))) rfl rfl rfl rfl)) (fun _ _ _=>rfl) rfl ?_
  dsimp only [Nat.zero_add,Nat.reduceAdd]
  with_reducible apply cZ (B:=[11]) (F:=fun _=>.string (SR x)) (args:=fun β=>[.slice (some ⟨fL (β 11),0,none⟩) 4 4])
  case hB=>kernel_rfl
  case hr=>exact fun β=>aY (.of rfl) (.cons (.of rfl) .nil) inferInstance rfl
  case hi=>exact bC
  case hd=>rfl
  case hc=>
   intro β w' dA
   have mK:=dA.at 11 Zt (s:=⟨fun β=>.slice (some ⟨fL (β 11),0,none⟩) 4 4,fun β=>[bG (fL (β 11)) (.cells #[.string wP,.string (nK x.lv),.string x.ou,.string x.ip] 9)]⟩) (by kernel_rfl)
   dsimp only [Zb,Za] at mK
   exact rY (l:=[wP,nK x.lv,x.ou,x.ip]) (Mem.dh mK (by exact .here) rfl rfl) (by simp) (jc (by decide) (eT _) hx.1.1 hx.1.2)
  dsimp only [Nat.reduceAdd]
  (refine au (fun β=>(rS (.of rfl) (.of rfl) hb)) bC rfl<|au (fun β=>(cA (.of rfl))) bC rfl ?_)
  refine fh fun β=>?_
  dsimp only [eu,Za,Zb,List.append_eq,Nat.reduceAdd]
  with_reducible refine cH (by kernel_rfl) ?_
  refine Jj<|Jt<|Jg<|JB rfl (by omega)<|Jv rfl<|Jn ?_
  apply aJ (k+1,_) (show _∧_ from ⟨by omega,jE.symm⟩) (show r.po.length-(k+1)<r.po.length-k by omega)
  case hs1=>exact cd
  case ht=>
   exact .cons bT (.cons bT .nil)
 obtain rfl:k=r.po.length:=by omega
 rw [ZL] at hS
 rw [← hS]
 refine Jr<|JA rfl<|Jn<|Jq<|Jc rfl fun ar=>Jp<|Jl<|Jo<|Jt<|Jr<|Jv rfl<|Ja rfl<|Ja rfl<|Jn<|Je<|oT rfl (fY rfl rfl rfl) ?_
 rfl
def Lx (r:Ro) (x:Value×Value×Value×Value):List a8:=[row 118 2 x.1 r.sr.length (nR r.sr),row 88 3 x.2.1 r.de.length (lS r.de),row 122 3 x.2.2.1 r.ti.length (pS r.ti),row 180 3 x.2.2.2 r.po.length (gR r.po)]
def me (r:Ro):Prop:=r.sr.length≤1000000∧r.de.length≤1000000∧r.ti.length≤1000000∧r.po.length≤1000000
theorem TQ {r:Ro} {s d t p:Value} {w:World} (h:RR w r s d t p) (cI:me r):bh Tryz.prog 21 [RA r s d t p] w [] (fun _:Value×Value×Value×Value=>True) (fun x=>RA r x.1 x.2.1 x.2.2.1 x.2.2.2) (fun x=>pC r x):=by
 have h1:=Rd.one h.sr
 have h2:=Rd.one h.de
 have h3:=Rd.one h.ti
 have h4:=Rd.one h.po
 have Gu:=h.sr
 have GG:=h.de
 have BO:=h.ti
 have J7:=h.po
 obtain ⟨a1,er,PH,OS,rfl,pJ,iW,lR,kz⟩:=Gu
 obtain ⟨a2,dB,PG,OR,rfl,ku,fb,jz,j6⟩:=GG
 obtain ⟨a3,ee,K9,Iw,rfl,nr,gB,tw,qk⟩:=BO
 obtain ⟨a4,gi,VO,QE,rfl,yi,mz,Hd,zV⟩:=J7
 rw [cE] at *
 rw [cg] at *
 rw [bY] at *
 rw [cT] at *
 unfold maxLen at iW fb gB mz
 obtain ⟨f1,f2,f3,f4⟩:=cI
 unfold RA
 refine aQ Tryz.func21 rfl rfl ?_
 (refine Jr<|Jy rfl rfl fun _ _=>Jz rfl rfl fun _ _=>Ji<|bP rfl rfl ae<|JL rfl (.there .here) rfl<|bP rfl rfl ae<|JL rfl (.there .here) rfl<|ab (aS (.cons (.of rfl) (.cons (.of rfl) .nil)) ak) rfl<|Jz rfl rfl fun _ _=>aq (.of rfl) (.of rfl) .here rfl rfl (gE rfl rfl rfl rfl rfl rfl) (bF rfl) ak<|Jn<|Jq<|Jr<|bP rfl rfl ae<|JL rfl bT rfl<|JI rfl<|Jv rfl<|Jn<|J0 ?_)
 rename_i b1 sX b2 sW b3 vo
 refine aP 186 2 ?_
 refine aX (ι:=Nat×Option Addr×Nat) (fun y=>y.1≤r.sr.length) (fun y=>[(20,.int .i64 (y.1:Nat)),(19,.int .i64 r.sr.length),(18,.slice a1 r.sr.length er),(3,.pointer (some ⟨b3,0,none⟩)),(2,.pointer (some ⟨b2,0,none⟩)),(1,.pointer (some ⟨b1,0,none⟩))]) (fun y=>[row 186 2 (.slice y.2.1 y.1 y.2.2) y.1 (nR (r.sr.take y.1)),JP b3 r (.slice y.2.1 y.1 y.2.2) (.slice none 0 0) (.slice none 0 0) (.slice none 0 0),bG b2 (.cells #[.int .i64 0,.int .i64 0,.slice none 0 0,.slice none 0 0,.slice none 0 0,.slice none 0 0] 41 (0,0)),JQ b1 r (.slice a1 r.sr.length er) (.slice a2 r.de.length dB) (.slice a3 r.ti.length ee) (.slice a4 r.po.length gi)]) (fun y=>r.sr.length-y.1) ?_ ?_
 ·apply aI (0,none,0) (Zi _)
  case hs1=>exact cd
  case ht=>
   exact .cons .here (.cons .here (.cons .here (.cons .here .nil)))
 rintro ⟨k,g1,rq⟩ hk
 dsimp only at hk ⊢
 by_cases aK:k<r.sr.length
 ·have cB:=lR (iJ aK)
  have aC:=(kz k _ (fQ aK)).2
  have bb:=A7 aK
  have hlen:(nR (r.sr.take k)).length=k*2:=by rw [EF,Zp];omega
  unfold Sr.cells at aC bb
  generalize r.sr[k]=x at aC bb
  (refine Jr<|JA rfl<|Jn<|Jq<|Jd rfl fun ar=>Jk<|Jq<|J0<|Jr<|ab (fG cB ar) rfl<|ab (gS (eF.base aC rfl)) rfl<|Jz rfl rfl fun _ _=>aq (.of rfl) (.of rfl) .here rfl rfl (fN rfl rfl) (bF rfl) ak<|Jn<|Jg<|bP rfl rfl ae<|JL rfl bT rfl<|ab (cL .here) rfl<|bo (bu (.cons (.of rfl) .nil) rfl rfl bO bO ak) rfl fun _ _=>?_)
  refine bH (.of rfl) (.of rfl) bT .here ak (by rfl) (fN rfl rfl) (by rfl) (by rfl) (by rfl) eN (by rfl) ?_
  intro v'
  refine aW (v:=v') (by exact .here) fun gx cx e=>?_
  subst e
  (refine bP rfl rfl ae<|aq (.of rfl) (.of rfl) c6 rfl rfl (eE rfl) (bF rfl) ak<|Jx<|Jj<|Jt<|Jg<|JB rfl (by omega)<|Jv rfl<|Jn ?_)
  apply aJ (k+1,gx,cx) (by show k+1≤r.sr.length;omega) (by show r.sr.length-(k+1)<r.sr.length-k;omega)
  case hs1=>exact cd
  case ht=>
   show bz _ [row 186 2 (.slice gx (k+1) cx) (k+1) (nR (r.sr.take (k+1))),JP b3 r (.slice gx (k+1) cx) (.slice none 0 0) (.slice none 0 0) (.slice none 0 0),bG b2 (.cells #[.int .i64 0,.int .i64 0,.slice none 0 0,.slice none 0 0,.slice none 0 0,.slice none 0 0] 41 (0,0)),JQ b1 r (.slice a1 r.sr.length er) (.slice a2 r.de.length dB) (.slice a3 r.ti.length ee) (.slice a4 r.po.length gi)] _
   rw [bb]
   exact .cons (.there .here) (.cons .here (.cons bT (.cons bT .nil)))
 obtain rfl:k=r.sr.length:=by omega
 rw [ZL]
 clear hk aK
 (refine Jr<|JA rfl<|Jn<|Jq<|Jc rfl fun ar=>Jp<|Jl<|Jo<|Jt<|Jq<|Jr<|bP rfl rfl ae<|JL rfl c6 rfl<|JI rfl<|Jv rfl<|Jn<|J0 ?_)
 refine aP 90 3 ?_
 refine aX (ι:=Nat×Option Addr×Nat) (fun y=>y.1≤r.de.length) (fun y=>[(34,.int .i64 (y.1:Nat)),(33,.int .i64 r.de.length),(32,.slice a2 r.de.length dB),(3,.pointer (some ⟨b3,0,none⟩)),(2,.pointer (some ⟨b2,0,none⟩)),(1,.pointer (some ⟨b1,0,none⟩))]) (fun y=>[row 90 3 (.slice y.2.1 y.1 y.2.2) y.1 (lS (r.de.take y.1)),row 186 2 (.slice g1 r.sr.length rq) r.sr.length (nR r.sr),JP b3 r (.slice g1 r.sr.length rq) (.slice y.2.1 y.1 y.2.2) (.slice none 0 0) (.slice none 0 0),bG b2 (.cells #[.int .i64 0,.int .i64 0,.slice none 0 0,.slice none 0 0,.slice none 0 0,.slice none 0 0] 41 (0,0)),JQ b1 r (.slice a1 r.sr.length er) (.slice a2 r.de.length dB) (.slice a3 r.ti.length ee) (.slice a4 r.po.length gi)]) (fun y=>r.de.length-y.1) ?_ ?_
 ·apply aI (0,none,0) (Zi _)
  case hs1=>exact cd
  case ht=>
   exact .cons .here (.cons .here (.cons .here (.cons .here (.cons .here .nil))))
 rintro ⟨k,g2,wL⟩ hk
 dsimp only at hk ⊢
 by_cases aK:k<r.de.length
 ·have cB:=jz (gJ aK)
  have aC:=(j6 k _ (fj aK)).2
  have bb:=Ce aK
  have hlen:(lS (r.de.take k)).length=k*3:=by rw [Fu,Zp];omega
  unfold De.cells at aC bb
  generalize r.de[k]=x at aC bb
  (refine Jr<|JA rfl<|Jn<|Jq<|Jd rfl fun ar=>Jk<|Jq<|J0<|Jr<|ab (fG cB ar) rfl<|ab (gS (eF.base aC rfl)) rfl<|Jz rfl rfl fun _ _=>aq (.of rfl) (.of rfl) .here rfl rfl (fo rfl rfl rfl) (bF rfl) ak<|Jn<|Jg<|bP rfl rfl ae<|JL rfl c6 rfl<|ab (cL .here) rfl<|bo (bu (.cons (.of rfl) .nil) rfl rfl bO bO ak) rfl fun _ _=>?_)
  refine bH (.of rfl) (.of rfl) bT .here ak (by rfl) (fo rfl rfl rfl) (by rfl) (by rfl) (by rfl) eN (by rfl) ?_
  intro v'
  refine aW (v:=v') (by exact .here) fun gx cx e=>?_
  subst e
  (refine bP rfl rfl ae<|aq (.of rfl) (.of rfl) dO rfl rfl (eE rfl) (bF rfl) ak<|Jx<|Jj<|Jt<|Jg<|JB rfl (by omega)<|Jv rfl<|Jn ?_)
  apply aJ (k+1,gx,cx) (by show k+1≤r.de.length;omega) (by show r.de.length-(k+1)<r.de.length-k;omega)
  case hs1=>exact cd
  case ht=>
   show bz _ [row 90 3 (.slice gx (k+1) cx) (k+1) (lS (r.de.take (k+1))),row 186 2 (.slice g1 r.sr.length rq) r.sr.length (nR r.sr),JP b3 r (.slice g1 r.sr.length rq) (.slice gx (k+1) cx) (.slice none 0 0) (.slice none 0 0),bG b2 (.cells #[.int .i64 0,.int .i64 0,.slice none 0 0,.slice none 0 0,.slice none 0 0,.slice none 0 0] 41 (0,0)),JQ b1 r (.slice a1 r.sr.length er) (.slice a2 r.de.length dB) (.slice a3 r.ti.length ee) (.slice a4 r.po.length gi)] _
   rw [bb]
   exact .cons (.there .here) (.cons c6 (.cons .here (.cons bT (.cons bT .nil))))
 obtain rfl:k=r.de.length:=by omega
 rw [ZL]
 clear hk aK
 (refine Jr<|JA rfl<|Jn<|Jq<|Jc rfl fun ar=>Jp<|Jl<|Jo<|Jt<|Jq<|Jr<|bP rfl rfl ae<|JL rfl dO rfl<|JI rfl<|Jv rfl<|Jn<|J0 ?_)
 refine aP 187 3 ?_
 refine aX (ι:=Nat×Option Addr×Nat) (fun y=>y.1≤r.ti.length) (fun y=>[(48,.int .i64 (y.1:Nat)),(47,.int .i64 r.ti.length),(46,.slice a3 r.ti.length ee),(3,.pointer (some ⟨b3,0,none⟩)),(2,.pointer (some ⟨b2,0,none⟩)),(1,.pointer (some ⟨b1,0,none⟩))]) (fun y=>[row 187 3 (.slice y.2.1 y.1 y.2.2) y.1 (pS (r.ti.take y.1)),row 90 3 (.slice g2 r.de.length wL) r.de.length (lS r.de),row 186 2 (.slice g1 r.sr.length rq) r.sr.length (nR r.sr),JP b3 r (.slice g1 r.sr.length rq) (.slice g2 r.de.length wL) (.slice y.2.1 y.1 y.2.2) (.slice none 0 0),bG b2 (.cells #[.int .i64 0,.int .i64 0,.slice none 0 0,.slice none 0 0,.slice none 0 0,.slice none 0 0] 41 (0,0)),JQ b1 r (.slice a1 r.sr.length er) (.slice a2 r.de.length dB) (.slice a3 r.ti.length ee) (.slice a4 r.po.length gi)]) (fun y=>r.ti.length-y.1) ?_ ?_
 ·apply aI (0,none,0) (Zi _)
  case hs1=>exact cd
  case ht=>
   exact .cons .here (.cons .here (.cons .here (.cons .here (.cons .here (.cons .here .nil)))))
 rintro ⟨k,g3,GM⟩ hk
 dsimp only at hk ⊢
 by_cases aK:k<r.ti.length
 ·have cB:=tw (fq aK)
  have aC:=(qk k _ (eB aK)).2
  have bb:=A3 aK
  have hlen:(pS (r.ti.take k)).length=k*3:=by rw [EA,Zp];omega
  unfold Ti.cells at aC bb
  generalize r.ti[k]=x at aC bb
  (refine Jr<|JA rfl<|Jn<|Jq<|Jd rfl fun ar=>Jk<|Jq<|J0<|Jr<|ab (fG cB ar) rfl<|ab (gS (eF.base aC rfl)) rfl<|Jz rfl rfl fun _ _=>aq (.of rfl) (.of rfl) .here rfl rfl (fo rfl rfl rfl) (bF rfl) ak<|Jn<|Jg<|bP rfl rfl ae<|JL rfl dO rfl<|ab (cL .here) rfl<|bo (bu (.cons (.of rfl) .nil) rfl rfl bO bO ak) rfl fun _ _=>?_)
  refine bH (.of rfl) (.of rfl) bT .here ak (by rfl) (fo rfl rfl rfl) (by rfl) (by rfl) (by rfl) eN (by rfl) ?_
  intro v'
  refine aW (v:=v') (by exact .here) fun gx cx e=>?_
  subst e
  (refine bP rfl rfl ae<|aq (.of rfl) (.of rfl) fk rfl rfl (eE rfl) (bF rfl) ak<|Jx<|Jj<|Jt<|Jg<|JB rfl (by omega)<|Jv rfl<|Jn ?_)
  apply aJ (k+1,gx,cx) (by show k+1≤r.ti.length;omega) (by show r.ti.length-(k+1)<r.ti.length-k;omega)
  case hs1=>exact cd
  case ht=>
   show bz _ [row 187 3 (.slice gx (k+1) cx) (k+1) (pS (r.ti.take (k+1))),row 90 3 (.slice g2 r.de.length wL) r.de.length (lS r.de),row 186 2 (.slice g1 r.sr.length rq) r.sr.length (nR r.sr),JP b3 r (.slice g1 r.sr.length rq) (.slice g2 r.de.length wL) (.slice gx (k+1) cx) (.slice none 0 0),bG b2 (.cells #[.int .i64 0,.int .i64 0,.slice none 0 0,.slice none 0 0,.slice none 0 0,.slice none 0 0] 41 (0,0)),JQ b1 r (.slice a1 r.sr.length er) (.slice a2 r.de.length dB) (.slice a3 r.ti.length ee) (.slice a4 r.po.length gi)] _
   rw [bb]
   exact .cons (.there .here) (.cons c6 (.cons c6 (.cons .here (.cons bT (.cons bT .nil)))))
 obtain rfl:k=r.ti.length:=by omega
 rw [ZL]
 clear hk aK
 (refine Jr<|JA rfl<|Jn<|Jq<|Jc rfl fun ar=>Jp<|Jl<|Jo<|Jt<|Jq<|Jr<|bP rfl rfl ae<|JL rfl fk rfl<|JI rfl<|Jv rfl<|Jn<|J0 ?_)
 refine aP 188 3 ?_
 refine aX (ι:=Nat×Option Addr×Nat) (fun y=>y.1≤r.po.length) (fun y=>[(62,.int .i64 (y.1:Nat)),(61,.int .i64 r.po.length),(60,.slice a4 r.po.length gi),(3,.pointer (some ⟨b3,0,none⟩)),(2,.pointer (some ⟨b2,0,none⟩)),(1,.pointer (some ⟨b1,0,none⟩))]) (fun y=>[row 188 3 (.slice y.2.1 y.1 y.2.2) y.1 (gR (r.po.take y.1)),row 187 3 (.slice g3 r.ti.length GM) r.ti.length (pS r.ti),row 90 3 (.slice g2 r.de.length wL) r.de.length (lS r.de),row 186 2 (.slice g1 r.sr.length rq) r.sr.length (nR r.sr),JP b3 r (.slice g1 r.sr.length rq) (.slice g2 r.de.length wL) (.slice g3 r.ti.length GM) (.slice y.2.1 y.1 y.2.2),bG b2 (.cells #[.int .i64 0,.int .i64 0,.slice none 0 0,.slice none 0 0,.slice none 0 0,.slice none 0 0] 41 (0,0)),JQ b1 r (.slice a1 r.sr.length er) (.slice a2 r.de.length dB) (.slice a3 r.ti.length ee) (.slice a4 r.po.length gi)]) (fun y=>r.po.length-y.1) ?_ ?_
 ·apply aI (0,none,0) (Zi _)
  case hs1=>exact cd
  case ht=>
   exact .cons .here (.cons .here (.cons .here (.cons .here (.cons .here (.cons .here (.cons .here .nil))))))
 rintro ⟨k,g4,Vo⟩ hk
 dsimp only at hk ⊢
 by_cases aK:k<r.po.length
 ·have cB:=Hd (kg aK)
  have aC:=(zV k _ (iq aK)).2
  have bb:=Bx aK
  have hlen:(gR (r.po.take k)).length=k*3:=by rw [ju,Zp];omega
  unfold Po.cells at aC bb
  generalize r.po[k]=x at aC bb
  (refine Jr<|JA rfl<|Jn<|Jq<|Jd rfl fun ar=>Jk<|Jq<|J0<|Jr<|ab (fG cB ar) rfl<|ab (gS (eF.base aC rfl)) rfl<|Jz rfl rfl fun _ _=>aq (.of rfl) (.of rfl) .here rfl rfl (fo rfl rfl rfl) (bF rfl) ak<|Jn<|Jg<|bP rfl rfl ae<|JL rfl fk rfl<|ab (cL .here) rfl<|bo (bu (.cons (.of rfl) .nil) rfl rfl bO bO ak) rfl fun _ _=>?_)
  refine bH (.of rfl) (.of rfl) bT .here ak (by rfl) (fo rfl rfl rfl) (by rfl) (by rfl) (by rfl) eN (by rfl) ?_
  intro v'
  refine aW (v:=v') (by exact .here) fun gx cx e=>?_
  subst e
  (refine bP rfl rfl ae<|aq (.of rfl) (.of rfl) jo rfl rfl (eE rfl) (bF rfl) ak<|Jx<|Jj<|Jt<|Jg<|JB rfl (by omega)<|Jv rfl<|Jn ?_)
  apply aJ (k+1,gx,cx) (by show k+1≤r.po.length;omega) (by show r.po.length-(k+1)<r.po.length-k;omega)
  case hs1=>exact cd
  case ht=>
   show bz _ [row 188 3 (.slice gx (k+1) cx) (k+1) (gR (r.po.take (k+1))),row 187 3 (.slice g3 r.ti.length GM) r.ti.length (pS r.ti),row 90 3 (.slice g2 r.de.length wL) r.de.length (lS r.de),row 186 2 (.slice g1 r.sr.length rq) r.sr.length (nR r.sr),JP b3 r (.slice g1 r.sr.length rq) (.slice g2 r.de.length wL) (.slice g3 r.ti.length GM) (.slice gx (k+1) cx),bG b2 (.cells #[.int .i64 0,.int .i64 0,.slice none 0 0,.slice none 0 0,.slice none 0 0,.slice none 0 0] 41 (0,0)),JQ b1 r (.slice a1 r.sr.length er) (.slice a2 r.de.length dB) (.slice a3 r.ti.length ee) (.slice a4 r.po.length gi)] _
   rw [bb]
   exact .cons (.there .here) (.cons c6 (.cons c6 (.cons c6 (.cons .here (.cons bT (.cons bT .nil))))))
 obtain rfl:k=r.po.length:=by omega
 rw [ZL]
 clear hk aK
 (refine Jr<|JA rfl<|Jn<|Jq<|Jc rfl fun ar=>Jp<|Jl<|Jo<|Jt<|Jr<|ab (cL dO) rfl<|aq (.of rfl) (.of rfl) fk rfl rfl (gE rfl rfl rfl rfl rfl rfl) (bF rfl) ak<|Jn<|Je ?_)
 first | with_reducible apply aN | with_reducible apply aO
 case he=>exact kN rfl inferInstance rfl .here ak (by rfl)
 case hR=>
  intro w' aB
  exact aF (.slice g1 r.sr.length rq,.slice g2 r.de.length wL,.slice g3 r.ti.length GM,.slice g4 r.po.length Vo) trivial (by exact .cons dO (.cons c6 (.cons bT (.cons (.there .here) .nil)))) aB rfl
theorem C2 {r:Ro} {s d t p:Value} {w:World} (h:RR w r s d t p) (cI:me r):bh Tryz.prog 57 [RA r s d t p] w [] (fun _:Value×Value×Value×Value=>True) (fun x=>RA r x.1 x.2.1 x.2.2.1 x.2.2.2) (fun x=>Lx r x):=by
 have h1:=Rd.one h.sr
 have h2:=Rd.one h.de
 have h3:=Rd.one h.ti
 have h4:=Rd.one h.po
 have Gu:=h.sr
 have GG:=h.de
 have BO:=h.ti
 have J7:=h.po
 obtain ⟨a1,er,PH,OS,rfl,pJ,iW,lR,kz⟩:=Gu
 obtain ⟨a2,dB,PG,OR,rfl,ku,fb,jz,j6⟩:=GG
 obtain ⟨a3,ee,K9,Iw,rfl,nr,gB,tw,qk⟩:=BO
 obtain ⟨a4,gi,VO,QE,rfl,yi,mz,Hd,zV⟩:=J7
 rw [cE] at *
 rw [cg] at *
 rw [bY] at *
 rw [cT] at *
 unfold maxLen at iW fb gB mz
 obtain ⟨f1,f2,f3,f4⟩:=cI
 unfold RA
 refine aQ Tryz.func57 rfl rfl ?_
 (refine Jr<|Jy rfl rfl fun _ _=>Jz rfl rfl fun _ _=>Ji<|bP rfl rfl ae<|JL rfl (.there .here) rfl<|bP rfl rfl ae<|JL rfl (.there .here) rfl<|ab (aS (.cons (.of rfl) (.cons (.of rfl) .nil)) ak) rfl<|Jz rfl rfl fun _ _=>aq (.of rfl) (.of rfl) .here rfl rfl (gE rfl rfl rfl rfl rfl rfl) (bF rfl) ak<|Jn<|Jq<|Jr<|bP rfl rfl ae<|JL rfl bT rfl<|JI rfl<|Jv rfl<|Jn<|J0 ?_)
 rename_i b1 sX b2 sW b3 vo
 refine aP 118 2 ?_
 refine aX (ι:=Nat×Option Addr×Nat) (fun y=>y.1≤r.sr.length) (fun y=>[(20,.int .i64 (y.1:Nat)),(19,.int .i64 r.sr.length),(18,.slice a1 r.sr.length er),(3,.pointer (some ⟨b3,0,none⟩)),(2,.pointer (some ⟨b2,0,none⟩)),(1,.pointer (some ⟨b1,0,none⟩))]) (fun y=>[row 118 2 (.slice y.2.1 y.1 y.2.2) y.1 (nR (r.sr.take y.1)),JQ b3 r (.slice y.2.1 y.1 y.2.2) (.slice none 0 0) (.slice none 0 0) (.slice none 0 0),bG b2 (.cells #[.int .i64 0,.int .i64 0,.slice none 0 0,.slice none 0 0,.slice none 0 0,.slice none 0 0] 27 (0,0)),JP b1 r (.slice a1 r.sr.length er) (.slice a2 r.de.length dB) (.slice a3 r.ti.length ee) (.slice a4 r.po.length gi)]) (fun y=>r.sr.length-y.1) ?_ ?_
 ·apply aI (0,none,0) (Zi _)
  case hs1=>exact cd
  case ht=>
   exact .cons .here (.cons .here (.cons .here (.cons .here .nil)))
 rintro ⟨k,g1,rq⟩ hk
 dsimp only at hk ⊢
 by_cases aK:k<r.sr.length
 ·have cB:=lR (iJ aK)
  have aC:=(kz k _ (fQ aK)).2
  have bb:=A7 aK
  have hlen:(nR (r.sr.take k)).length=k*2:=by rw [EF,Zp];omega
  unfold Sr.cells at aC bb
  generalize r.sr[k]=x at aC bb
  (refine Jr<|JA rfl<|Jn<|Jq<|Jd rfl fun ar=>Jk<|Jq<|J0<|Jr<|ab (fG cB ar) rfl<|ab (gS (eF.base aC rfl)) rfl<|Jz rfl rfl fun _ _=>aq (.of rfl) (.of rfl) .here rfl rfl (fN rfl rfl) (bF rfl) ak<|Jn<|Jg<|bP rfl rfl ae<|JL rfl bT rfl<|ab (cL .here) rfl<|bo (bu (.cons (.of rfl) .nil) rfl rfl bO bO ak) rfl fun _ _=>?_)
  refine bH (.of rfl) (.of rfl) bT .here ak (by rfl) (fN rfl rfl) (by rfl) (by rfl) (by rfl) eN (by rfl) ?_
  intro v'
  refine aW (v:=v') (by exact .here) fun gx cx e=>?_
  subst e
  (refine bP rfl rfl ae<|aq (.of rfl) (.of rfl) c6 rfl rfl (eE rfl) (bF rfl) ak<|Jx<|Jj<|Jt<|Jg<|JB rfl (by omega)<|Jv rfl<|Jn ?_)
  apply aJ (k+1,gx,cx) (by show k+1≤r.sr.length;omega) (by show r.sr.length-(k+1)<r.sr.length-k;omega)
  case hs1=>exact cd
  case ht=>
   show bz _ [row 118 2 (.slice gx (k+1) cx) (k+1) (nR (r.sr.take (k+1))),JQ b3 r (.slice gx (k+1) cx) (.slice none 0 0) (.slice none 0 0) (.slice none 0 0),bG b2 (.cells #[.int .i64 0,.int .i64 0,.slice none 0 0,.slice none 0 0,.slice none 0 0,.slice none 0 0] 27 (0,0)),JP b1 r (.slice a1 r.sr.length er) (.slice a2 r.de.length dB) (.slice a3 r.ti.length ee) (.slice a4 r.po.length gi)] _
   rw [bb]
   exact .cons (.there .here) (.cons .here (.cons bT (.cons bT .nil)))
 obtain rfl:k=r.sr.length:=by omega
 rw [ZL]
 clear hk aK
 (refine Jr<|JA rfl<|Jn<|Jq<|Jc rfl fun ar=>Jp<|Jl<|Jo<|Jt<|Jq<|Jr<|bP rfl rfl ae<|JL rfl c6 rfl<|JI rfl<|Jv rfl<|Jn<|J0 ?_)
 refine aP 88 3 ?_
 refine aX (ι:=Nat×Option Addr×Nat) (fun y=>y.1≤r.de.length) (fun y=>[(34,.int .i64 (y.1:Nat)),(33,.int .i64 r.de.length),(32,.slice a2 r.de.length dB),(3,.pointer (some ⟨b3,0,none⟩)),(2,.pointer (some ⟨b2,0,none⟩)),(1,.pointer (some ⟨b1,0,none⟩))]) (fun y=>[row 88 3 (.slice y.2.1 y.1 y.2.2) y.1 (lS (r.de.take y.1)),row 118 2 (.slice g1 r.sr.length rq) r.sr.length (nR r.sr),JQ b3 r (.slice g1 r.sr.length rq) (.slice y.2.1 y.1 y.2.2) (.slice none 0 0) (.slice none 0 0),bG b2 (.cells #[.int .i64 0,.int .i64 0,.slice none 0 0,.slice none 0 0,.slice none 0 0,.slice none 0 0] 27 (0,0)),JP b1 r (.slice a1 r.sr.length er) (.slice a2 r.de.length dB) (.slice a3 r.ti.length ee) (.slice a4 r.po.length gi)]) (fun y=>r.de.length-y.1) ?_ ?_
 ·apply aI (0,none,0) (Zi _)
  case hs1=>exact cd
  case ht=>
   exact .cons .here (.cons .here (.cons .here (.cons .here (.cons .here .nil))))
 rintro ⟨k,g2,wL⟩ hk
 dsimp only at hk ⊢
 by_cases aK:k<r.de.length
 ·have cB:=jz (gJ aK)
  have aC:=(j6 k _ (fj aK)).2
  have bb:=Ce aK
  have hlen:(lS (r.de.take k)).length=k*3:=by rw [Fu,Zp];omega
  unfold De.cells at aC bb
  generalize r.de[k]=x at aC bb
  (refine Jr<|JA rfl<|Jn<|Jq<|Jd rfl fun ar=>Jk<|Jq<|J0<|Jr<|ab (fG cB ar) rfl<|ab (gS (eF.base aC rfl)) rfl<|Jz rfl rfl fun _ _=>aq (.of rfl) (.of rfl) .here rfl rfl (fo rfl rfl rfl) (bF rfl) ak<|Jn<|Jg<|bP rfl rfl ae<|JL rfl c6 rfl<|ab (cL .here) rfl<|bo (bu (.cons (.of rfl) .nil) rfl rfl bO bO ak) rfl fun _ _=>?_)
  refine bH (.of rfl) (.of rfl) bT .here ak (by rfl) (fo rfl rfl rfl) (by rfl) (by rfl) (by rfl) eN (by rfl) ?_
  intro v'
  refine aW (v:=v') (by exact .here) fun gx cx e=>?_
  subst e
  (refine bP rfl rfl ae<|aq (.of rfl) (.of rfl) dO rfl rfl (eE rfl) (bF rfl) ak<|Jx<|Jj<|Jt<|Jg<|JB rfl (by omega)<|Jv rfl<|Jn ?_)
  apply aJ (k+1,gx,cx) (by show k+1≤r.de.length;omega) (by show r.de.length-(k+1)<r.de.length-k;omega)
  case hs1=>exact cd
  case ht=>
   show bz _ [row 88 3 (.slice gx (k+1) cx) (k+1) (lS (r.de.take (k+1))),row 118 2 (.slice g1 r.sr.length rq) r.sr.length (nR r.sr),JQ b3 r (.slice g1 r.sr.length rq) (.slice gx (k+1) cx) (.slice none 0 0) (.slice none 0 0),bG b2 (.cells #[.int .i64 0,.int .i64 0,.slice none 0 0,.slice none 0 0,.slice none 0 0,.slice none 0 0] 27 (0,0)),JP b1 r (.slice a1 r.sr.length er) (.slice a2 r.de.length dB) (.slice a3 r.ti.length ee) (.slice a4 r.po.length gi)] _
   rw [bb]
   exact .cons (.there .here) (.cons c6 (.cons .here (.cons bT (.cons bT .nil))))
 obtain rfl:k=r.de.length:=by omega
 rw [ZL]
 clear hk aK
 (refine Jr<|JA rfl<|Jn<|Jq<|Jc rfl fun ar=>Jp<|Jl<|Jo<|Jt<|Jq<|Jr<|bP rfl rfl ae<|JL rfl dO rfl<|JI rfl<|Jv rfl<|Jn<|J0 ?_)
 refine aP 122 3 ?_
 refine aX (ι:=Nat×Option Addr×Nat) (fun y=>y.1≤r.ti.length) (fun y=>[(48,.int .i64 (y.1:Nat)),(47,.int .i64 r.ti.length),(46,.slice a3 r.ti.length ee),(3,.pointer (some ⟨b3,0,none⟩)),(2,.pointer (some ⟨b2,0,none⟩)),(1,.pointer (some ⟨b1,0,none⟩))]) (fun y=>[row 122 3 (.slice y.2.1 y.1 y.2.2) y.1 (pS (r.ti.take y.1)),row 88 3 (.slice g2 r.de.length wL) r.de.length (lS r.de),row 118 2 (.slice g1 r.sr.length rq) r.sr.length (nR r.sr),JQ b3 r (.slice g1 r.sr.length rq) (.slice g2 r.de.length wL) (.slice y.2.1 y.1 y.2.2) (.slice none 0 0),bG b2 (.cells #[.int .i64 0,.int .i64 0,.slice none 0 0,.slice none 0 0,.slice none 0 0,.slice none 0 0] 27 (0,0)),JP b1 r (.slice a1 r.sr.length er) (.slice a2 r.de.length dB) (.slice a3 r.ti.length ee) (.slice a4 r.po.length gi)]) (fun y=>r.ti.length-y.1) ?_ ?_
 ·apply aI (0,none,0) (Zi _)
  case hs1=>exact cd
  case ht=>
   exact .cons .here (.cons .here (.cons .here (.cons .here (.cons .here (.cons .here .nil)))))
 rintro ⟨k,g3,GM⟩ hk
 dsimp only at hk ⊢
 by_cases aK:k<r.ti.length
 ·have cB:=tw (fq aK)
  have aC:=(qk k _ (eB aK)).2
  have bb:=A3 aK
  have hlen:(pS (r.ti.take k)).length=k*3:=by rw [EA,Zp];omega
  unfold Ti.cells at aC bb
  generalize r.ti[k]=x at aC bb
  (refine Jr<|JA rfl<|Jn<|Jq<|Jd rfl fun ar=>Jk<|Jq<|J0<|Jr<|ab (fG cB ar) rfl<|ab (gS (eF.base aC rfl)) rfl<|Jz rfl rfl fun _ _=>aq (.of rfl) (.of rfl) .here rfl rfl (fo rfl rfl rfl) (bF rfl) ak<|Jn<|Jg<|bP rfl rfl ae<|JL rfl dO rfl<|ab (cL .here) rfl<|bo (bu (.cons (.of rfl) .nil) rfl rfl bO bO ak) rfl fun _ _=>?_)
  refine bH (.of rfl) (.of rfl) bT .here ak (by rfl) (fo rfl rfl rfl) (by rfl) (by rfl) (by rfl) eN (by rfl) ?_
  intro v'
  refine aW (v:=v') (by exact .here) fun gx cx e=>?_
  subst e
  (refine bP rfl rfl ae<|aq (.of rfl) (.of rfl) fk rfl rfl (eE rfl) (bF rfl) ak<|Jx<|Jj<|Jt<|Jg<|JB rfl (by omega)<|Jv rfl<|Jn ?_)
  apply aJ (k+1,gx,cx) (by show k+1≤r.ti.length;omega) (by show r.ti.length-(k+1)<r.ti.length-k;omega)
  case hs1=>exact cd
  case ht=>
   show bz _ [row 122 3 (.slice gx (k+1) cx) (k+1) (pS (r.ti.take (k+1))),row 88 3 (.slice g2 r.de.length wL) r.de.length (lS r.de),row 118 2 (.slice g1 r.sr.length rq) r.sr.length (nR r.sr),JQ b3 r (.slice g1 r.sr.length rq) (.slice g2 r.de.length wL) (.slice gx (k+1) cx) (.slice none 0 0),bG b2 (.cells #[.int .i64 0,.int .i64 0,.slice none 0 0,.slice none 0 0,.slice none 0 0,.slice none 0 0] 27 (0,0)),JP b1 r (.slice a1 r.sr.length er) (.slice a2 r.de.length dB) (.slice a3 r.ti.length ee) (.slice a4 r.po.length gi)] _
   rw [bb]
   exact .cons (.there .here) (.cons c6 (.cons c6 (.cons .here (.cons bT (.cons bT .nil)))))
 obtain rfl:k=r.ti.length:=by omega
 rw [ZL]
 clear hk aK
 (refine Jr<|JA rfl<|Jn<|Jq<|Jc rfl fun ar=>Jp<|Jl<|Jo<|Jt<|Jq<|Jr<|bP rfl rfl ae<|JL rfl fk rfl<|JI rfl<|Jv rfl<|Jn<|J0 ?_)
 refine aP 180 3 ?_
 refine aX (ι:=Nat×Option Addr×Nat) (fun y=>y.1≤r.po.length) (fun y=>[(62,.int .i64 (y.1:Nat)),(61,.int .i64 r.po.length),(60,.slice a4 r.po.length gi),(3,.pointer (some ⟨b3,0,none⟩)),(2,.pointer (some ⟨b2,0,none⟩)),(1,.pointer (some ⟨b1,0,none⟩))]) (fun y=>[row 180 3 (.slice y.2.1 y.1 y.2.2) y.1 (gR (r.po.take y.1)),row 122 3 (.slice g3 r.ti.length GM) r.ti.length (pS r.ti),row 88 3 (.slice g2 r.de.length wL) r.de.length (lS r.de),row 118 2 (.slice g1 r.sr.length rq) r.sr.length (nR r.sr),JQ b3 r (.slice g1 r.sr.length rq) (.slice g2 r.de.length wL) (.slice g3 r.ti.length GM) (.slice y.2.1 y.1 y.2.2),bG b2 (.cells #[.int .i64 0,.int .i64 0,.slice none 0 0,.slice none 0 0,.slice none 0 0,.slice none 0 0] 27 (0,0)),JP b1 r (.slice a1 r.sr.length er) (.slice a2 r.de.length dB) (.slice a3 r.ti.length ee) (.slice a4 r.po.length gi)]) (fun y=>r.po.length-y.1) ?_ ?_
 ·apply aI (0,none,0) (Zi _)
  case hs1=>exact cd
  case ht=>
   exact .cons .here (.cons .here (.cons .here (.cons .here (.cons .here (.cons .here (.cons .here .nil))))))
 rintro ⟨k,g4,Vo⟩ hk
 dsimp only at hk ⊢
 by_cases aK:k<r.po.length
 ·have cB:=Hd (kg aK)
  have aC:=(zV k _ (iq aK)).2
  have bb:=Bx aK
  have hlen:(gR (r.po.take k)).length=k*3:=by rw [ju,Zp];omega
  unfold Po.cells at aC bb
  generalize r.po[k]=x at aC bb
  (refine Jr<|JA rfl<|Jn<|Jq<|Jd rfl fun ar=>Jk<|Jq<|J0<|Jr<|ab (fG cB ar) rfl<|ab (gS (eF.base aC rfl)) rfl<|Jz rfl rfl fun _ _=>aq (.of rfl) (.of rfl) .here rfl rfl (fo rfl rfl rfl) (bF rfl) ak<|Jn<|Jg<|bP rfl rfl ae<|JL rfl fk rfl<|ab (cL .here) rfl<|bo (bu (.cons (.of rfl) .nil) rfl rfl bO bO ak) rfl fun _ _=>?_)
  refine bH (.of rfl) (.of rfl) bT .here ak (by rfl) (fo rfl rfl rfl) (by rfl) (by rfl) (by rfl) eN (by rfl) ?_
  intro v'
  refine aW (v:=v') (by exact .here) fun gx cx e=>?_
  subst e
  (refine bP rfl rfl ae<|aq (.of rfl) (.of rfl) jo rfl rfl (eE rfl) (bF rfl) ak<|Jx<|Jj<|Jt<|Jg<|JB rfl (by omega)<|Jv rfl<|Jn ?_)
  apply aJ (k+1,gx,cx) (by show k+1≤r.po.length;omega) (by show r.po.length-(k+1)<r.po.length-k;omega)
  case hs1=>exact cd
  case ht=>
   show bz _ [row 180 3 (.slice gx (k+1) cx) (k+1) (gR (r.po.take (k+1))),row 122 3 (.slice g3 r.ti.length GM) r.ti.length (pS r.ti),row 88 3 (.slice g2 r.de.length wL) r.de.length (lS r.de),row 118 2 (.slice g1 r.sr.length rq) r.sr.length (nR r.sr),JQ b3 r (.slice g1 r.sr.length rq) (.slice g2 r.de.length wL) (.slice g3 r.ti.length GM) (.slice gx (k+1) cx),bG b2 (.cells #[.int .i64 0,.int .i64 0,.slice none 0 0,.slice none 0 0,.slice none 0 0,.slice none 0 0] 27 (0,0)),JP b1 r (.slice a1 r.sr.length er) (.slice a2 r.de.length dB) (.slice a3 r.ti.length ee) (.slice a4 r.po.length gi)] _
   rw [bb]
   exact .cons (.there .here) (.cons c6 (.cons c6 (.cons c6 (.cons .here (.cons bT (.cons bT .nil))))))
 obtain rfl:k=r.po.length:=by omega
 rw [ZL]
 clear hk aK
 (refine Jr<|JA rfl<|Jn<|Jq<|Jc rfl fun ar=>Jp<|Jl<|Jo<|Jt<|Jr<|ab (cL dO) rfl<|aq (.of rfl) (.of rfl) fk rfl rfl (gE rfl rfl rfl rfl rfl rfl) (bF rfl) ak<|Jn<|Je ?_)
 first | with_reducible apply aN | with_reducible apply aO
 case he=>exact kN rfl inferInstance rfl .here ak (by rfl)
 case hR=>
  intro w' aB
  exact aF (.slice g1 r.sr.length rq,.slice g2 r.de.length wL,.slice g3 r.ti.length GM,.slice g4 r.po.length Vo) trivial (by exact .cons dO (.cons c6 (.cons bT (.cons (.there .here) .nil)))) aB rfl
theorem jL {α:Type} {l m:List α} {k:Nat} (hl:k<l.length) (hm:k<m.length) (h:l[k]=m[k]):(l.drop k=m.drop k)↔l.drop (k+1)=m.drop (k+1):=by
 rw [Zw hl,Zw hm,h]
 exact ⟨fun e=>(List.cons.inj e).2,fun e=>by rw [e]⟩
theorem y8 {v1 v2:Value} {l m:List ByteArray} {w:World} (h1:Rd w v1 1 (iI l)) (h2:Rd w v2 1 (iI m)) :
  aj Tryz.prog 58 [v1,v2] w (.bool (decide (l=m))):=by
 obtain ⟨a1,VG,b1,o1,rfl,pJ,iW,lR,kz⟩:=h1
 obtain ⟨a2,nN,b2,o2,rfl,ku,fb,jz,j6⟩:=h2
 rw [bV] at *
 rw [bV] at *
 unfold maxLen at iW fb
 refine ah Tryz.func58 rfl rfl ?_
 (refine Jr<|Ja rfl<|Jn<|Jq<|Jr<|Jv rfl<|JI rfl<|Jv rfl<|JI rfl<|JD rfl<|Jn<|fP rfl (fun ar=>?_) fun ar=>?_;refine Jr<|Ja rfl<|Jn<|Ju<|JT ?_;rotate_left;refine Jk<|Jq<|Jr<|Ja rfl<|Jn<|J0 ?_;rotate_right)
 ·rw [decide_eq_false fun e=>ar (by rw [e])]
 have UJ:l.length=m.length:=by omega
 refine aX (ι:=Nat) (fun k=>k≤l.length∧(l=m↔l.drop k=m.drop k)) (fun k=>[(5,.int .i64 (k:Int)),(0,.slice a1 l.length VG),(1,.slice a2 m.length nN)]) (fun _=>[]) (fun k=>l.length-k) ?_ ?_
 ·apply aI (0:Nat) ⟨Zi _,Iff.rfl⟩
  case hs1=>exact cd
  case ht=>(try simp only [Ze,Zf,Za]);exact .nil
 rintro k ⟨hk,hf⟩
 by_cases aK:k<l.length
 ·have eU:k<m.length:=by omega
  have GI:=lR (k6 aK)
  have tx:=jz (k6 eU)
  have lg:=(kz k _ (jb aK)).2
  have dZ:=(j6 k _ (jb eU)).2
  have hd:=jL (l:=l) (m:=m) aK eU
  have fH:l[k]≠m[k]→l.drop k≠m.drop k:=fun hne e=>hne (by
   rw [Zw aK,Zw eU] at e
   exact (List.cons.inj e).1)
  generalize l[k]=x at lg hd fH
  generalize m[k]=y at dZ hd fH
  have c1:w.cell? ⟨b1,o1+k*1,none⟩=some (.string x):=lg 0 _ rfl
  have c2:w.cell? ⟨b2,o2+k*1,none⟩=some (.string y):=dZ 0 _ rfl
  refine Jq<|Jr<|Jv rfl<|Jv rfl<|JI rfl<|JA rfl<|Jn<|Jd rfl fun ar=>Jk<|Jq<|J0<|Jq ?_
  with_reducible refine en 9 (by kernel_rfl) ?_
  (refine ly rfl rfl<|ly rfl rfl<|aL (fG GI ar) rfl<|aL (ag (.of rfl) (At.base c1 rfl)) rfl<|ly rfl rfl<|ly rfl rfl<|aL (az (.of rfl) (.of rfl) tx (by omega) (by omega) bj) rfl<|aL (ag (.of rfl) (At.base c2 rfl)) rfl<|aL (fR (.of rfl) (.of rfl)) rfl ?_)
  with_reducible refine eo ?_
  (refine Jn<|fP rfl (fun ar=>?_) fun ar=>?_;refine Jr<|Ja rfl<|Jn<|Je<|Jm<|Jh<|Jh<|Jm<|Jh<|JT ?_;rotate_left;refine Jw<|Jj<|Jt<|Jg<|Jv rfl<|JB rfl (by omega)<|Ja rfl<|Jn ?_;rotate_right)
  ·have hne:x≠y:=ar
   rw [decide_eq_false fun e=>fH hne (hf.1 e)]
  ·have he:x=y:=Zo.1 ar
   clear ar
   apply aJ (k+1) ⟨(show k+1≤l.length from aK),hf.trans (hd he)⟩ (show l.length-(k+1)<l.length-k by omega)
   case hs1=>exact cd
   case ht=>(try simp only [Ze,Zf,Za]);exact .nil
 ·obtain rfl:k=l.length:=by omega
  have:l=m:=hf.2 (by rw [Z6,UJ,Z6])
  refine Jq<|Jr<|Jv rfl<|Jv rfl<|JI rfl<|JA rfl<|Jn<|Jc rfl fun ar=>Jp<|Jl<|Jo<|Jt<|Jr<|Ja rfl<|Jn<|Je<|JT ?_
  rw [decide_eq_true this]
theorem ME {v1 v2:Value} {l m:List Int} {w:World} (h1:Rd w v1 1 (ints l)) (h2:Rd w v2 1 (ints m)) :
  aj Tryz.prog 109 [v1,v2] w (.bool (decide (l=m))):=by
 obtain ⟨a1,VG,b1,o1,rfl,pJ,iW,lR,kz⟩:=h1
 obtain ⟨a2,nN,b2,o2,rfl,ku,fb,jz,j6⟩:=h2
 rw [cY] at *
 rw [cY] at *
 unfold maxLen at iW fb
 refine ah Tryz.func109 rfl rfl ?_
 (refine Jr<|Ja rfl<|Jn<|Jq<|Jr<|Jv rfl<|JI rfl<|Jv rfl<|JI rfl<|JD rfl<|Jn<|fP rfl (fun ar=>?_) fun ar=>?_;refine Jr<|Ja rfl<|Jn<|Ju<|JT ?_;rotate_left;refine Jk<|Jq<|Jr<|Ja rfl<|Jn<|J0 ?_;rotate_right)
 ·rw [decide_eq_false fun e=>ar (by rw [e])]
 have UJ:l.length=m.length:=by omega
 refine aX (ι:=Nat) (fun k=>k≤l.length∧(l=m↔l.drop k=m.drop k)) (fun k=>[(5,.int .i64 (k:Int)),(0,.slice a1 l.length VG),(1,.slice a2 m.length nN)]) (fun _=>[]) (fun k=>l.length-k) ?_ ?_
 ·apply aI (0:Nat) ⟨Zi _,Iff.rfl⟩
  case hs1=>exact cd
  case ht=>(try simp only [Ze,Zf,Za]);exact .nil
 rintro k ⟨hk,hf⟩
 by_cases aK:k<l.length
 ·have eU:k<m.length:=by omega
  have GI:=lR (jy aK)
  have tx:=jz (jy eU)
  have lg:=(kz k _ (hP aK)).2
  have dZ:=(j6 k _ (hP eU)).2
  have hd:=jL (l:=l) (m:=m) aK eU
  have fH:l[k]≠m[k]→l.drop k≠m.drop k:=fun hne e=>hne (by
   rw [Zw aK,Zw eU] at e
   exact (List.cons.inj e).1)
  generalize l[k]=x at lg hd fH
  generalize m[k]=y at dZ hd fH
  have c1:w.cell? ⟨b1,o1+k*1,none⟩=some (.int .i64 x):=lg 0 _ rfl
  have c2:w.cell? ⟨b2,o2+k*1,none⟩=some (.int .i64 y):=dZ 0 _ rfl
  refine Jq<|Jr<|Jv rfl<|Jv rfl<|JI rfl<|JA rfl<|Jn<|Jd rfl fun ar=>Jk<|Jq<|J0<|Jq ?_
  with_reducible refine en 9 (by kernel_rfl) ?_
  (refine ly rfl rfl<|ly rfl rfl<|aL (fG GI ar) rfl<|aL (ag (.of rfl) (At.base c1 rfl)) rfl<|ly rfl rfl<|ly rfl rfl<|aL (az (.of rfl) (.of rfl) tx (by omega) (by omega) bj) rfl<|aL (ag (.of rfl) (At.base c2 rfl)) rfl<|aL (gl (.of rfl) (.of rfl)) rfl ?_)
  with_reducible refine eo ?_
  (refine Jn<|fP rfl (fun ar=>?_) fun ar=>?_;refine Jr<|Ja rfl<|Jn<|Je<|Jm<|Jh<|Jh<|Jm<|Jh<|JT ?_;rotate_left;refine Jw<|Jj<|Jt<|Jg<|Jv rfl<|JB rfl (by omega)<|Ja rfl<|Jn ?_;rotate_right)
  ·have hne:x≠y:=ar
   rw [decide_eq_false fun e=>fH hne (hf.1 e)]
  ·have he:x=y:=Zo.1 ar
   clear ar
   apply aJ (k+1) ⟨(show k+1≤l.length from aK),hf.trans (hd he)⟩ (show l.length-(k+1)<l.length-k by omega)
   case hs1=>exact cd
   case ht=>(try simp only [Ze,Zf,Za]);exact .nil
 ·obtain rfl:k=l.length:=by omega
  have:l=m:=hf.2 (by rw [Z6,UJ,Z6])
  refine Jq<|Jr<|Jv rfl<|Jv rfl<|JI rfl<|JA rfl<|Jn<|Jc rfl fun ar=>Jp<|Jl<|Jo<|Jt<|Jr<|Ja rfl<|Jn<|Je<|JT ?_
  rw [decide_eq_true this]
theorem Ep {lv:Value} {l:List ByteArray} {w:World} (h:Rd w lv 1 (iI l)) (hl:l.length≤1000000) :
  bh Tryz.prog 72 [lv] w [] (fun _:Value=>True) id (fun v=>[row 9 1 v l.length (aM l)]):=by
 refine aQ Tryz.func72 rfl rfl ?_
 (refine Jr<|Ja rfl<|Ji<|bo (aD .nil rfl rfl rfl rfl) rfl fun _ _=>Jv rfl ?_)
 rename_i bq mN
 refine bX (g:=bq) (E:=9) (ys:=[]) 0 1 (by exact .here) rfl rfl rfl ?_
 skip
 with_reducible apply gV
 case hx=>exact Is.of rfl
 case hy=>exact Is.of rfl
 case ht=>exact .here
 case hsrc=>exact fun w' aB=>h.keeps aB.keeps
 case h1=>exact yV l
 case hz=>exact rfl
 case hsz=>exact rfl
 case hb0=>exact rfl
 case hb=>rw [bV];omega
 case hd=>rfl
 intro v'
 rw [bV,ZB,Za,← qI]
 refine Ja rfl<|Jn<|Je ?_
 first | with_reducible apply aN | with_reducible apply aO
 case he=>exact dD rfl rfl
 case hR=>
  intro w' aB
  exact aF v' trivial (by exact .cons .here .nil) aB rfl
theorem TE {r q:Ro}:r=q↔(((((r.lv=q.lv∧r.ma=q.ma)∧r.sr=q.sr)∧r.de=q.de)∧r.ti=q.ti)∧r.po=q.po):=by
 cases r;cases q;simp [and_assoc]
theorem SF {r q:Ro} {s d t p s' d' t' p':Value} {w:World} (h:RR w r s d t p) (h':RR w q s' d' t' p'):aj Tryz.prog 84 [RA r s d t p,RA q s' d' t' p'] w (.bool (decide (r=q))):=by
 have h1:=Rd.one h.sr
 have h2:=Rd.one h.de
 have h3:=Rd.one h.ti
 have h4:=Rd.one h.po
 have g1:=Rd.one h'.sr
 have g2:=Rd.one h'.de
 have g3:=Rd.one h'.ti
 have g4:=Rd.one h'.po
 have Gu:=h.sr
 have GG:=h.de
 have BO:=h.ti
 have J7:=h.po
 have gs_:=h'.sr
 have gd_:=h'.de
 have gt_:=h'.ti
 have gp_:=h'.po
 obtain ⟨a1,er,PH,OS,rfl,pJ,iW,lR,kz⟩:=Gu
 obtain ⟨x1,LW,xs1,xo1,rfl,abg,Vn,ga1,rq⟩:=gs_
 obtain ⟨a2,dB,PG,OR,rfl,ku,fb,jz,j6⟩:=GG
 obtain ⟨x2,LV,xs2,xo2,rfl,abf,Vm,ga2,wL⟩:=gd_
 obtain ⟨a3,ee,K9,Iw,rfl,nr,gB,tw,qk⟩:=BO
 obtain ⟨x3,LU,xs3,xo3,rfl,abe,Vl,ga3,GM⟩:=gt_
 obtain ⟨a4,gi,VO,QE,rfl,yi,mz,Hd,zV⟩:=J7
 obtain ⟨x4,LS,xs4,xo4,rfl,abd,Vk,ga4,Vo⟩:=gp_
 rw [cE] at *
 rw [cE] at *
 rw [cg] at *
 rw [cg] at *
 rw [bY] at *
 rw [bY] at *
 rw [cT] at *
 rw [cT] at *
 unfold maxLen at iW fb gB mz Vn Vm Vl Vk
 unfold RA
 refine ah Tryz.func84 rfl rfl ?_
 (refine Jr<|Jy rfl rfl fun _ _=>Jy rfl rfl fun _ _=>Ja rfl<|Jn<|Jq<|Jr<|bP rfl rfl ae<|JL rfl (.there .here) rfl<|bP rfl rfl ae<|JL rfl .here rfl<|JD rfl<|Jv rfl<|aA rfl rfl inferInstance (fun hg bB=>(ao (.of rfl) ae)) rfl<|aA rfl rfl inferInstance (fun hg bB=>(ag (.bI hg rfl) (At.lit (.there .here) rfl))) rfl<|aA rfl rfl inferInstance (fun hg bB=>(ao (.of rfl) ae)) rfl<|aA rfl rfl inferInstance (fun hg bB=>(ag (.bI hg rfl) (At.lit .here rfl))) rfl<|aA rfl rfl inferInstance (fun hg bB=>(gl (.bI hg rfl) (.bI hg rfl))) rfl<|ab (aZ (.of rfl) rfl) rfl<|Jv rfl<|aA rfl rfl inferInstance (fun hg bB=>(ao (.of rfl) ae)) rfl<|aA rfl rfl inferInstance (fun hg bB=>(ag (.bI hg rfl) (At.lit (.there .here) rfl))) rfl<|aA rfl rfl inferInstance (fun hg bB=>(bD (.bI hg rfl))) rfl<|aA rfl rfl inferInstance (fun hg bB=>(ao (.of rfl) ae)) rfl<|aA rfl rfl inferInstance (fun hg bB=>(ag (.bI hg rfl) (At.lit .here rfl))) rfl<|aA rfl rfl inferInstance (fun hg bB=>(bD (.bI hg rfl))) rfl<|aA rfl rfl inferInstance (fun hg bB=>(gl (.bI hg rfl) (.bI hg rfl))) rfl<|ab (aZ (.of rfl) rfl) rfl<|Jv rfl<|aA rfl rfl inferInstance (fun hg bB=>(ao (.of rfl) ae)) rfl<|aA rfl rfl inferInstance (fun hg bB=>(ag (.bI hg rfl) (At.lit (.there .here) rfl))) rfl<|aA rfl rfl inferInstance (fun hg bB=>(bD (.bI hg rfl))) rfl<|aA rfl rfl inferInstance (fun hg bB=>(ao (.of rfl) ae)) rfl<|aA rfl rfl inferInstance (fun hg bB=>(ag (.bI hg rfl) (At.lit .here rfl))) rfl<|aA rfl rfl inferInstance (fun hg bB=>(bD (.bI hg rfl))) rfl<|aA rfl rfl inferInstance (fun hg bB=>(gl (.bI hg rfl) (.bI hg rfl))) rfl<|ab (aZ (.of rfl) rfl) rfl<|Jv rfl<|aA rfl rfl inferInstance (fun hg bB=>(ao (.of rfl) ae)) rfl<|aA rfl rfl inferInstance (fun hg bB=>(ag (.bI hg rfl) (At.lit (.there .here) rfl))) rfl<|aA rfl rfl inferInstance (fun hg bB=>(bD (.bI hg rfl))) rfl<|aA rfl rfl inferInstance (fun hg bB=>(ao (.of rfl) ae)) rfl<|aA rfl rfl inferInstance (fun hg bB=>(ag (.bI hg rfl) (At.lit .here rfl))) rfl<|aA rfl rfl inferInstance (fun hg bB=>(bD (.bI hg rfl))) rfl<|aA rfl rfl inferInstance (fun hg bB=>(gl (.bI hg rfl) (.bI hg rfl))) rfl<|ab (aZ (.of rfl) rfl) rfl<|Jv rfl<|aA rfl rfl inferInstance (fun hg bB=>(ao (.of rfl) ae)) rfl<|aA rfl rfl inferInstance (fun hg bB=>(ag (.bI hg rfl) (At.lit (.there .here) rfl))) rfl<|aA rfl rfl inferInstance (fun hg bB=>(bD (.bI hg rfl))) rfl<|aA rfl rfl inferInstance (fun hg bB=>(ao (.of rfl) ae)) rfl<|aA rfl rfl inferInstance (fun hg bB=>(ag (.bI hg rfl) (At.lit .here rfl))) rfl<|aA rfl rfl inferInstance (fun hg bB=>(bD (.bI hg rfl))) rfl<|aA rfl rfl inferInstance (fun hg bB=>(gl (.bI hg rfl) (.bI hg rfl))) rfl<|ab (aZ (.of rfl) rfl) rfl<|Jn<|nF rfl (fun ar=>?_) fun ar=>?_;refine Jr<|Ja rfl<|Jn<|Ju<|JT ?_;rotate_left;refine Jk<|Jq<|Jr<|Ja rfl<|Jn<|J0 ?_;rotate_right)
 ·rw [decide_eq_false fun e=>by subst e;simp at ar]
 simp only [not_or,ne_eq,Zo] at ar
 obtain ⟨⟨⟨⟨⟨e1,e2⟩,e3⟩,e4⟩,e5⟩,e6⟩:=ar
 rename_i b1 sX b2 sW
 refine aX (ι:=Nat) (fun k=>k≤r.sr.length∧(r.sr=q.sr↔r.sr.drop k=q.sr.drop k)) (fun k=>[(5,.int .i64 (k:Nat)),(3,.pointer (some ⟨b2,0,none⟩)),(2,.pointer (some ⟨b1,0,none⟩))]) (fun _=>[bG b2 (.cells #[.int .i64 q.lv,.int .i64 q.ma,.slice x1 q.sr.length LW,.slice x2 q.de.length LV,.slice x3 q.ti.length LU,.slice x4 q.po.length LS] 27 (0,0)),JQ b1 r (.slice a1 r.sr.length er) (.slice a2 r.de.length dB) (.slice a3 r.ti.length ee) (.slice a4 r.po.length gi)]) (fun k=>r.sr.length-k) ?_ ?_
 ·apply aI (0:Nat) ⟨Zi _,Iff.rfl⟩
  case hs1=>exact cd
  case ht=>
   exact .cons .here (.cons .here .nil)
 rintro k ⟨hk,hf⟩
 have el:r.sr.length=q.sr.length:=by omega
 by_cases aK:k<r.sr.length
 ·have eU:k<q.sr.length:=by omega
  have cB:=lR (iJ aK)
  have R8:=ga1 (iJ eU)
  have aC:=(kz k _ (fQ aK)).2
  have lh:=(rq k _ (fQ eU)).2
  have hd:=jL (l:=r.sr) (m:=q.sr) aK eU
  have fH:r.sr[k]≠q.sr[k]→r.sr.drop k≠q.sr.drop k:=fun hne e=>hne (by
   rw [Zw aK,Zw eU] at e
   exact (List.cons.inj e).1)
  generalize r.sr[k]=x at aC hd fH
  generalize q.sr[k]=y at lh hd fH
  unfold Sr.cells at aC lh
  (refine Jq<|Jr<|Jv rfl<|bP rfl rfl ae<|JL rfl (.there .here) rfl<|JI rfl<|JA rfl<|Jn<|Jd rfl fun ar=>Jk<|Jq<|J0<|Jq ?_)
  with_reducible refine en 10 (by kernel_rfl) ?_
  (refine oO rfl rfl ae<|aL (gT (.there .here)) rfl<|ly rfl rfl<|aL (fG cB ar) rfl<|aL (gS (eF.base aC rfl)) rfl<|oO rfl rfl ae<|aL (gT .here) rfl<|ly rfl rfl<|aL (az (.of rfl) (.of rfl) R8 (by omega) (by omega) bj) rfl<|aL (gS (eF.base lh rfl)) rfl ?_)
  with_reducible refine eo ?_
  (refine ab (tO (.of rfl) (.of rfl) (eY (jQ lP)) rfl) rfl<|Jn<|nF rfl (fun ar=>?_) fun ar=>?_;refine Jr<|Ja rfl<|Jn<|Je<|Jm<|Jh<|Jh<|Jm<|Jh<|JT ?_;rotate_left;refine Jw<|Jj<|Jt<|Jg<|Jv rfl<|JB rfl (by omega)<|Ja rfl<|Jn ?_;rotate_right)
  ·have hne:x≠y:=by
    intro e
    subst e
    simp at ar
   rw [decide_eq_false fun e=>fH hne (hf.1 (by rw [e]))]
  ·have he:x=y:=by
    obtain ⟨q1,q2,_⟩:=ar
    cases x;cases y
    dsimp only at q1 q2
    subst q1;subst q2
    rfl
   clear ar
   apply aJ (k+1) ⟨(show k+1≤r.sr.length from aK),hf.trans (hd he)⟩ (show r.sr.length-(k+1)<r.sr.length-k by omega)
   case hs1=>exact cd
   case ht=>
    exact .cons .here (.cons .here .nil)
 have z1:r.sr=q.sr:=by
  obtain rfl:k=r.sr.length:=by omega
  exact hf.2 (by rw [Z6,el,Z6])
 obtain rfl:k=r.sr.length:=by omega
 clear hk hf aK
 (refine Jq<|Jr<|Jv rfl<|bP rfl rfl ae<|JL rfl (.there .here) rfl<|JI rfl<|JA rfl<|Jn<|Jc rfl fun ar=>Jp<|Jl<|Jo<|Jt<|Jq<|Jr<|Ja rfl<|Jn<|J0 ?_)
 refine aX (ι:=Nat) (fun k=>k≤r.de.length∧(r.de=q.de↔r.de.drop k=q.de.drop k)) (fun k=>[(6,.int .i64 (k:Nat)),(3,.pointer (some ⟨b2,0,none⟩)),(2,.pointer (some ⟨b1,0,none⟩))]) (fun _=>[bG b2 (.cells #[.int .i64 q.lv,.int .i64 q.ma,.slice x1 q.sr.length LW,.slice x2 q.de.length LV,.slice x3 q.ti.length LU,.slice x4 q.po.length LS] 27 (0,0)),JQ b1 r (.slice a1 r.sr.length er) (.slice a2 r.de.length dB) (.slice a3 r.ti.length ee) (.slice a4 r.po.length gi)]) (fun k=>r.de.length-k) ?_ ?_
 ·apply aI (0:Nat) ⟨Zi _,Iff.rfl⟩
  case hs1=>exact cd
  case ht=>
   exact .cons .here (.cons .here .nil)
 rintro k ⟨hk,hf⟩
 have el:r.de.length=q.de.length:=by omega
 by_cases aK:k<r.de.length
 ·have eU:k<q.de.length:=by omega
  have cB:=jz (gJ aK)
  have R8:=ga2 (gJ eU)
  have aC:=(j6 k _ (fj aK)).2
  have lh:=(wL k _ (fj eU)).2
  have hd:=jL (l:=r.de) (m:=q.de) aK eU
  have fH:r.de[k]≠q.de[k]→r.de.drop k≠q.de.drop k:=fun hne e=>hne (by
   rw [Zw aK,Zw eU] at e
   exact (List.cons.inj e).1)
  generalize r.de[k]=x at aC hd fH
  generalize q.de[k]=y at lh hd fH
  unfold De.cells at aC lh
  (refine Jq<|Jr<|Jv rfl<|bP rfl rfl ae<|JL rfl (.there .here) rfl<|JI rfl<|JA rfl<|Jn<|Jd rfl fun ar=>Jk<|Jq<|J0<|Jq ?_)
  with_reducible refine en 10 (by kernel_rfl) ?_
  (refine oO rfl rfl ae<|aL (gT (.there .here)) rfl<|ly rfl rfl<|aL (fG cB ar) rfl<|aL (gS (eF.base aC rfl)) rfl<|oO rfl rfl ae<|aL (gT .here) rfl<|ly rfl rfl<|aL (az (.of rfl) (.of rfl) R8 (by omega) (by omega) bj) rfl<|aL (gS (eF.base lh rfl)) rfl ?_)
  with_reducible refine eo ?_
  (refine ab (tO (.of rfl) (.of rfl) (eY (jQ (IG lP))) rfl) rfl<|Jn<|nF rfl (fun ar=>?_) fun ar=>?_;refine Jr<|Ja rfl<|Jn<|Je<|Jm<|Jh<|Jh<|Jm<|Jh<|JT ?_;rotate_left;refine Jw<|Jj<|Jt<|Jg<|Jv rfl<|JB rfl (by omega)<|Ja rfl<|Jn ?_;rotate_right)
  ·have hne:x≠y:=by
    intro e
    subst e
    simp at ar
   rw [decide_eq_false fun e=>fH hne (hf.1 (by rw [e]))]
  ·have he:x=y:=by
    obtain ⟨q1,q2,q3,_⟩:=ar
    cases x;cases y
    dsimp only at q1 q2 q3
    have q3:=eq_of_beq q3;subst q1;subst q2;subst q3
    rfl
   clear ar
   apply aJ (k+1) ⟨(show k+1≤r.de.length from aK),hf.trans (hd he)⟩ (show r.de.length-(k+1)<r.de.length-k by omega)
   case hs1=>exact cd
   case ht=>
    exact .cons .here (.cons .here .nil)
 have z2:r.de=q.de:=by
  obtain rfl:k=r.de.length:=by omega
  exact hf.2 (by rw [Z6,el,Z6])
 obtain rfl:k=r.de.length:=by omega
 clear hk hf aK
 (refine Jq<|Jr<|Jv rfl<|bP rfl rfl ae<|JL rfl (.there .here) rfl<|JI rfl<|JA rfl<|Jn<|Jc rfl fun ar=>Jp<|Jl<|Jo<|Jt<|Jq<|Jr<|Ja rfl<|Jn<|J0 ?_)
 refine aX (ι:=Nat) (fun k=>k≤r.ti.length∧(r.ti=q.ti↔r.ti.drop k=q.ti.drop k)) (fun k=>[(7,.int .i64 (k:Nat)),(3,.pointer (some ⟨b2,0,none⟩)),(2,.pointer (some ⟨b1,0,none⟩))]) (fun _=>[bG b2 (.cells #[.int .i64 q.lv,.int .i64 q.ma,.slice x1 q.sr.length LW,.slice x2 q.de.length LV,.slice x3 q.ti.length LU,.slice x4 q.po.length LS] 27 (0,0)),JQ b1 r (.slice a1 r.sr.length er) (.slice a2 r.de.length dB) (.slice a3 r.ti.length ee) (.slice a4 r.po.length gi)]) (fun k=>r.ti.length-k) ?_ ?_
 ·apply aI (0:Nat) ⟨Zi _,Iff.rfl⟩
  case hs1=>exact cd
  case ht=>
   exact .cons .here (.cons .here .nil)
 rintro k ⟨hk,hf⟩
 have el:r.ti.length=q.ti.length:=by omega
 by_cases aK:k<r.ti.length
 ·have eU:k<q.ti.length:=by omega
  have cB:=tw (fq aK)
  have R8:=ga3 (fq eU)
  have aC:=(qk k _ (eB aK)).2
  have lh:=(GM k _ (eB eU)).2
  have hd:=jL (l:=r.ti) (m:=q.ti) aK eU
  have fH:r.ti[k]≠q.ti[k]→r.ti.drop k≠q.ti.drop k:=fun hne e=>hne (by
   rw [Zw aK,Zw eU] at e
   exact (List.cons.inj e).1)
  generalize r.ti[k]=x at aC hd fH
  generalize q.ti[k]=y at lh hd fH
  unfold Ti.cells at aC lh
  (refine Jq<|Jr<|Jv rfl<|bP rfl rfl ae<|JL rfl (.there .here) rfl<|JI rfl<|JA rfl<|Jn<|Jd rfl fun ar=>Jk<|Jq<|J0<|Jq ?_)
  with_reducible refine en 10 (by kernel_rfl) ?_
  (refine oO rfl rfl ae<|aL (gT (.there .here)) rfl<|ly rfl rfl<|aL (fG cB ar) rfl<|aL (gS (eF.base aC rfl)) rfl<|oO rfl rfl ae<|aL (gT .here) rfl<|ly rfl rfl<|aL (az (.of rfl) (.of rfl) R8 (by omega) (by omega) bj) rfl<|aL (gS (eF.base lh rfl)) rfl ?_)
  with_reducible refine eo ?_
  (refine ab (tO (.of rfl) (.of rfl) (eY (jQ (jQ lP))) rfl) rfl<|Jn<|nF rfl (fun ar=>?_) fun ar=>?_;refine Jr<|Ja rfl<|Jn<|Je<|Jm<|Jh<|Jh<|Jm<|Jh<|JT ?_;rotate_left;refine Jw<|Jj<|Jt<|Jg<|Jv rfl<|JB rfl (by omega)<|Ja rfl<|Jn ?_;rotate_right)
  ·have hne:x≠y:=by
    intro e
    subst e
    simp at ar
   rw [decide_eq_false fun e=>fH hne (hf.1 (by rw [e]))]
  ·have he:x=y:=by
    obtain ⟨q1,q2,q3,_⟩:=ar
    cases x;cases y
    dsimp only at q1 q2 q3
    subst q1;subst q2;subst q3
    rfl
   clear ar
   apply aJ (k+1) ⟨(show k+1≤r.ti.length from aK),hf.trans (hd he)⟩ (show r.ti.length-(k+1)<r.ti.length-k by omega)
   case hs1=>exact cd
   case ht=>
    exact .cons .here (.cons .here .nil)
 have z3:r.ti=q.ti:=by
  obtain rfl:k=r.ti.length:=by omega
  exact hf.2 (by rw [Z6,el,Z6])
 obtain rfl:k=r.ti.length:=by omega
 clear hk hf aK
 (refine Jq<|Jr<|Jv rfl<|bP rfl rfl ae<|JL rfl (.there .here) rfl<|JI rfl<|JA rfl<|Jn<|Jc rfl fun ar=>Jp<|Jl<|Jo<|Jt<|Jq<|Jr<|Ja rfl<|Jn<|J0 ?_)
 refine aX (ι:=Nat) (fun k=>k≤r.po.length∧(r.po=q.po↔r.po.drop k=q.po.drop k)) (fun k=>[(8,.int .i64 (k:Nat)),(3,.pointer (some ⟨b2,0,none⟩)),(2,.pointer (some ⟨b1,0,none⟩))]) (fun _=>[bG b2 (.cells #[.int .i64 q.lv,.int .i64 q.ma,.slice x1 q.sr.length LW,.slice x2 q.de.length LV,.slice x3 q.ti.length LU,.slice x4 q.po.length LS] 27 (0,0)),JQ b1 r (.slice a1 r.sr.length er) (.slice a2 r.de.length dB) (.slice a3 r.ti.length ee) (.slice a4 r.po.length gi)]) (fun k=>r.po.length-k) ?_ ?_
 ·apply aI (0:Nat) ⟨Zi _,Iff.rfl⟩
  case hs1=>exact cd
  case ht=>
   exact .cons .here (.cons .here .nil)
 rintro k ⟨hk,hf⟩
 have el:r.po.length=q.po.length:=by omega
 by_cases aK:k<r.po.length
 ·have eU:k<q.po.length:=by omega
  have cB:=Hd (kg aK)
  have R8:=ga4 (kg eU)
  have aC:=(zV k _ (iq aK)).2
  have lh:=(Vo k _ (iq eU)).2
  have hd:=jL (l:=r.po) (m:=q.po) aK eU
  have fH:r.po[k]≠q.po[k]→r.po.drop k≠q.po.drop k:=fun hne e=>hne (by
   rw [Zw aK,Zw eU] at e
   exact (List.cons.inj e).1)
  generalize r.po[k]=x at aC hd fH
  generalize q.po[k]=y at lh hd fH
  unfold Po.cells at aC lh
  (refine Jq<|Jr<|Jv rfl<|bP rfl rfl ae<|JL rfl (.there .here) rfl<|JI rfl<|JA rfl<|Jn<|Jd rfl fun ar=>Jk<|Jq<|J0<|Jq ?_)
  with_reducible refine en 10 (by kernel_rfl) ?_
  (refine oO rfl rfl ae<|aL (gT (.there .here)) rfl<|ly rfl rfl<|aL (fG cB ar) rfl<|aL (gS (eF.base aC rfl)) rfl<|oO rfl rfl ae<|aL (gT .here) rfl<|ly rfl rfl<|aL (az (.of rfl) (.of rfl) R8 (by omega) (by omega) bj) rfl<|aL (gS (eF.base lh rfl)) rfl ?_)
  with_reducible refine eo ?_
  (refine ab (tO (.of rfl) (.of rfl) (jQ (eY (eY lP))) rfl) rfl<|Jn<|nF rfl (fun ar=>?_) fun ar=>?_;refine Jr<|Ja rfl<|Jn<|Je<|Jm<|Jh<|Jh<|Jm<|Jh<|JT ?_;rotate_left;refine Jw<|Jj<|Jt<|Jg<|Jv rfl<|JB rfl (by omega)<|Ja rfl<|Jn ?_;rotate_right)
  ·have hne:x≠y:=by
    intro e
    subst e
    simp at ar
   rw [decide_eq_false fun e=>fH hne (hf.1 (by rw [e]))]
  ·have he:x=y:=by
    obtain ⟨q1,q2,q3,_⟩:=ar
    cases x;cases y
    dsimp only at q1 q2 q3
    subst q1;subst q2;subst q3
    rfl
   clear ar
   apply aJ (k+1) ⟨(show k+1≤r.po.length from aK),hf.trans (hd he)⟩ (show r.po.length-(k+1)<r.po.length-k by omega)
   case hs1=>exact cd
   case ht=>
    exact .cons .here (.cons .here .nil)
 have z4:r.po=q.po:=by
  obtain rfl:k=r.po.length:=by omega
  exact hf.2 (by rw [Z6,el,Z6])
 obtain rfl:k=r.po.length:=by omega
 clear hk hf aK
 (refine Jq<|Jr<|Jv rfl<|bP rfl rfl ae<|JL rfl (.there .here) rfl<|JI rfl<|JA rfl<|Jn<|Jc rfl fun ar=>Jp<|Jl<|Jo<|Jt<|Jr<|Ja rfl<|Jn<|Je<|JT ?_)
 rw [decide_eq_true (TE.2 ⟨⟨⟨⟨⟨e1,e2⟩,z1⟩,z2⟩,z3⟩,z4⟩)]
theorem bh.Dg {P:Program} {f:FuncId} {args:List Value} {w:World} {md:List Nat} {E:TypeId} {sz n:Nat} {xs:List Value} {val:Value→Value} (h:bh P f args w md (fun _:Value=>True) val (fun v=>[row E sz v n xs])) :
  bh P f args w md (fun _:Option Addr×Nat=>True) (fun x=>val (.slice x.1 n x.2)) (fun x=>[row E sz (.slice x.1 n x.2) n xs]):=
 Calls.mono h fun e w' ⟨v,he,_,hk,fp,hn,hs,hf⟩=>by
  have hv:∃ x:Option Addr×Nat,v=.slice x.1 n x.2:=by
   obtain ⟨f1,f2,_,⟨_,_,⟨e1,e2⟩ | ⟨g,cap,cur,e1,_⟩⟩,_⟩:=hs
   ·exact ⟨(none,0),by rw [e1,e2]⟩
   ·exact ⟨(_,cap),e1⟩
  obtain ⟨x,rfl⟩:=hv
  exact ⟨x,he,trivial,hk,fp,hn,hs,hf⟩
def R7:Value→Option Addr×Nat
 | .slice a _ c=>(a,c)
 | _=>(none,0)
theorem DS (x:Option Addr×Nat):∃ v,R7 v=x:=⟨.slice x.1 0 x.2,rfl⟩
theorem Mm {kv:Value} {l:List eL} {w:World} (h:Rd w kv 2 (gN l)) (hM:sx w l) (hn:l.length≤1000) (hs:∀ x∈l,x.tk.so.length≤1000) :
  bh Tryz.prog 54 [kv] w [] (fun x:Value×List eL=>bZ x.2=bZ l) (fun x=>x.1) (fun x=>[row 69 2 x.1 x.2.length (gN x.2).flatten,CD x.2]):=by
 obtain ⟨a,cp,b,o,rfl,c7,bQ,ha,hc⟩:=h
 rw [dw] at *
 unfold maxLen at bQ
 refine aQ Tryz.func54 rfl rfl ?_
 refine Jr<|Ja rfl<|Ji<|Ja rfl<|Jn<|Jq<|Jr<|Jv rfl<|JI rfl<|Jv rfl<|Jn<|J0 ?_
 refine aP 69 2 ?_
 refine jI 9 ?_
 refine aX (ι:=Nat×Value×List eL) (fun x=>x.1≤l.length∧bZ x.2.2=bZ (l.take x.1)) (fun x=>[(8,.int .i64 (x.1:Nat)),(7,.int .i64 (l.length:Nat)),(6,.slice a l.length cp),(3,x.2.1)])
  (fun x=>[row 69 2 x.2.1 x.2.2.length (gN x.2.2).flatten,mq 9 (x.2.2.map eL.v) (x.2.2.map fun y=>aM y.tk.so)]) (fun x=>l.length-x.1) ?_ ?_
 ·apply aI (0,.slice none 0 0,[]) ⟨Zi _,rfl⟩
  case hs1=>exact cd
  case ht=>
   exact .cons (.there .here) (.cons .here .nil)
 rintro ⟨k,v,W⟩ ⟨hk,hW⟩
 dsimp only at hk hW ⊢
 have Pk:W.length=k:=by
  have:=congrArg List.length hW
  unfold bZ at this
  rw [Zd,Zd,Zp] at this
  omega
 by_cases aK:k<l.length
 ·have cB:=ha (jJ aK)
  have aC:=(hc k _ (js aK)).2
  have hx:=hM _ (Zj aK)
  have Ny:=hs _ (Zj aK)
  have htk:bZ (l.take (k+1))=bZ (l.take k)++[l[k].tk]:=by
   unfold bZ
   rw [Zn aK,Zr];rfl
  have rI:(gN W).flatten.length=W.length*2:=by rw [fg (yQ W),dw]
  have fa:=Rd.one hx
  unfold eL.cells at aC
  generalize l[k]=x at aC hx Ny htk fa
  obtain ⟨⟨xd,xs⟩,xv⟩:=x
  dsimp only at aC hx Ny htk fa
  have T6:∀ w',aH [] w w'→bh Tryz.prog 72 [xv] w' [] (fun _:Option Addr×Nat=>True) (fun z=>.slice z.1 xs.length z.2) (fun z=>[row 9 1 (.slice z.1 xs.length z.2) xs.length (aM xs)]):=fun w' hk=>bh.Dg (val:=id) (Ep (hx.keeps hk) (by omega))
  refine aW (E:=69) (sz:=2) (v:=v) (by exact .here) fun va vc e=>?_
  subst e
  (refine Jr<|JA rfl<|Jn<|Jq<|Jd rfl fun ar=>Jk<|Jq<|J0<|Jr<|ab (fG cB ar) rfl<|ab (gS (eF.base aC rfl)) rfl<|Jz rfl rfl fun _ _=>aq (.of rfl) (.of rfl) .here rfl rfl (fN rfl fa) (bF rfl) ak<|Jn ?_)
  with_reducible refine dK 8 (by kernel_rfl) ?_
  (refine au (fun β=>(a7 (.of rfl))) bC rfl<|au (fun β=>(ao (.of rfl) ae)) bC rfl<|au (fun β=>(ag (.of rfl) (At.lit .here rfl))) bC rfl<|au (fun β=>(ao (.of rfl) ae)) bC rfl<|au (fun β=>(ag (.of rfl) (At.lit .here rfl))) bC rfl ?_)
  dsimp only [Nat.zero_add,Nat.reduceAdd]
  with_reducible apply dH (ι:=Option Addr×Nat) (Φ:=fun _=>True) (val:=fun z=>.slice z.1 xs.length z.2) (own:=fun z=>[row 9 1 (.slice z.1 xs.length z.2) xs.length (aM xs)]) (g:=R7) (B:=[]) (args:=fun _=>[xv])
  case hg=>exact DS
  case hB=>rfl
  case hr=>exact fun β=>aY (.of rfl) (.cons (.of rfl) .nil) inferInstance rfl
  case hd=>rfl
  case hc=>exact fun β w' hb=>T6 w' hb.mem.keeps
  dsimp only [Nat.reduceAdd]
  with_reducible apply au
  case hr=>(intro β;exact aS (.cons (.of rfl) (.cons (.of rfl) .nil)) ak)
  case hi=>exact fun β β' h=>by simp only [h 5 (by kernel_rfl)]
  case hd=>rfl
  dsimp only [Nat.reduceAdd]
  with_reducible apply lu
  case hr=>(intro β;exact bu (.cons (.of rfl) .nil) rfl rfl bO bO ak)
  case hi=>exact fun β β' h=>by simp only [h 5 (by decide) (by kernel_rfl)]
  case hd=>rfl
  dsimp only [Nat.reduceAdd]
  refine fh fun β=>?_
  dsimp only [eu,Za,Zb,List.append_eq,Nat.reduceAdd]
  generalize fL (β 7)=b7
  generalize R7 (β 5)=y
  obtain ⟨ya,yc⟩:=y
  clear β
  dsimp only
  refine cu (rs:=[8]) (by kernel_rfl) (by simp) (ZA.2 ⟨?_,fun _ h=>absurd h Zq⟩)
  refine cG rfl ?_
  refine bH (.of rfl) (.of rfl) c6 (.there .here) ak (by rfl) (fN rfl rfl) (by rfl) (by rfl) (by rfl) eN (by rfl) ?_
  intro v'
  refine Jn ?_
  refine cu (rs:=[9]) (by kernel_rfl) (by simp) (ZA.2 ⟨?_,fun _ h=>absurd h Zq⟩)
  refine cG rfl ?_
  refine Ja rfl<|Jn ?_
  with_reducible refine cH (by kernel_rfl) ?_
  refine Jj<|Jt<|Jg<|JB rfl (by omega)<|Jv rfl<|Jn ?_
  have Uu:(aM xs).length=xs.length:=df xs
  with_reducible apply kY (E:=9) (vs:=W.map eL.v) (xs:=W.map fun y=>aM y.tk.so) (v:=.slice ya xs.length yc) (x:=aM xs) (n:=xs.length)
  case ht=>exact dO
  case ht2=>exact Take.there .here
  case hn=>exact Uu.symm
  case hl=>rw [Zd,Zd]
  case k=>
   apply aJ (k+1,v',W++[⟨⟨xd,xs⟩,.slice ya xs.length yc⟩]) ⟨by show k+1≤_;omega,by
    show bZ (W++[_])=_
    unfold bZ at hW htk ⊢
    rw [Zr,hW];exact htk.symm⟩ (by show l.length-(k+1)<l.length-k;omega)
   case hs1=>exact cd
   case ht=>
    dsimp only
    rw [yS,Zg,Zr,Zr]
    simp only [Z8,Zf,ZJ,Zaa,ZB]
    exact .cons (.there .here) (.cons .here .nil)
 ·have e:k=l.length:=by omega
  rw [e,ZL] at hW
  refine aW (E:=69) (sz:=2) (v:=v) (by exact .here) fun va vc e=>?_
  subst e
  refine Jr<|JA rfl<|Jn<|Jq<|Jc rfl fun ar=>Jp<|Jl<|Jo<|Jt<|Jr<|Jv rfl<|Ja rfl<|Jn<|Je ?_
  first | with_reducible apply aN | with_reducible apply aO
  case he=>exact dD rfl rfl
  case hR=>
   intro w' aB
   exact aF (.slice va W.length vc,W) hW (by exact .cons .here (.cons .here .nil)) aB rfl
theorem N0 {kv:Value} {l:List eL} {w:World} (h:Rd w kv 2 (gN l)) (hM:sx w l) (hn:l.length≤1000) (hs:∀ x∈l,x.tk.so.length≤1000) :
  bh Tryz.prog 46 [kv] w [] (fun x:Value×List eL=>bZ x.2=bZ l) (fun x=>x.1) (fun x=>[row 78 2 x.1 x.2.length (gN x.2).flatten,CD x.2]):=by
 obtain ⟨a,cp,b,o,rfl,c7,bQ,ha,hc⟩:=h
 rw [dw] at *
 unfold maxLen at bQ
 refine aQ Tryz.func46 rfl rfl ?_
 refine Jr<|Ja rfl<|Ji<|Ja rfl<|Jn<|Jq<|Jr<|Jv rfl<|JI rfl<|Jv rfl<|Jn<|J0 ?_
 refine aP 78 2 ?_
 refine jI 9 ?_
 refine aX (ι:=Nat×Value×List eL) (fun x=>x.1≤l.length∧bZ x.2.2=bZ (l.take x.1)) (fun x=>[(8,.int .i64 (x.1:Nat)),(7,.int .i64 (l.length:Nat)),(6,.slice a l.length cp),(3,x.2.1)])
  (fun x=>[row 78 2 x.2.1 x.2.2.length (gN x.2.2).flatten,mq 9 (x.2.2.map eL.v) (x.2.2.map fun y=>aM y.tk.so)]) (fun x=>l.length-x.1) ?_ ?_
 ·apply aI (0,.slice none 0 0,[]) ⟨Zi _,rfl⟩
  case hs1=>exact cd
  case ht=>
   exact .cons (.there .here) (.cons .here .nil)
 rintro ⟨k,v,W⟩ ⟨hk,hW⟩
 dsimp only at hk hW ⊢
 have Pk:W.length=k:=by
  have:=congrArg List.length hW
  unfold bZ at this
  rw [Zd,Zd,Zp] at this
  omega
 by_cases aK:k<l.length
 ·have cB:=ha (jJ aK)
  have aC:=(hc k _ (js aK)).2
  have hx:=hM _ (Zj aK)
  have Ny:=hs _ (Zj aK)
  have htk:bZ (l.take (k+1))=bZ (l.take k)++[l[k].tk]:=by
   unfold bZ
   rw [Zn aK,Zr];rfl
  have rI:(gN W).flatten.length=W.length*2:=by rw [fg (yQ W),dw]
  have fa:=Rd.one hx
  unfold eL.cells at aC
  generalize l[k]=x at aC hx Ny htk fa
  obtain ⟨⟨xd,xs⟩,xv⟩:=x
  dsimp only at aC hx Ny htk fa
  have T6:∀ w',aH [] w w'→bh Tryz.prog 72 [xv] w' [] (fun _:Option Addr×Nat=>True) (fun z=>.slice z.1 xs.length z.2) (fun z=>[row 9 1 (.slice z.1 xs.length z.2) xs.length (aM xs)]):=fun w' hk=>bh.Dg (val:=id) (Ep (hx.keeps hk) (by omega))
  refine aW (E:=78) (sz:=2) (v:=v) (by exact .here) fun va vc e=>?_
  subst e
  (refine Jr<|JA rfl<|Jn<|Jq<|Jd rfl fun ar=>Jk<|Jq<|J0<|Jr<|ab (fG cB ar) rfl<|ab (gS (eF.base aC rfl)) rfl<|Jz rfl rfl fun _ _=>aq (.of rfl) (.of rfl) .here rfl rfl (fN rfl fa) (bF rfl) ak<|Jn ?_)
  with_reducible refine dK 8 (by kernel_rfl) ?_
  (refine au (fun β=>(a7 (.of rfl))) bC rfl<|au (fun β=>(ao (.of rfl) ae)) bC rfl<|au (fun β=>(ag (.of rfl) (At.lit .here rfl))) bC rfl<|au (fun β=>(ao (.of rfl) ae)) bC rfl<|au (fun β=>(ag (.of rfl) (At.lit .here rfl))) bC rfl ?_)
  dsimp only [Nat.zero_add,Nat.reduceAdd]
  with_reducible apply dH (ι:=Option Addr×Nat) (Φ:=fun _=>True) (val:=fun z=>.slice z.1 xs.length z.2) (own:=fun z=>[row 9 1 (.slice z.1 xs.length z.2) xs.length (aM xs)]) (g:=R7) (B:=[]) (args:=fun _=>[xv])
  case hg=>exact DS
  case hB=>rfl
  case hr=>exact fun β=>aY (.of rfl) (.cons (.of rfl) .nil) inferInstance rfl
  case hd=>rfl
  case hc=>exact fun β w' hb=>T6 w' hb.mem.keeps
  dsimp only [Nat.reduceAdd]
  with_reducible apply au
  case hr=>(intro β;exact aS (.cons (.of rfl) (.cons (.of rfl) .nil)) ak)
  case hi=>exact fun β β' h=>by simp only [h 5 (by kernel_rfl)]
  case hd=>rfl
  dsimp only [Nat.reduceAdd]
  with_reducible apply lu
  case hr=>(intro β;exact bu (.cons (.of rfl) .nil) rfl rfl bO bO ak)
  case hi=>exact fun β β' h=>by simp only [h 5 (by decide) (by kernel_rfl)]
  case hd=>rfl
  dsimp only [Nat.reduceAdd]
  refine fh fun β=>?_
  dsimp only [eu,Za,Zb,List.append_eq,Nat.reduceAdd]
  generalize fL (β 7)=b7
  generalize R7 (β 5)=y
  obtain ⟨ya,yc⟩:=y
  clear β
  dsimp only
  refine cu (rs:=[8]) (by kernel_rfl) (by simp) (ZA.2 ⟨?_,fun _ h=>absurd h Zq⟩)
  refine cG rfl ?_
  refine bH (.of rfl) (.of rfl) c6 (.there .here) ak (by rfl) (fN rfl rfl) (by rfl) (by rfl) (by rfl) eN (by rfl) ?_
  intro v'
  refine Jn ?_
  refine cu (rs:=[9]) (by kernel_rfl) (by simp) (ZA.2 ⟨?_,fun _ h=>absurd h Zq⟩)
  refine cG rfl ?_
  refine Ja rfl<|Jn ?_
  with_reducible refine cH (by kernel_rfl) ?_
  refine Jj<|Jt<|Jg<|JB rfl (by omega)<|Jv rfl<|Jn ?_
  have Uu:(aM xs).length=xs.length:=df xs
  with_reducible apply kY (E:=9) (vs:=W.map eL.v) (xs:=W.map fun y=>aM y.tk.so) (v:=.slice ya xs.length yc) (x:=aM xs) (n:=xs.length)
  case ht=>exact dO
  case ht2=>exact Take.there .here
  case hn=>exact Uu.symm
  case hl=>rw [Zd,Zd]
  case k=>
   apply aJ (k+1,v',W++[⟨⟨xd,xs⟩,.slice ya xs.length yc⟩]) ⟨by show k+1≤_;omega,by
    show bZ (W++[_])=_
    unfold bZ at hW htk ⊢
    rw [Zr,hW];exact htk.symm⟩ (by show l.length-(k+1)<l.length-k;omega)
   case hs1=>exact cd
   case ht=>
    dsimp only
    rw [yS,Zg,Zr,Zr]
    simp only [Z8,Zf,ZJ,Zaa,ZB]
    exact .cons (.there .here) (.cons .here .nil)
 ·have e:k=l.length:=by omega
  rw [e,ZL] at hW
  refine aW (E:=78) (sz:=2) (v:=v) (by exact .here) fun va vc e=>?_
  subst e
  refine Jr<|JA rfl<|Jn<|Jq<|Jc rfl fun ar=>Jp<|Jl<|Jo<|Jt<|Jr<|Jv rfl<|Ja rfl<|Jn<|Je ?_
  first | with_reducible apply aN | with_reducible apply aO
  case he=>exact dD rfl rfl
  case hR=>
   intro w' aB
   exact aF (.slice va W.length vc,W) hW (by exact .cons .here (.cons .here .nil)) aB rfl
def cO:ByteArray:=⟨#[99,97,109]⟩
def kh:ByteArray:=⟨#[118,116,114]⟩
def nC:ByteArray:=⟨#[109,111,110]⟩
def dI:ByteArray:=⟨#[97,105,114]⟩
def je:ByteArray:=⟨#[114,101,99]⟩
def nT:ByteArray:=⟨#[116]⟩
def nU:ByteArray:=⟨#[117]⟩
def lX:Ro:=⟨2,2,[⟨cO,0⟩,⟨kh,1⟩],[⟨nC,0,false⟩,⟨dI,1,false⟩,⟨je,1,false⟩],[⟨nT,0,1⟩,⟨nU,0,1⟩],[]⟩
def nJ:Tk:=⟨dI,[cO,cO]⟩
def SN:Tk:=⟨je,[cO,⟨#[]⟩]⟩
def nI:Tk:=⟨dI,[kh,kh]⟩
def W5:List Po:=[⟨0,dI,nT⟩,⟨0,nT,cO⟩,⟨1,dI,nT⟩,⟨1,nT,cO⟩]
def W4:List Po:=[⟨0,dI,nT⟩,⟨0,je,nT⟩,⟨0,nT,cO⟩,⟨1,dI,nT⟩,⟨1,nT,cO⟩]
def W1:List Po:=[⟨0,dI,kh⟩,⟨0,je,nT⟩,⟨0,nT,cO⟩,⟨1,dI,kh⟩]
def fZ:Ro:={ lX with po:=W5 }
def gO:Ro:={ lX with po:=W4 }
def vW:Ro:={ lX with po:=W1 }
def Dk:Ro:=fZ.Ik nC true
theorem VB:gC lX=0:=by kernel_rfl
theorem Pr:FH lX 0 cO dI=0∧CU lX 0 cO dI=[nT]:=⟨by kernel_rfl,by kernel_rfl⟩
theorem Vz:jl lX [nJ]=(fZ,0,0):=by kernel_rfl
theorem Vw:jl fZ [SN]=(gO,0,0):=by kernel_rfl
theorem Px:jl gO [nI]=(vW,0,0):=by kernel_rfl
theorem Vu:Mc gO [nI]=[nJ]:=by kernel_rfl
theorem Pq:FH lX 0 kh nC=18∧CU lX 0 kh nC=[]:=⟨by kernel_rfl,by kernel_rfl⟩
theorem Pz:KT lX 0 kh nC=0∧GU lX 0 kh nC=[1]:=⟨by kernel_rfl,by kernel_rfl⟩
theorem VC:WI lX 0 kh nC [0]=19:=by kernel_rfl
theorem VA:BX gO je=0∧DN gO je=[cO,⟨#[]⟩]:=⟨by kernel_rfl,by kernel_rfl⟩
theorem Pt:Hv fZ 0 dI=0∧FN fZ 0 dI=[cO,nT,dI]:=⟨by kernel_rfl,by kernel_rfl⟩
theorem PA:K7 fZ 0=0∧G2 fZ 0=[nT]:=⟨by kernel_rfl,by kernel_rfl⟩
theorem Ps:Hp gO 0 cO=0∧FJ gO 0 cO=[dI,je]:=⟨by kernel_rfl,by kernel_rfl⟩
theorem Py:xO fZ nC=0∧xN fZ nC true=Dk:=⟨by kernel_rfl,by kernel_rfl⟩
theorem Vv:(jl Dk [⟨je,[⟨#[45]⟩,⟨#[]⟩]⟩,⟨nC,[cO,cO]⟩]).2=(1,31):=by kernel_rfl
theorem Pw:nB lX [⟨10,[nJ]⟩,⟨12,[nI]⟩] dI 9=0∧pT lX [⟨10,[nJ]⟩,⟨12,[nI]⟩] dI 9=[⟨#[]⟩,⟨#[]⟩]:=⟨by kernel_rfl,by kernel_rfl⟩
theorem Pv:nB lX [⟨10,[nJ]⟩,⟨12,[nI]⟩] dI 11=0∧pT lX [⟨10,[nJ]⟩,⟨12,[nI]⟩] dI 11=[cO,cO]:=⟨by kernel_rfl,by kernel_rfl⟩
theorem Pu:nB lX [⟨10,[nJ]⟩,⟨12,[nI]⟩] dI 12=0∧pT lX [⟨10,[nJ]⟩,⟨12,[nI]⟩] dI 12=[kh,kh]:=⟨by kernel_rfl,by kernel_rfl⟩
theorem Sa:Ij lX=⟨#[114,111,117,116,101,114,32,50,32,50,10,115,111,117,114,99,101,32,99,97,109,32,48,10,115,111,117,114,99,101,32,118,116,114,32,49,10,100,101,115,116,105,110,97,116,105,111,110,32,109,111,110,32,48,32,102,114,101,101,10,100,101,115,116,105,110,97,116,105,111,110,32,97,105,114,32,49,32,102,114,101,101,10,100,101,115,116,105,110,97,116,105,111,110,32,114,101,99,32,49,32,102,114,101,101,10,116,105,101,32,116,32,48,32,49,10,116,105,101,32,117,32,48,32,49,10]⟩:=by kernel_rfl
theorem Ob (w:World):bh Tryz.prog 105 [] w [] (fun _:Value×Value×Value×Value=>True) (fun x=>RA lX x.1 x.2.1 x.2.2.1 x.2.2.2) (fun x=>pC lX x):=by
 unfold RA
 refine aQ Tryz.func105 rfl rfl ?_
 (refine Jr<|Jz rfl rfl fun _ _=>Ji<|ab (aS (.cons (.of rfl) .nil) ak) rfl<|ab (aS (.cons (.of rfl) (.cons (.of rfl) .nil)) ak) rfl<|bo (bu (.cons (.of rfl) (.cons (.of rfl) .nil)) rfl rfl bO bO ak) rfl fun _ _=>ab (aS (.cons (.of rfl) .nil) ak) rfl<|ab (aS (.cons (.of rfl) (.cons (.of rfl) .nil)) ak) rfl<|ab (aS (.cons (.of rfl) (.cons (.of rfl) .nil)) ak) rfl<|bo (bu (.cons (.of rfl) (.cons (.of rfl) (.cons (.of rfl) .nil))) rfl rfl bO bO ak) rfl fun _ _=>ab (aS (.cons (.of rfl) (.cons (.of rfl) .nil)) ak) rfl<|ab (aS (.cons (.of rfl) (.cons (.of rfl) .nil)) ak) rfl<|bo (bu (.cons (.of rfl) (.cons (.of rfl) .nil)) rfl rfl bO bO ak) rfl fun _ _=>ab (aS (.cons (.of rfl) (.cons (.of rfl) (.cons (.of rfl) (.cons (.of rfl) (.cons (.of rfl) .nil))))) ak) rfl<|aq (.of rfl) (.of rfl) c6 rfl rfl (gE rfl rfl rfl rfl rfl rfl) (bF rfl) ak<|Jn<|Je ?_)
 rename_i b0 hb0 b1 sX b2 sW b3 vo
 refine bX (g:=b1) (E:=186) (ys:=nR lX.sr) 2 2 c6 (by exact rfl) rfl rfl ?_
 refine bX (g:=b2) (E:=90) (ys:=lS lX.de) 3 3 c6 (by exact rfl) rfl rfl ?_
 refine bX (g:=b3) (E:=187) (ys:=pS lX.ti) 2 3 c6 (by exact rfl) rfl rfl ?_
 refine aP 188 3 ?_
 first | with_reducible apply aN | with_reducible apply aO
 case he=>exact kN rfl inferInstance rfl dO ak (by rfl)
 case hR=>
  intro w' aB
  exact aF (.slice (some ⟨b1,0,none⟩) 2 2,.slice (some ⟨b2,0,none⟩) 3 3,.slice (some ⟨b3,0,none⟩) 2 2,.slice none 0 0) trivial (by exact .cons c6 (.cons bT (.cons (.there .here) (.cons .here .nil)))) aB rfl
theorem Sd (w:World):bh Tryz.prog 106 [] w [] (fun _:Option Addr×Nat=>True) (fun x=>.agg (eL.cells ⟨nJ,.slice x.1 2 x.2⟩).toArray) (fun x=>[row 9 1 (.slice x.1 2 x.2) 2 (aM nJ.so)]):=by
 unfold eL.cells
 refine aQ Tryz.func106 rfl rfl ?_
 (refine Jr<|Jz rfl rfl fun _ _=>Ji<|bo (aD (.cons (.of rfl) (.cons (.of rfl) .nil)) rfl rfl rfl rfl) rfl fun _ _=>ab (aS (.cons (.of rfl) (.cons (.of rfl) .nil)) ak) rfl<|aq (.of rfl) (.of rfl) (.there .here) rfl rfl (fN rfl rfl) (bF rfl) ak<|Jn<|Je ?_)
 rename_i b0 hb0 b1 sX
 refine bX (g:=b1) (E:=9) (ys:=aM nJ.so) 2 1 (by exact Take.there .here) (by exact rfl) rfl rfl ?_
 first | with_reducible apply aN | with_reducible apply aO
 case he=>exact kN rfl inferInstance rfl (.there .here) ak (by rfl)
 case hR=>
  intro w' aB
  exact aF (some ⟨b1,0,none⟩,2) trivial (by exact .cons .here .nil) aB rfl
theorem Sc (w:World):bh Tryz.prog 107 [] w [] (fun _:Option Addr×Nat=>True) (fun x=>.agg (eL.cells ⟨SN,.slice x.1 2 x.2⟩).toArray) (fun x=>[row 9 1 (.slice x.1 2 x.2) 2 (aM SN.so)]):=by
 unfold eL.cells
 refine aQ Tryz.func107 rfl rfl ?_
 (refine Jr<|Jz rfl rfl fun _ _=>Ji<|bo (aD (.cons (.of rfl) (.cons (.of rfl) .nil)) rfl rfl rfl rfl) rfl fun _ _=>ab (aS (.cons (.of rfl) (.cons (.of rfl) .nil)) ak) rfl<|aq (.of rfl) (.of rfl) (.there .here) rfl rfl (fN rfl rfl) (bF rfl) ak<|Jn<|Je ?_)
 rename_i b0 hb0 b1 sX
 refine bX (g:=b1) (E:=9) (ys:=aM SN.so) 2 1 (by exact Take.there .here) (by exact rfl) rfl rfl ?_
 first | with_reducible apply aN | with_reducible apply aO
 case he=>exact kN rfl inferInstance rfl (.there .here) ak (by rfl)
 case hR=>
  intro w' aB
  exact aF (some ⟨b1,0,none⟩,2) trivial (by exact .cons .here .nil) aB rfl
theorem Sb (w:World):bh Tryz.prog 108 [] w [] (fun _:Option Addr×Nat=>True) (fun x=>.agg (eL.cells ⟨nI,.slice x.1 2 x.2⟩).toArray) (fun x=>[row 9 1 (.slice x.1 2 x.2) 2 (aM nI.so)]):=by
 unfold eL.cells
 refine aQ Tryz.func108 rfl rfl ?_
 (refine Jr<|Jz rfl rfl fun _ _=>Ji<|bo (aD (.cons (.of rfl) (.cons (.of rfl) .nil)) rfl rfl rfl rfl) rfl fun _ _=>ab (aS (.cons (.of rfl) (.cons (.of rfl) .nil)) ak) rfl<|aq (.of rfl) (.of rfl) (.there .here) rfl rfl (fN rfl rfl) (bF rfl) ak<|Jn<|Je ?_)
 rename_i b0 hb0 b1 sX
 refine bX (g:=b1) (E:=9) (ys:=aM nI.so) 2 1 (by exact Take.there .here) (by exact rfl) rfl rfl ?_
 first | with_reducible apply aN | with_reducible apply aO
 case he=>exact kN rfl inferInstance rfl (.there .here) ak (by rfl)
 case hR=>
  intro w' aB
  exact aF (some ⟨b1,0,none⟩,2) trivial (by exact .cons .here .nil) aB rfl
instance :DecidableEq Tk:=fun a b=>decidable_of_iff (a.de=b.de∧a.so=b.so) (by cases a;cases b;simp)
theorem Bh {c:Cx} {hs hs':List a8} {w:World} {r:Ro} {x:Value×Value×Value×Value} (hm:Mem c hs w) (ht:bz hs (pC r x) hs'):RR w r x.1 x.2.1 x.2.2.1 x.2.2.2:=by
 have l7:=hm.iT ht
 exact ⟨cW l7 .here rfl,cX l7 (.there .here) rfl,cV l7 bT rfl,cM l7 c6 rfl⟩
theorem OQ {c:Cx} {hs hs':List a8} {w:World} {r:Ro} {x:Value×Value×Value×Value} (hm:Mem c hs w) (ht:bz hs (Lx r x) hs'):RR w r x.1 x.2.1 x.2.2.1 x.2.2.2:=by
 have l7:=hm.iT ht
 exact ⟨cW l7 .here rfl,cX l7 (.there .here) rfl,cV l7 bT rfl,cM l7 c6 rfl⟩
theorem kX {c:Cx} {D:List Nat} {sl:aG} {hs hs':List a8} {X:Act→World→Prop} {r:Ro} {s d t p:Value} (ht:bz hs (Lx r (s,d,t,p)) hs')
  (k:s.oneCell'=true→d.oneCell'=true→t.oneCell'=true→p.oneCell'=true→Tr c D sl (row 118 2 s r.sr.length (nR r.sr)::row 88 3 d r.de.length (lS r.de)::row 122 3 t r.ti.length (pS r.ti)::row 180 3 p r.po.length (gR r.po)::hs') X):Tr c D sl hs X:=by
 intro a w bb
 have hm:=bb.mem.iT (ht.append (mw D))
 have k2:Tr c D sl (row 118 2 s r.sr.length (nR r.sr)::row 88 3 d r.de.length (lS r.de)::row 122 3 t r.ti.length (pS r.ti)::row 180 3 p r.po.length (gR r.po)::hs') X:=by
  refine aW (E:=118) (sz:=2) (v:=s) .here fun _ _ e=>?_
  have k1:s.oneCell'=true:=by rw [e];rfl
  clear e
  refine aW (E:=88) (sz:=3) (v:=d) (.there .here) fun _ _ e=>?_
  have k2:d.oneCell'=true:=by rw [e];rfl
  clear e
  refine aW (E:=122) (sz:=3) (v:=t) bT fun _ _ e=>?_
  have k3:t.oneCell'=true:=by rw [e];rfl
  clear e
  refine aW (E:=180) (sz:=3) (v:=p) c6 fun _ _ e=>?_
  have k4:p.oneCell'=true:=by rw [e];rfl
  clear e
  exact k k1 k2 k3 k4
 exact k2 a w (bb.heap hm)
theorem Cw {v1 v2:Value} {l m:List eL} {w:World} (h1:Rd w v1 2 (gN l)) (YX:sx w l) (h2:Rd w v2 2 (gN m)) (YW:sx w m) :
  aj Tryz.prog 53 [v1,v2] w (.bool (decide (bZ l=bZ m))):=by
 obtain ⟨a1,VG,b1,o1,rfl,pJ,iW,lR,kz⟩:=h1
 obtain ⟨a2,nN,b2,o2,rfl,ku,fb,jz,j6⟩:=h2
 rw [dw] at *
 rw [dw] at *
 unfold maxLen at iW fb
 refine ah Tryz.func53 rfl rfl ?_
 (refine Jr<|Ja rfl<|Jn<|Jq<|Jr<|Jv rfl<|JI rfl<|Jv rfl<|JI rfl<|JD rfl<|Jn<|fP rfl (fun ar=>?_) fun ar=>?_;refine Jr<|Ja rfl<|Jn<|Ju<|JT ?_;rotate_left;refine Jk<|Jq<|Jr<|Ja rfl<|Jn<|J0 ?_;rotate_right)
 ·rw [decide_eq_false fun e=>ar (by have:=congrArg List.length e;unfold bZ at this;rw [Zd,Zd] at this;rw [this])]
 have UJ:l.length=m.length:=by omega
 refine aX (ι:=Nat) (fun k=>k≤l.length∧(bZ l=bZ m↔bZ (l.drop k)=bZ (m.drop k))) (fun k=>[(5,.int .i64 (k:Int)),(0,.slice a1 l.length VG),(1,.slice a2 m.length nN)]) (fun _=>[]) (fun k=>l.length-k) ?_ ?_
 ·apply aI (0:Nat) ⟨Zi _,Iff.rfl⟩
  case hs1=>exact cd
  case ht=>(try simp only [Ze,Zf,Za]);exact .nil
 rintro k ⟨hk,hf⟩
 by_cases aK:k<l.length
 ·have eU:k<m.length:=by omega
  have GI:=lR (jJ aK)
  have tx:=jz (jJ eU)
  have lg:=(kz k _ (js aK)).2
  have dZ:=(j6 k _ (js eU)).2
  have x1:=YX _ (Zj aK)
  have x2:=YW _ (Zj eU)
  have hd:bZ (l.drop k)=bZ (m.drop k)↔(l[k].tk=m[k].tk∧bZ (l.drop (k+1))=bZ (m.drop (k+1))):=by
   rw [Zw aK,Zw eU]
   unfold bZ
   rw [Z8,Z8]
   exact List.cons_eq_cons
  rw [hd] at hf
  clear hd
  unfold eL.cells at lg dZ
  generalize l[k]=x at lg x1 hf
  generalize m[k]=y at dZ x2 hf
  obtain ⟨⟨xd,xs⟩,xv⟩:=x
  obtain ⟨⟨yd,ys⟩,yv⟩:=y
  dsimp only at lg dZ x1 x2 hf
  have c1:w.cell? ⟨b1,o1+k*2,none⟩=some (.string xd):=lg 0 _ rfl
  have c2:w.cell? ⟨b2,o2+k*2,none⟩=some (.string yd):=dZ 0 _ rfl
  have c3:w.cell? ⟨b1,o1+k*2+1,none⟩=some xv:=lg 1 _ rfl
  have c4:w.cell? ⟨b2,o2+k*2+1,none⟩=some yv:=dZ 1 _ rfl
  have Wh:∀ w',aH [] w w'→aj Tryz.prog 58 [xv,yv] w' (.bool (decide (xs=ys))):=fun w' hk=>y8 (x1.keeps hk) (x2.keeps hk)
  refine Jq<|Jr<|Jv rfl<|Jv rfl<|JI rfl<|JA rfl<|Jn<|Jd rfl fun ar=>Jk<|Jq<|J0<|Jq ?_
  with_reducible refine en 25 (by kernel_rfl) ?_
  (refine ly rfl rfl<|ly rfl rfl<|aL (fG GI ar) rfl<|oO rfl rfl ae<|aL (ag (.of rfl) (At.base c1 rfl)) rfl<|ly rfl rfl<|ly rfl rfl<|aL (az (.of rfl) (.of rfl) tx (by omega) (by omega) bj) rfl<|oO rfl rfl ae<|aL (ag (.of rfl) (At.base c2 rfl)) rfl<|aL (fR (.of rfl) (.of rfl)) rfl<|ly rfl rfl<|dF rfl rfl inferInstance (fun hg bB=>(a7 (.of rfl))) rfl<|dF rfl rfl inferInstance (fun hg bB=>(a7 (.of rfl))) rfl<|dF rfl rfl inferInstance (fun hg bB=>(az (.bI hg rfl) (.bI hg rfl) GI (by omega) ar bj)) rfl<|dF rfl rfl inferInstance (fun hg bB=>(ao (.bI hg rfl) ae)) rfl<|dF rfl rfl inferInstance (fun hg bB=>(ag (.bI hg rfl) (At.base c3 rfl))) rfl<|dF rfl rfl inferInstance (fun hg bB=>(a7 (.of rfl))) rfl<|dF rfl rfl inferInstance (fun hg bB=>(a7 (.of rfl))) rfl<|dF rfl rfl inferInstance (fun hg bB=>(az (.bI hg rfl) (.bI hg rfl) tx (by omega) (by omega) bj)) rfl<|dF rfl rfl inferInstance (fun hg bB=>(ao (.bI hg rfl) ae)) rfl<|dF rfl rfl inferInstance (fun hg bB=>(ag (.bI hg rfl) (At.base c4 rfl))) rfl<|vN rfl rfl (fun hg=>(aY (.of rfl) (.cons (.bI hg rfl) (.cons (.bI hg rfl) .nil)) inferInstance dX)) rfl (fun hg w' aB=>(Wh w' (Mem.keeps aB)))<|dF rfl rfl inferInstance (fun hg bB=>(dV (.bI hg rfl))) rfl<|aL (aZ (.of rfl) rfl) rfl ?_)
  with_reducible refine eo ?_
  (refine Jn<|nF rfl (fun ar=>?_) fun ar=>?_;refine Jr<|Ja rfl<|Jn<|Je<|Jm<|Jh<|Jh<|Jm<|Jh<|JT ?_;rotate_left;refine Jw<|Jj<|Jt<|Jg<|Jv rfl<|JB rfl (by omega)<|Ja rfl<|Jn ?_;rotate_right)
  ·have hne:¬ bZ l=bZ m:=fun e=>by
    obtain ⟨e1,_⟩:=hf.1 e
    injection e1 with e2 e3
    rcases ar with h | h
    ·exact h e2
    ·exact h e3
   rw [decide_eq_false hne]
  ·obtain ⟨q1,q2⟩:=ar
   have q1:=Zo.1 q1
   subst q1;subst q2
   clear Wh
   apply aJ (k+1) ⟨(show k+1≤l.length from aK),hf.trans ⟨fun e=>e.2,fun e=>⟨rfl,e⟩⟩⟩ (show l.length-(k+1)<l.length-k by omega)
   case hs1=>exact cd
   case ht=>(try simp only [Ze,Zf,Za]);exact .nil
 ·obtain rfl:k=l.length:=by omega
  have:bZ l=bZ m:=hf.2 (by rw [Z6,UJ,Z6])
  refine Jq<|Jr<|Jv rfl<|Jv rfl<|JI rfl<|JA rfl<|Jn<|Jc rfl fun ar=>Jp<|Jl<|Jo<|Jt<|Jr<|Ja rfl<|Jn<|Je<|JT ?_
  rw [decide_eq_true this]
theorem Ip {r:Ro} {s d t p v:Value} {q:List Po} {w:World} (h:RR w r s d t p) (cI:me r) (hv:Rd w v 3 (sJ q)):aj Tryz.prog 110 [RA r s d t p,v] w (.bool (decide (r.po=q))):=by
 have h1:=Rd.one h.sr
 have h2:=Rd.one h.de
 have h3:=Rd.one h.ti
 have h4:=Rd.one h.po
 have hv2:=hv
 obtain ⟨av,cv,bv,ov,rfl,_,_,_,_⟩:=hv2
 rw [cT] at *
 have ht:∀ w',aH [] w w'→bh Tryz.prog 57 [.agg #[.int .i64 r.lv,.int .i64 r.ma,s,d,t,p]] w' [] (fun _:Value×Value×Value×Value=>True) (fun x=>RA r x.1 x.2.1 x.2.2.1 x.2.2.2) (fun x=>Lx r x):=fun w' hk=>C2 (h.keeps hk) cI
 unfold RA at ht ⊢
 refine ah Tryz.func110 rfl rfl ?_
 refine Jr<|Jy rfl rfl fun _ _=>Ja rfl<|Ji<|ab (cL .here) rfl ?_
 refine JN bL rfl (fun w1 aR=>ht w1 aR.keeps) ?_
 rintro ⟨s1,d1,t1,p1⟩ _
 dsimp only
 try unfold RA
 refine kX (r:=r) (s:=s1) (d:=d1) (t:=t1) (p:=p1) (bn _ _) fun k1 k2 k3 k4=>?_
 (refine Jz rfl rfl fun _ _=>aq (.of rfl) (.of rfl) .here rfl rfl (gE rfl rfl k1 k2 k3 k4) (bF rfl) ak<|Ji<|Jv rfl<|bP rfl rfl ae<|aq (.of rfl) (.of rfl) .here rfl rfl (eE rfl) (bF rfl) ak<|Jn<|Jq ?_)
 with_reducible refine dK 5 (by kernel_rfl) ?_
 refine au (fun β=>(bS (.of rfl) fk ak (by rfl))) bC rfl ?_
 dsimp only [Nat.zero_add,Nat.reduceAdd]
 with_reducible apply dH (ι:=Value×Value×Value×Value) (Φ:=fun _=>True) (val:=fun x=>.agg #[.int .i64 r.lv,.int .i64 r.ma,x.1,x.2.1,x.2.2.1,x.2.2.2]) (own:=fun x=>Lx r x) (g:=g4) (B:=[]) (args:=fun _=>[.agg #[.int .i64 r.lv,.int .i64 r.ma,s,d,t,p]])
 case hg=>exact rr
 case hB=>rfl
 case hr=>exact fun β=>aY (.of rfl) (.cons (.of rfl) .nil) inferInstance rfl
 case hd=>rfl
 case hc=>exact fun β w' hb=>ht w' hb.mem.keeps
 dsimp only [Nat.reduceAdd]
 refine au (fun β=>(bS (.of rfl) .here ak (by rfl))) bC rfl ?_
 dsimp only [Nat.reduceAdd]
 with_reducible apply cZ (B:=[1]) (F:=fun _=>.bool (decide (r={ r with po:=q }))) (args:=fun β=>[.agg #[.int .i64 r.lv,.int .i64 r.ma,(g4 (β 1)).1,(g4 (β 1)).2.1,(g4 (β 1)).2.2.1,(g4 (β 1)).2.2.2],.agg #[.int .i64 r.lv,.int .i64 r.ma,s1,d1,t1,.slice av q.length cv]])
 case hB=>kernel_rfl
 case hr=>exact fun β=>aY (.of rfl) (.cons (.of rfl) (.cons (.of rfl) .nil)) inferInstance rfl
 case hi=>exact bC
 case hd=>rfl
 case hc=>
  intro β w' dA
  have m1:=dA.at 1 Zt (s:=⟨fun β=>.agg #[.int .i64 r.lv,.int .i64 r.ma,(g4 (β 1)).1,(g4 (β 1)).2.1,(g4 (β 1)).2.2.1,(g4 (β 1)).2.2.2],fun β=>Lx r (g4 (β 1))⟩) (by kernel_rfl)
  dsimp only at m1
  have hk:=dA.mem.keeps
  have r1:=OQ m1 (bn _ _)
  have m2:=dA.mem
  have r2:RR w' { r with po:=q } s1 d1 t1 (.slice av q.length cv):=⟨cW m2 (by exact Take.there .here) rfl,cX m2 bT rfl,cV m2 c6 rfl,hv.keeps hk⟩
  exact SF r1 r2
 refine au (fun β=>(cA (.of rfl))) bC rfl ?_
 refine fh fun β=>?_
 dsimp only [eu,Za,Zb,List.append_eq,Nat.reduceAdd]
 with_reducible refine cH (by kernel_rfl) ?_
 refine Jt<|Je<|JT ?_
 have e:(r={ r with po:=q })↔r.po=q:=⟨fun e=>congrArg Ro.po e,fun e=>by cases r;subst e;rfl⟩
 rw [decide_eq_decide.2 e]
end Go.Proofs.A1
