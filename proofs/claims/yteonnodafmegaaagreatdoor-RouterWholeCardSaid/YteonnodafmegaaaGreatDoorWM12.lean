/- Parts of the proof: LI LJ LK LL LM LN LO. -/
import Derived.Test.YteonnodafmegaaaGreatDoorWM11
import Derived.Test.YteonnodafmegaaaGreatDoorWM04
import Derived.Test.YteonnodafmegaaaGreatDoorWM10
import Derived.Lib.AppendIntMem
import Derived.KernelRfl
set_option linter.unusedSectionVars false
set_option linter.unusedVariables false
set_option linter.unusedSimpArgs false
namespace Go.Proofs.A1
open Go Go.SL
def nO (n:Int):ByteArray:=⟨#[UInt8.ofNat (48+n.toNat)]⟩
theorem U3:∀ i,i≤9→(⟨(Lib.decDigits i).toArray⟩:ByteArray)=⟨#[UInt8.ofNat (48+i)]⟩:=by
 intro i h
 match i,h with
 | 0,_=>simp [Lib.decDigits]
 | 1,_=>simp [Lib.decDigits]
 | 2,_=>simp [Lib.decDigits]
 | 3,_=>simp [Lib.decDigits]
 | 4,_=>simp [Lib.decDigits]
 | 5,_=>simp [Lib.decDigits]
 | 6,_=>simp [Lib.decDigits]
 | 7,_=>simp [Lib.decDigits]
 | 8,_=>simp [Lib.decDigits]
 | 9,_=>simp [Lib.decDigits]
theorem Na (n:Int) (h0:0≤n) (h1:n≤9) (w:World):aj Tryz.prog 279 [.int .i64 n] w (.string (nO n)):=by
 obtain ⟨i,rfl⟩:∃ i:Nat,n=(i:Nat):=⟨n.toNat,by omega⟩
 refine Calls.mono (Tryz.internal_strconv_Itoa_small i (by omega) w) fun e w' ⟨he,hw⟩=>⟨?_,by rw [hw];exact .refl _ _⟩
 rw [he,U3 i (by omega)]
 unfold nO
 rw [ZI]
theorem oD (n:Int) (h0:0≤n) (h1:n≤9) (w:World):aj Tryz.prog 193 [.int .i64 n] w (.string (nO n)):=by
 refine ah Tryz.func193 rfl rfl ?_
 (refine Jr<|Ja rfl<|Ji<|Jv rfl<|ai bN rfl (fun w' aA=>(Na n h0 h1 w'))<|Ja rfl<|Jn<|Je<|JT ?_)
 rfl
theorem IN (n:Int):(nO n).size=1:=rfl
def yt (l:List ByteArray) (sep:ByteArray):ByteArray:=⟨(Lib.join (l.map (·.data.toList)) sep.data.toList).toArray⟩
theorem Qz {lv:Value} {l:List ByteArray} (sep:ByteArray) {w:World} (h:Rd w lv 1 (im l)) (hl:l.length≤1000) (hlen:(Lib.join (l.map (·.data.toList)) sep.data.toList).length≤140737488355328) :
  aj Tryz.prog 278 [lv,.string sep] w (.string (yt l sep)):=by
 obtain ⟨a,cap,b,o,rfl,dj,bV,ha,hc⟩:=h
 rw [bW] at *
 cases l with
 | nil=>exact Calls.mono (Tryz.strings_Join_none a cap sep w) fun e w' ⟨he,hw⟩=>⟨he,by rw [hw];exact .refl _ _⟩
 | cons x r =>
  have:=ha (by simp [im])
  subst this
  have aB:∀ (j:Nat) y,(x::r)[j]? = some y→w.cell? ⟨b,o+j,none⟩=some (.string y):=fun j y hj=>by
   have:=(hc j [.string y] (by unfold im;rw [ZF,hj];rfl)).2 0 _ rfl
   simpa using this
  refine Calls.mono (Calls.up (Tryz.strings_Join b o cap (x::r) sep w aB ?_ (by omega) dj hlen)) fun e w' ⟨he,hw,hd⟩=>⟨he,aJ.Iv hw hd⟩
  exact World.block_lt_of_cell? w _ (aB 0 x rfl)
theorem IM (l:List (List UInt8)) (sep:List UInt8) (n:Nat) (h:∀ x∈l,x.length≤n):(Lib.join l sep).length≤l.length*(n+sep.length):=by
 cases l with
 | nil=>simp [Lib.join]
 | cons x r =>
  have key:∀ (r:List (List UInt8)),(∀ y∈r,y.length≤n)→(Lib.joinTail sep r).length≤r.length*(n+sep.length):=by
   intro r
   induction r with
   | nil=>intro _;simp [Lib.joinTail]
   | cons y r ih =>
    intro hy
    have h1:=hy y (by simp)
    have h2:=ih fun z hz=>hy z (by simp [hz])
    simp only [Lib.joinTail,Z8,ZaC,Zg,ZL,Zaf] at h2 ⊢
    omega
  rw [Lib.join_cons,Zg,ZL,Zaf]
  have h1:=h x (by simp)
  have h2:=key r fun z hz=>h z (by simp [hz])
  omega
def OJ (l:List ByteArray):ByteArray:=yt l ⟨#[32]⟩++⟨#[10]⟩
theorem yr {l:List ByteArray} (h4:l.length≤4) (h:∀ x∈l,x.size≤24):(Lib.join (l.map (·.data.toList)) [32]).length≤100:=by
 have:=IM (l.map (·.data.toList)) [32] 24 (by
  intro x hx
  obtain ⟨y,hy,rfl⟩:=Zt.1 hx
  have:=h y hy
  rw [ZaO];exact this)
 rw [Zd] at this
 have h2:([32]:List UInt8).length=1:=rfl
 rw [h2] at this
 omega
theorem vk {l:List ByteArray} (h4:l.length≤4) (h:∀ x∈l,x.size≤24):(yt l ⟨#[32]⟩).size≤100:=by
 have:=yr h4 h
 unfold yt
 show Array.size _≤100
 rw [Zbm];exact this
theorem gE {l:List ByteArray} (h4:l.length≤4) (h:∀ x∈l,x.size≤24):(OJ l).size≤101:=by
 have:=vk h4 h
 unfold OJ
 rw [ByteArray.size_append]
 have:ByteArray.size ⟨#[10]⟩=1:=rfl
 omega
theorem ss {v:Value} {l:List ByteArray} {w:World} (h:Rd w v 1 (im l)) (h4:l.length≤4) (hs:∀ x∈l,x.size≤24):aj Tryz.prog 192 [v] w (.string (OJ l)):=by
 have hj:∀ w',aJ [] w w'→aj Tryz.prog 278 [v,.string ⟨#[32]⟩] w' (.string (yt l ⟨#[32]⟩)):=fun w' hk=>Qz (l:=l) ⟨#[32]⟩ (h.keeps hk) (by omega) (ZX (yr h4 hs) (by decide))
 have hz:=vk h4 hs
 have h1:ByteArray.size ⟨#[10]⟩=1:=rfl
 have hb:(yt l ⟨#[32]⟩).size+ByteArray.size ⟨#[10]⟩≤9223372036854775807:=by omega
 refine ah Tryz.func192 rfl rfl ?_
 (refine Jr<|Ja rfl<|Ji<|Jv rfl<|ai bj rfl (fun w' aA=>(hj w' (Mem.keeps aA)))<|ab (se (.of rfl) (.of rfl) hb) rfl<|Ja rfl<|Jn<|Je<|JT ?_)
 rfl
def D1:List Value:=[.string ⟨#[114,111,117,116,101,114]⟩,.func (.func 271) #[] #[],.string ⟨#[115,111,117,114,99,101]⟩,.func (.func 273) #[] #[],.string ⟨#[100,101,115,116,105,110,97,116,105,111,110]⟩,.func (.func 275) #[] #[],.string ⟨#[116,105,101]⟩,.func (.func 276) #[] #[],.string ⟨#[112,111,105,110,116]⟩,.func (.func 277) #[] #[]]
theorem NM (w:World):aj Tryz.prog 191 [] w (.agg D1.toArray):=by
 unfold D1
 refine ah Tryz.func191 rfl rfl ?_
 (refine Jr<|Jz rfl rfl fun _ _=>Ji<|ab (aU (.cons (.of rfl) (.cons (.of rfl) .nil)) ak) rfl<|ab (aU (.cons (.of rfl) (.cons (.of rfl) .nil)) ak) rfl<|ab (aU (.cons (.of rfl) (.cons (.of rfl) .nil)) ak) rfl<|ab (aU (.cons (.of rfl) (.cons (.of rfl) .nil)) ak) rfl<|ab (aU (.cons (.of rfl) (.cons (.of rfl) .nil)) ak) rfl<|ab (aU (.cons (.of rfl) (.cons (.of rfl) (.cons (.of rfl) (.cons (.of rfl) (.cons (.of rfl) .nil))))) ak) rfl<|aq (.of rfl) (.of rfl) .here rfl rfl (bM rfl (bM rfl (Vn rfl rfl rfl rfl rfl rfl rfl rfl))) (bG rfl) ak<|Jn<|Je<|oW rfl (kR rfl inferInstance rfl .here ak (by rfl)) ?_)
 rfl
def wR:ByteArray:=⟨#[114,111,117,116,101,114]⟩
def wS:ByteArray:=⟨#[115,111,117,114,99,101]⟩
def wD:ByteArray:=⟨#[100,101,115,116,105,110,97,116,105,111,110]⟩
def wT:ByteArray:=⟨#[116,105,101]⟩
def wP:ByteArray:=⟨#[112,111,105,110,116]⟩
def He:ByteArray:=⟨#[102,114,101,101]⟩
def Hd:ByteArray:=⟨#[112,114,111,116,101,99,116,101,100]⟩
def Vu (r:Ro):ByteArray:=OJ [wR,nO r.lv,nO r.ma]
def M8 (x:Sr):ByteArray:=OJ [wS,x.nm,nO x.mx]
def YN (b:Bool):ByteArray:=if b=true then Hd else He
def Lt (x:De):ByteArray:=OJ [wD,x.nm,nO x.mx,YN x.pr]
def M7 (x:Ti):ByteArray:=OJ [wT,x.nm,nO x.fr,nO x.to]
def SA (x:Po):ByteArray:=OJ [wP,nO x.lv,x.ou,x.ip]
def mM (a:ByteArray) (l:List ByteArray):ByteArray:=l.foldl (fun a b=>a++b) a
theorem pj {a:ByteArray} {α:Type} {f:α→ByteArray} {l:List α} {k:Nat} (h:k<l.length):mM a ((l.take (k+1)).map f)=mM a ((l.take k).map f)++f l[k]:=by
 unfold mM
 rw [Zn h,Zs,List.foldl_append];rfl
theorem mL {n:Nat}:∀ {l:List ByteArray} {a:ByteArray},(∀ x∈l,x.size≤n)→(mM a l).size≤a.size+n*l.length
 | [],a,_=>Zz _
 | x :: l, a, h => by
  have:=mL (l:=l) (a:=a++x) fun y hy=>h y (ZW _ hy)
  rw [ByteArray.size_append] at this
  have h1:=h x Zq
  show (mM (a++x) l).size≤_
  rw [ZL,Nat.mul_succ]
  omega
theorem pn {n:Nat} {a:ByteArray} {α:Type} {f:α→ByteArray} {l:List α} {k:Nat} (hn:∀ x∈l,(f x).size≤n):(mM a ((l.take k).map f)).size≤a.size+n*l.length:=by
 have:=mL (n:=n) (a:=a) (l:=(l.take k).map f) (by
  intro x hx
  obtain ⟨y,hy,rfl⟩:=Zt.1 hx
  exact hn y (Zbn hy))
 rw [Zd,Zr] at this
 have:n*min k l.length≤n*l.length:=Zbq _ (Nat.min_le_right _ _)
 omega
def Wp (r:Ro):ByteArray:=mM (mM (mM (mM (Vu r) (r.sr.map M8)) (r.de.map Lt)) (r.ti.map M7)) (r.po.map SA)
def H7 (r:Ro):ByteArray:=if fX r=0 then Wp r else ⟨#[]⟩
theorem MX {s:ByteArray} (h:j6 s=true):s.size≤24:=by
 unfold j6 at h
 simp only [Zm,decide_eq_true_eq] at h
 exact h.1.1.2
structure Prn (r:Ro):Prop where
 n0:(0≤r.lv∧r.lv≤9)∧0≤r.ma∧r.ma≤9
 sr:∀ x∈r.sr,x.nm.size≤24∧0≤x.mx∧x.mx≤9
 de:∀ x∈r.de,x.nm.size≤24∧0≤x.mx∧x.mx≤9
 ti:∀ x∈r.ti,x.nm.size≤24∧(0≤x.fr∧x.fr≤9)∧0≤x.to∧x.to≤9
 po:∀ x∈r.po,(x.ou.size≤24∧x.ip.size≤24)∧0≤x.lv∧x.lv≤9
 len:(r.sr.length≤8∧r.de.length≤8∧r.ti.length≤6)∧r.po.length≤42
theorem prn {r:Ro} (h:fX r=0):Prn r:=by
 have ho:=CM h
 have hp:=prt (sL h).2.1
 have hl:=ho.lim
 have na:∀ s∈ef r,s.size≤24:=fun s hs=>MX (hp.nm s hs)
 have n1:∀ s∈cF r,s.size≤24:=fun s hs=>na s (ZE _ (ZE _ hs))
 have n2:∀ s∈cq r,s.size≤24:=fun s hs=>na s (ZE _ (ZT _ hs))
 have n3:∀ s∈cM r,s.size≤24:=fun s hs=>na s (ZT _ hs)
 refine ⟨by omega,fun x hx=>?_,fun x hx=>?_,fun x hx=>?_,fun x hx=>?_,hp.len,mU ho ho.val⟩
 ·have:=ho.sm x hx
  exact ⟨n1 _ (Z3 hx),by omega,by omega⟩
 ·have:=ho.dm x hx
  exact ⟨n2 _ (Z3 hx),by omega,by omega⟩
 ·have:=ho.tm x hx
  exact ⟨n3 _ (Z3 hx),by omega,by omega⟩
 ·have:=ho.val.II x hx
  exact ⟨⟨(ho.val.out x hx).elim (n2 _) (n3 _),(ho.val.vo x hx).elim (n1 _) (n3 _)⟩,by omega,by omega⟩
theorem sq {a b c:ByteArray} (ha:a.size≤24) (hb:b.size≤24) (hc:c.size≤24):∀ x∈[a,b,c],x.size≤24:=by
 intro x hx
 simp only [ZS,Zp,or_false] at hx
 rcases hx with rfl | rfl | rfl <;> assumption
theorem jj {a b c d:ByteArray} (ha:a.size≤24) (hb:b.size≤24) (hc:c.size≤24) (hd:d.size≤24):∀ x∈[a,b,c,d],x.size≤24:=by
 intro x hx
 simp only [ZS,Zp,or_false] at hx
 rcases hx with rfl | rfl | rfl | rfl <;> assumption
theorem fc (n:Int):(nO n).size≤24:=by rw [IN];decide
theorem Dg (b:Bool):(YN b).size≤24:=by cases b <;> decide
theorem Oo {r:Ro} {s d t p:Value} {w:World} (h:RR w r s d t p) (cT:lD r):aj Tryz.prog 85 [RA r s d t p] w (.tuple #[.string (H7 r),.int .i64 (fX r)]):=by
 have h1:=Rd.one h.sr
 have h2:=Rd.one h.de
 have h3:=Rd.one h.ti
 have h4:=Rd.one h.po
 have eQ:∀ w',aJ [] w w'→aj Tryz.prog 34 [.agg #[.int .i64 r.lv,.int .i64 r.ma,s,d,t,p]] w' (.int .i64 (fX r)):=fun w' hk=>eH (h.keeps hk) cT
 have Gv:=h.sr
 have GD:=h.de
 have B0:=h.ti
 have JM:=h.po
 obtain ⟨a1,er,Pt,OG,rfl,pM,jf,lW,kF⟩:=Gv
 obtain ⟨a2,dA,Ps,OF,rfl,kE,fk,jD,jS⟩:=GD
 obtain ⟨a3,ee,KU,Ik,rfl,nD,gG,tM,ql⟩:=B0
 obtain ⟨a4,gi,Vd,Qk,rfl,yD,mG,G4,Ac⟩:=JM
 rw [cO] at *
 rw [cn] at *
 rw [cd] at *
 rw [c6] at *
 unfold maxLen at jf fk gG mG
 unfold RA
 refine ah Tryz.func85 rfl rfl ?_
 (refine Jr<|Jy rfl rfl fun _ _=>Ja rfl<|Ja rfl<|Jn<|Jq<|Jr<|ab (cR .here) rfl<|ai bN rfl (fun w' aA=>(eQ w' (Mem.keeps aA)))<|Ja rfl<|Ji<|Jv rfl<|JD rfl<|Jn<|gm rfl (fun az=>?_) fun az=>?_;refine Jr<|Jv rfl<|Ja rfl<|Ja rfl<|Jn<|Ju<|oW rfl (fV rfl rfl rfl) ?_;rotate_left;refine Jk<|Jr<|ai lC rfl (fun w' aA=>(NM w'))<|Jz rfl rfl fun _ _=>aq (.of rfl) (.of rfl) .here rfl rfl (bM rfl (bM rfl (Vn rfl rfl rfl rfl rfl rfl rfl rfl))) (bG rfl) ak<|Jn<|Jq ?_;rotate_right)
 ·unfold H7;rw [if_neg az]
 have h0:fX r=0:=Zo.1 az
 have hN:=prn h0
 have e0:H7 r=Wp r:=if_pos h0
 rw [e0,h0]
 unfold D1
 skip
 try simp only [setCells,List.set_cons_zero,List.set_cons_succ]
 have q1:=hN.n0
 with_reducible refine dL 12 (by kernel_rfl) ?_
 (refine an (fun β=>(gH (.of rfl) (.of rfl) (by omega) (by omega) bb)) bz rfl<|an (fun β=>(au (.of rfl) ae)) bz rfl<|an (fun β=>(ag (.of rfl) (At.lit .here rfl))) bz rfl<|an (fun β=>(au (.of rfl) ae)) bz rfl<|an (fun β=>(ag (.of rfl) (At.lit (.there .here) rfl))) bz rfl ?_)
 dsimp only [Nat.zero_add,Nat.reduceAdd]
 with_reducible apply dd (B:=[]) (F:=fun _=>.string (nO r.lv)) (args:=fun _=>[.int .i64 r.lv])
 case hB=>rfl
 case hr=>exact fun β=>aZ (.of rfl) (.cons (.of rfl) .nil) inferInstance rfl
 case hi=>exact bz
 case hd=>rfl
 case hc=>exact fun β w' dz=>oD _ (by omega) (by omega) _
 dsimp only [Nat.reduceAdd]
 (refine an (fun β=>(au (.of rfl) ae)) bz rfl<|an (fun β=>(ag (.of rfl) (At.lit (.there .here) rfl))) bz rfl ?_)
 dsimp only [Nat.zero_add,Nat.reduceAdd]
 with_reducible apply dd (B:=[]) (F:=fun _=>.string (nO r.ma)) (args:=fun _=>[.int .i64 r.ma])
 case hB=>rfl
 case hr=>exact fun β=>aZ (.of rfl) (.cons (.of rfl) .nil) inferInstance rfl
 case hi=>exact bz
 case hd=>rfl
 case hc=>exact fun β w' dz=>oD _ (by omega) (by omega) _
 dsimp only [Nat.reduceAdd]
 skip
 refine kA (fun β=>(aC (.cons (.of rfl) (.cons (.of rfl) (.cons (.of rfl) .nil))) rfl rfl rfl rfl)) (fun _ _ _=>rfl) rfl ?_
 dsimp only [Nat.zero_add,Nat.reduceAdd]
 with_reducible apply dd (B:=[9]) (F:=fun _=>.string (Vu r)) (args:=fun β=>[.slice (some ⟨fm (β 9),0,none⟩) 3 3])
 case hB=>kernel_rfl
 case hr=>exact fun β=>aZ (.of rfl) (.cons (.of rfl) .nil) inferInstance rfl
 case hi=>exact bz
 case hd=>rfl
 case hc=>
  intro β w' dz
  have mK:=dz.at 9 Zq (s:=⟨fun β=>.slice (some ⟨fm (β 9),0,none⟩) 3 3,fun β=>[bH (fm (β 9)) (.cells #[.string wR,.string (nO r.lv),.string (nO r.ma)] 9)]⟩) (by kernel_rfl)
  dsimp only [Zb,Za] at mK
  exact ss (l:=[wR,nO r.lv,nO r.ma]) (Mem.dw mK (by exact .here) rfl rfl) (by simp) (sq (by decide) (fc _) (fc _))
 dsimp only [Nat.reduceAdd]
 refine an (fun β=>(cB (.of rfl))) bz rfl ?_
 refine fh fun β=>?_
 dsimp only [ei,Za,Zb,List.append_eq,Nat.reduceAdd]
 with_reducible refine cH (by kernel_rfl) ?_
 (refine Jt<|Jq<|Jr<|bS rfl rfl ae<|JL rfl bL rfl<|JI rfl<|Jv rfl<|Jn<|J0 ?_)
 rename_i b1 tw b5 ND
 generalize fm (β 9)=b9
 clear β
 have hA:(Vu r).size≤101:=gE (by simp) (sq (by decide) (fc _) (fc _))
 unfold Wp
 generalize Vu r=A at hA ⊢
 refine aW (ι:=Nat×ByteArray) (fun y=>y.1≤r.sr.length∧y.2=mM A ((r.sr.take y.1).map M8)) (fun y=>[(36,.int .i64 (y.1:Nat)),(35,.int .i64 r.sr.length),(34,.slice a1 r.sr.length er),(6,.string y.2),(5,.pointer (some ⟨b5,0,none⟩)),(1,.pointer (some ⟨b1,0,none⟩))]) (fun _=>[bH b5 (.cells #[.string ⟨#[114,111,117,116,101,114]⟩,.func (.func 271) #[] #[],.string ⟨#[115,111,117,114,99,101]⟩,.func (.func 273) #[] #[],.string ⟨#[100,101,115,116,105,110,97,116,105,111,110]⟩,.func (.func 275) #[] #[],.string ⟨#[116,105,101]⟩,.func (.func 276) #[] #[],.string ⟨#[112,111,105,110,116]⟩,.func (.func 277) #[] #[]] 265 (0,0)),JP b1 r (.slice a1 r.sr.length er) (.slice a2 r.de.length dA) (.slice a3 r.ti.length ee) (.slice a4 r.po.length gi)]) (fun y=>r.sr.length-y.1) ?_ ?_
 ·apply aI (0,A) ⟨Zi _,rfl⟩
  case hs1=>exact cg
  case ht=>
   exact .cons (.there .here) (.cons (.there .here) .nil)
 rintro ⟨k,S⟩ ⟨hk,hS⟩
 dsimp only at hk hS ⊢
 by_cases aM:k<r.sr.length
 ·have cG:=lW (iM aM)
  have aB:=(kF k _ (fN aM)).2
  have hx:=hN.sr _ (Zj aM)
  have j9:=pj (a:=A) (f:=M8) aM
  rw [← hS] at j9
  unfold Sr.cells at aB
  generalize r.sr[k]=x at aB hx j9
  have hz:(M8 x).size≤101:=gE (by simp) (sq (by decide) hx.1 (fc _))
  have RE:S.size≤A.size+101*r.sr.length:=by rw [hS];exact pn fun y hy=>gE (by simp) (sq (by decide) (hN.sr y hy).1 (fc _))
  have Ug:=hN.len
  have hb:S.size+(M8 x).size≤9223372036854775807:=by omega
  (refine Jr<|JA rfl<|Jn<|Jq<|Jd rfl fun az=>Jk<|Jq<|J0<|Jr<|ab (fM cG az) rfl<|ab (gW (ew.base aB rfl)) rfl<|Jz rfl rfl fun _ _=>aq (.of rfl) (.of rfl) .here rfl rfl (fY rfl rfl) (bG rfl) ak<|Jn ?_)
  with_reducible refine dL 13 (by kernel_rfl) ?_
  (refine an (fun β=>(aN (.of rfl))) bz rfl<|an (fun β=>(gH (.of rfl) (.of rfl) (by omega) (by omega) bb)) bz rfl<|an (fun β=>(au (.of rfl) ae)) bz rfl<|an (fun β=>(ag (.of rfl) (At.lit (.there .here) rfl))) bz rfl<|an (fun β=>(au (.of rfl) ae)) bz rfl<|an (fun β=>(ag (.of rfl) (At.lit .here rfl))) bz rfl<|an (fun β=>(au (.of rfl) ae)) bz rfl<|an (fun β=>(ag (.of rfl) (At.lit .here rfl))) bz rfl ?_)
  dsimp only [Nat.zero_add,Nat.reduceAdd]
  with_reducible apply dd (B:=[]) (F:=fun _=>.string (nO x.mx)) (args:=fun _=>[.int .i64 x.mx])
  case hB=>rfl
  case hr=>exact fun β=>aZ (.of rfl) (.cons (.of rfl) .nil) inferInstance rfl
  case hi=>exact bz
  case hd=>rfl
  case hc=>exact fun β w' dz=>oD _ (by omega) (by omega) _
  dsimp only [Nat.reduceAdd]
  skip
  refine kA (fun β=>(aC (.cons (.of rfl) (.cons (.of rfl) (.cons (.of rfl) .nil))) rfl rfl rfl rfl)) (fun _ _ _=>rfl) rfl ?_
  dsimp only [Nat.zero_add,Nat.reduceAdd]
  with_reducible apply dd (B:=[9]) (F:=fun _=>.string (M8 x)) (args:=fun β=>[.slice (some ⟨fm (β 9),0,none⟩) 3 3])
  case hB=>kernel_rfl
  case hr=>exact fun β=>aZ (.of rfl) (.cons (.of rfl) .nil) inferInstance rfl
  case hi=>exact bz
  case hd=>rfl
  case hc=>
   intro β w' dz
   have mK:=dz.at 9 Zq (s:=⟨fun β=>.slice (some ⟨fm (β 9),0,none⟩) 3 3,fun β=>[bH (fm (β 9)) (.cells #[.string wS,.string x.nm,.string (nO x.mx)] 9)]⟩) (by kernel_rfl)
   dsimp only [Zb,Za] at mK
   exact ss (l:=[wS,x.nm,nO x.mx]) (Mem.dw mK (by exact .here) rfl rfl) (by simp) (sq (by decide) hx.1 (fc _))
  dsimp only [Nat.reduceAdd]
  (refine an (fun β=>(se (.of rfl) (.of rfl) hb)) bz rfl<|an (fun β=>(cB (.of rfl))) bz rfl ?_)
  refine fh fun β=>?_
  dsimp only [ei,Za,Zb,List.append_eq,Nat.reduceAdd]
  with_reducible refine cH (by kernel_rfl) ?_
  refine Jj<|Jt<|Jg<|JB rfl (by omega)<|Jv rfl<|Jn ?_
  apply aK (k+1,_) (show _∧_ from ⟨by omega,j9.symm⟩) (show r.sr.length-(k+1)<r.sr.length-k by omega)
  case hs1=>exact cg
  case ht=>
   exact .cons bL (.cons bL .nil)
 obtain rfl:k=r.sr.length:=by omega
 rw [ZN] at hS
 subst hS
 have hA:(mM A (r.sr.map M8)).size≤909:=by
  have:=mL (n:=101) (a:=A) (l:=r.sr.map M8) (by
   intro x hx
   obtain ⟨y,hy,rfl⟩:=Zt.1 hx
   exact gE (by simp) (sq (by decide) (hN.sr y hy).1 (fc _)))
  rw [Zd] at this
  have:=hN.len
  omega
 generalize mM A (r.sr.map M8)=A at hA ⊢
 clear aM hk
 (refine Jr<|JA rfl<|Jn<|Jq<|Jc rfl fun az=>Jp<|Jl<|Jo<|Jt<|Jq<|Jr<|bS rfl rfl ae<|JL rfl (.there .here) rfl<|JI rfl<|Jv rfl<|Jn<|J0 ?_)
 refine aW (ι:=Nat×ByteArray) (fun y=>y.1≤r.de.length∧y.2=mM A ((r.de.take y.1).map Lt)) (fun y=>[(56,.int .i64 (y.1:Nat)),(55,.int .i64 r.de.length),(54,.slice a2 r.de.length dA),(6,.string y.2),(5,.pointer (some ⟨b5,0,none⟩)),(1,.pointer (some ⟨b1,0,none⟩))]) (fun _=>[bH b5 (.cells #[.string ⟨#[114,111,117,116,101,114]⟩,.func (.func 271) #[] #[],.string ⟨#[115,111,117,114,99,101]⟩,.func (.func 273) #[] #[],.string ⟨#[100,101,115,116,105,110,97,116,105,111,110]⟩,.func (.func 275) #[] #[],.string ⟨#[116,105,101]⟩,.func (.func 276) #[] #[],.string ⟨#[112,111,105,110,116]⟩,.func (.func 277) #[] #[]] 265 (0,0)),JP b1 r (.slice a1 r.sr.length er) (.slice a2 r.de.length dA) (.slice a3 r.ti.length ee) (.slice a4 r.po.length gi)]) (fun y=>r.de.length-y.1) ?_ ?_
 ·apply aI (0,A) ⟨Zi _,rfl⟩
  case hs1=>exact cg
  case ht=>
   exact .cons .here (.cons .here .nil)
 rintro ⟨k,S⟩ ⟨hk,hS⟩
 dsimp only at hk hS ⊢
 by_cases aM:k<r.de.length
 ·have cG:=jD (fW aM)
  have aB:=(jS k _ (eR aM)).2
  have hx:=hN.de _ (Zj aM)
  have j9:=pj (a:=A) (f:=Lt) aM
  rw [← hS] at j9
  unfold De.cells at aB
  generalize r.de[k]=x at aB hx j9
  have hz:(Lt x).size≤101:=gE (by simp) (jj (by decide) hx.1 (fc _) (Dg _))
  have RE:S.size≤A.size+101*r.de.length:=by rw [hS];exact pn fun y hy=>gE (by simp) (jj (by decide) (hN.de y hy).1 (fc _) (Dg _))
  have Ug:=hN.len
  have hb:S.size+(Lt x).size≤9223372036854775807:=by omega
  clear hz RE Ug
  obtain ⟨xn,xm,xp⟩:=x
  dsimp only at aB hx j9 hb ⊢
  cases xp
  ·(refine Jr<|JA rfl<|Jn<|Jq<|Jd rfl fun az=>Jk<|Jq<|J0<|Jr<|ab (fM cG az) rfl<|ab (gW (ew.base aB rfl)) rfl<|Jz rfl rfl fun _ _=>aq (.of rfl) (.of rfl) .here rfl rfl (fo rfl rfl rfl) (bG rfl) ak<|Ji<|Ja rfl<|Jn<|Jq<|Jr<|bS rfl rfl ae<|JL rfl .here rfl<|Jn<|bK (.of rfl)<|Jk ?_)
   with_reducible refine dL 14 (by kernel_rfl) ?_
   (refine an (fun β=>(aN (.of rfl))) bz rfl<|an (fun β=>(gH (.of rfl) (.of rfl) (by omega) (by omega) bb)) bz rfl<|an (fun β=>(au (.of rfl) ae)) bz rfl<|an (fun β=>(ag (.of rfl) (At.lit (.there .here) rfl))) bz rfl<|an (fun β=>(au (.of rfl) ae)) bz rfl<|an (fun β=>(ag (.of rfl) (At.lit .here rfl))) bz rfl<|an (fun β=>(au (.of rfl) ae)) bz rfl<|an (fun β=>(ag (.of rfl) (At.lit .here rfl))) bz rfl ?_)
   dsimp only [Nat.zero_add,Nat.reduceAdd]
   with_reducible apply dd (B:=[]) (F:=fun _=>.string (nO xm)) (args:=fun _=>[.int .i64 xm])
   case hB=>rfl
   case hr=>exact fun β=>aZ (.of rfl) (.cons (.of rfl) .nil) inferInstance rfl
   case hi=>exact bz
   case hd=>rfl
   case hc=>exact fun β w' dz=>oD _ (by omega) (by omega) _
   dsimp only [Nat.reduceAdd]
   refine an (fun β=>(aN (.of rfl))) bz rfl ?_
   refine kA (fun β=>(aC (.cons (.of rfl) (.cons (.of rfl) (.cons (.of rfl) (.cons (.of rfl) .nil)))) rfl rfl rfl rfl)) (fun _ _ _=>rfl) rfl ?_
   dsimp only [Nat.zero_add,Nat.reduceAdd]
   with_reducible apply dd (B:=[10]) (F:=fun _=>.string (Lt ⟨xn,xm,false⟩)) (args:=fun β=>[.slice (some ⟨fm (β 10),0,none⟩) 4 4])
   case hB=>kernel_rfl
   case hr=>exact fun β=>aZ (.of rfl) (.cons (.of rfl) .nil) inferInstance rfl
   case hi=>exact bz
   case hd=>rfl
   case hc=>
    intro β w' dz
    have mK:=dz.at 10 Zq (s:=⟨fun β=>.slice (some ⟨fm (β 10),0,none⟩) 4 4,fun β=>[bH (fm (β 10)) (.cells #[.string wD,.string xn,.string (nO xm),.string He] 9)]⟩) (by kernel_rfl)
    dsimp only [Zb,Za] at mK
    exact ss (l:=[wD,xn,nO xm,He]) (Mem.dw mK (by exact .here) rfl rfl) (by simp) (jj (by decide) hx.1 (fc _) (by decide))
   dsimp only [Nat.reduceAdd]
   (refine an (fun β=>(se (.of rfl) (.of rfl) hb)) bz rfl<|an (fun β=>(cB (.of rfl))) bz rfl ?_)
   refine fh fun β=>?_
   dsimp only [ei,Za,Zb,List.append_eq,Nat.reduceAdd]
   with_reducible refine cH (by kernel_rfl) ?_
   refine Jj<|Jt<|Jg<|JB rfl (by omega)<|Jv rfl<|Jn ?_
   apply aK (k+1,_) (show _∧_ from ⟨by omega,j9.symm⟩) (show r.de.length-(k+1)<r.de.length-k by omega)
   case hs1=>exact cg
   case ht=>
    exact .cons bL (.cons bL .nil)
  ·(refine Jr<|JA rfl<|Jn<|Jq<|Jd rfl fun az=>Jk<|Jq<|J0<|Jr<|ab (fM cG az) rfl<|ab (gW (ew.base aB rfl)) rfl<|Jz rfl rfl fun _ _=>aq (.of rfl) (.of rfl) .here rfl rfl (fo rfl rfl rfl) (bG rfl) ak<|Ji<|Ja rfl<|Jn<|Jq<|Jr<|bS rfl rfl ae<|JL rfl .here rfl<|Jn<|cP (.of rfl)<|Jg<|Ja rfl<|Jn ?_)
   with_reducible refine dL 14 (by kernel_rfl) ?_
   (refine an (fun β=>(aN (.of rfl))) bz rfl<|an (fun β=>(gH (.of rfl) (.of rfl) (by omega) (by omega) bb)) bz rfl<|an (fun β=>(au (.of rfl) ae)) bz rfl<|an (fun β=>(ag (.of rfl) (At.lit (.there .here) rfl))) bz rfl<|an (fun β=>(au (.of rfl) ae)) bz rfl<|an (fun β=>(ag (.of rfl) (At.lit .here rfl))) bz rfl<|an (fun β=>(au (.of rfl) ae)) bz rfl<|an (fun β=>(ag (.of rfl) (At.lit .here rfl))) bz rfl ?_)
   dsimp only [Nat.zero_add,Nat.reduceAdd]
   with_reducible apply dd (B:=[]) (F:=fun _=>.string (nO xm)) (args:=fun _=>[.int .i64 xm])
   case hB=>rfl
   case hr=>exact fun β=>aZ (.of rfl) (.cons (.of rfl) .nil) inferInstance rfl
   case hi=>exact bz
   case hd=>rfl
   case hc=>exact fun β w' dz=>oD _ (by omega) (by omega) _
   dsimp only [Nat.reduceAdd]
   refine an (fun β=>(aN (.of rfl))) bz rfl ?_
   refine kA (fun β=>(aC (.cons (.of rfl) (.cons (.of rfl) (.cons (.of rfl) (.cons (.of rfl) .nil)))) rfl rfl rfl rfl)) (fun _ _ _=>rfl) rfl ?_
   dsimp only [Nat.zero_add,Nat.reduceAdd]
   with_reducible apply dd (B:=[10]) (F:=fun _=>.string (Lt ⟨xn,xm,true⟩)) (args:=fun β=>[.slice (some ⟨fm (β 10),0,none⟩) 4 4])
   case hB=>kernel_rfl
   case hr=>exact fun β=>aZ (.of rfl) (.cons (.of rfl) .nil) inferInstance rfl
   case hi=>exact bz
   case hd=>rfl
   case hc=>
    intro β w' dz
    have mK:=dz.at 10 Zq (s:=⟨fun β=>.slice (some ⟨fm (β 10),0,none⟩) 4 4,fun β=>[bH (fm (β 10)) (.cells #[.string wD,.string xn,.string (nO xm),.string Hd] 9)]⟩) (by kernel_rfl)
    dsimp only [Zb,Za] at mK
    exact ss (l:=[wD,xn,nO xm,Hd]) (Mem.dw mK (by exact .here) rfl rfl) (by simp) (jj (by decide) hx.1 (fc _) (by decide))
   dsimp only [Nat.reduceAdd]
   (refine an (fun β=>(se (.of rfl) (.of rfl) hb)) bz rfl<|an (fun β=>(cB (.of rfl))) bz rfl ?_)
   refine fh fun β=>?_
   dsimp only [ei,Za,Zb,List.append_eq,Nat.reduceAdd]
   with_reducible refine cH (by kernel_rfl) ?_
   refine Jj<|Jt<|Jg<|JB rfl (by omega)<|Jv rfl<|Jn ?_
   apply aK (k+1,_) (show _∧_ from ⟨by omega,j9.symm⟩) (show r.de.length-(k+1)<r.de.length-k by omega)
   case hs1=>exact cg
   case ht=>
    exact .cons bL (.cons bL .nil)
 obtain rfl:k=r.de.length:=by omega
 rw [ZN] at hS
 subst hS
 have hA:(mM A (r.de.map Lt)).size≤1717:=by
  have:=mL (n:=101) (a:=A) (l:=r.de.map Lt) (by
   intro x hx
   obtain ⟨y,hy,rfl⟩:=Zt.1 hx
   exact gE (by simp) (jj (by decide) (hN.de y hy).1 (fc _) (Dg _)))
  rw [Zd] at this
  have:=hN.len
  omega
 generalize mM A (r.de.map Lt)=A at hA ⊢
 clear aM hk
 (refine Jr<|JA rfl<|Jn<|Jq<|Jc rfl fun az=>Jp<|Jl<|Jo<|Jt<|Jq<|Jr<|bS rfl rfl ae<|JL rfl (.there .here) rfl<|JI rfl<|Jv rfl<|Jn<|J0 ?_)
 refine aW (ι:=Nat×ByteArray) (fun y=>y.1≤r.ti.length∧y.2=mM A ((r.ti.take y.1).map M7)) (fun y=>[(79,.int .i64 (y.1:Nat)),(78,.int .i64 r.ti.length),(77,.slice a3 r.ti.length ee),(6,.string y.2),(5,.pointer (some ⟨b5,0,none⟩)),(1,.pointer (some ⟨b1,0,none⟩))]) (fun _=>[bH b5 (.cells #[.string ⟨#[114,111,117,116,101,114]⟩,.func (.func 271) #[] #[],.string ⟨#[115,111,117,114,99,101]⟩,.func (.func 273) #[] #[],.string ⟨#[100,101,115,116,105,110,97,116,105,111,110]⟩,.func (.func 275) #[] #[],.string ⟨#[116,105,101]⟩,.func (.func 276) #[] #[],.string ⟨#[112,111,105,110,116]⟩,.func (.func 277) #[] #[]] 265 (0,0)),JP b1 r (.slice a1 r.sr.length er) (.slice a2 r.de.length dA) (.slice a3 r.ti.length ee) (.slice a4 r.po.length gi)]) (fun y=>r.ti.length-y.1) ?_ ?_
 ·apply aI (0,A) ⟨Zi _,rfl⟩
  case hs1=>exact cg
  case ht=>
   exact .cons .here (.cons .here .nil)
 rintro ⟨k,S⟩ ⟨hk,hS⟩
 dsimp only at hk hS ⊢
 by_cases aM:k<r.ti.length
 ·have cG:=tM (fw aM)
  have aB:=(ql k _ (eE aM)).2
  have hx:=hN.ti _ (Zj aM)
  have j9:=pj (a:=A) (f:=M7) aM
  rw [← hS] at j9
  unfold Ti.cells at aB
  generalize r.ti[k]=x at aB hx j9
  have hz:(M7 x).size≤101:=gE (by simp) (jj (by decide) hx.1 (fc _) (fc _))
  have RE:S.size≤A.size+101*r.ti.length:=by rw [hS];exact pn fun y hy=>gE (by simp) (jj (by decide) (hN.ti y hy).1 (fc _) (fc _))
  have Ug:=hN.len
  have hb:S.size+(M7 x).size≤9223372036854775807:=by omega
  (refine Jr<|JA rfl<|Jn<|Jq<|Jd rfl fun az=>Jk<|Jq<|J0<|Jr<|ab (fM cG az) rfl<|ab (gW (ew.base aB rfl)) rfl<|Jz rfl rfl fun _ _=>aq (.of rfl) (.of rfl) .here rfl rfl (fo rfl rfl rfl) (bG rfl) ak<|Jn ?_)
  with_reducible refine dL 16 (by kernel_rfl) ?_
  (refine an (fun β=>(aN (.of rfl))) bz rfl<|an (fun β=>(gH (.of rfl) (.of rfl) (by omega) (by omega) bb)) bz rfl<|an (fun β=>(au (.of rfl) ae)) bz rfl<|an (fun β=>(ag (.of rfl) (At.lit (.there .here) rfl))) bz rfl<|an (fun β=>(au (.of rfl) ae)) bz rfl<|an (fun β=>(ag (.of rfl) (At.lit .here rfl))) bz rfl<|an (fun β=>(au (.of rfl) ae)) bz rfl<|an (fun β=>(ag (.of rfl) (At.lit .here rfl))) bz rfl ?_)
  dsimp only [Nat.zero_add,Nat.reduceAdd]
  with_reducible apply dd (B:=[]) (F:=fun _=>.string (nO x.fr)) (args:=fun _=>[.int .i64 x.fr])
  case hB=>rfl
  case hr=>exact fun β=>aZ (.of rfl) (.cons (.of rfl) .nil) inferInstance rfl
  case hi=>exact bz
  case hd=>rfl
  case hc=>exact fun β w' dz=>oD _ (by omega) (by omega) _
  dsimp only [Nat.reduceAdd]
  (refine an (fun β=>(au (.of rfl) ae)) bz rfl<|an (fun β=>(ag (.of rfl) (At.lit .here rfl))) bz rfl ?_)
  dsimp only [Nat.zero_add,Nat.reduceAdd]
  with_reducible apply dd (B:=[]) (F:=fun _=>.string (nO x.to)) (args:=fun _=>[.int .i64 x.to])
  case hB=>rfl
  case hr=>exact fun β=>aZ (.of rfl) (.cons (.of rfl) .nil) inferInstance rfl
  case hi=>exact bz
  case hd=>rfl
  case hc=>exact fun β w' dz=>oD _ (by omega) (by omega) _
  dsimp only [Nat.reduceAdd]
  skip
  refine kA (fun β=>(aC (.cons (.of rfl) (.cons (.of rfl) (.cons (.of rfl) (.cons (.of rfl) .nil)))) rfl rfl rfl rfl)) (fun _ _ _=>rfl) rfl ?_
  dsimp only [Nat.zero_add,Nat.reduceAdd]
  with_reducible apply dd (B:=[12]) (F:=fun _=>.string (M7 x)) (args:=fun β=>[.slice (some ⟨fm (β 12),0,none⟩) 4 4])
  case hB=>kernel_rfl
  case hr=>exact fun β=>aZ (.of rfl) (.cons (.of rfl) .nil) inferInstance rfl
  case hi=>exact bz
  case hd=>rfl
  case hc=>
   intro β w' dz
   have mK:=dz.at 12 Zq (s:=⟨fun β=>.slice (some ⟨fm (β 12),0,none⟩) 4 4,fun β=>[bH (fm (β 12)) (.cells #[.string wT,.string x.nm,.string (nO x.fr),.string (nO x.to)] 9)]⟩) (by kernel_rfl)
   dsimp only [Zb,Za] at mK
   exact ss (l:=[wT,x.nm,nO x.fr,nO x.to]) (Mem.dw mK (by exact .here) rfl rfl) (by simp) (jj (by decide) hx.1 (fc _) (fc _))
  dsimp only [Nat.reduceAdd]
  (refine an (fun β=>(se (.of rfl) (.of rfl) hb)) bz rfl<|an (fun β=>(cB (.of rfl))) bz rfl ?_)
  refine fh fun β=>?_
  dsimp only [ei,Za,Zb,List.append_eq,Nat.reduceAdd]
  with_reducible refine cH (by kernel_rfl) ?_
  refine Jj<|Jt<|Jg<|JB rfl (by omega)<|Jv rfl<|Jn ?_
  apply aK (k+1,_) (show _∧_ from ⟨by omega,j9.symm⟩) (show r.ti.length-(k+1)<r.ti.length-k by omega)
  case hs1=>exact cg
  case ht=>
   exact .cons bL (.cons bL .nil)
 obtain rfl:k=r.ti.length:=by omega
 rw [ZN] at hS
 subst hS
 have hA:(mM A (r.ti.map M7)).size≤2323:=by
  have:=mL (n:=101) (a:=A) (l:=r.ti.map M7) (by
   intro x hx
   obtain ⟨y,hy,rfl⟩:=Zt.1 hx
   exact gE (by simp) (jj (by decide) (hN.ti y hy).1 (fc _) (fc _)))
  rw [Zd] at this
  have:=hN.len
  omega
 generalize mM A (r.ti.map M7)=A at hA ⊢
 clear aM hk
 (refine Jr<|JA rfl<|Jn<|Jq<|Jc rfl fun az=>Jp<|Jl<|Jo<|Jt<|Jq<|Jr<|bS rfl rfl ae<|JL rfl (.there .here) rfl<|JI rfl<|Jv rfl<|Jn<|J0 ?_)
 refine aW (ι:=Nat×ByteArray) (fun y=>y.1≤r.po.length∧y.2=mM A ((r.po.take y.1).map SA)) (fun y=>[(102,.int .i64 (y.1:Nat)),(101,.int .i64 r.po.length),(100,.slice a4 r.po.length gi),(6,.string y.2),(5,.pointer (some ⟨b5,0,none⟩)),(1,.pointer (some ⟨b1,0,none⟩))]) (fun _=>[bH b5 (.cells #[.string ⟨#[114,111,117,116,101,114]⟩,.func (.func 271) #[] #[],.string ⟨#[115,111,117,114,99,101]⟩,.func (.func 273) #[] #[],.string ⟨#[100,101,115,116,105,110,97,116,105,111,110]⟩,.func (.func 275) #[] #[],.string ⟨#[116,105,101]⟩,.func (.func 276) #[] #[],.string ⟨#[112,111,105,110,116]⟩,.func (.func 277) #[] #[]] 265 (0,0)),JP b1 r (.slice a1 r.sr.length er) (.slice a2 r.de.length dA) (.slice a3 r.ti.length ee) (.slice a4 r.po.length gi)]) (fun y=>r.po.length-y.1) ?_ ?_
 ·apply aI (0,A) ⟨Zi _,rfl⟩
  case hs1=>exact cg
  case ht=>
   exact .cons .here (.cons .here .nil)
 rintro ⟨k,S⟩ ⟨hk,hS⟩
 dsimp only at hk hS ⊢
 by_cases aM:k<r.po.length
 ·have cG:=G4 (ko aM)
  have aB:=(Ac k _ (iy aM)).2
  have hx:=hN.po _ (Zj aM)
  have j9:=pj (a:=A) (f:=SA) aM
  rw [← hS] at j9
  unfold Po.cells at aB
  generalize r.po[k]=x at aB hx j9
  have hz:(SA x).size≤101:=gE (by simp) (jj (by decide) (fc _) hx.1.1 hx.1.2)
  have RE:S.size≤A.size+101*r.po.length:=by rw [hS];exact pn fun y hy=>gE (by simp) (jj (by decide) (fc _) (hN.po y hy).1.1 (hN.po y hy).1.2)
  have Ug:=hN.len
  have hb:S.size+(SA x).size≤9223372036854775807:=by omega
  (refine Jr<|JA rfl<|Jn<|Jq<|Jd rfl fun az=>Jk<|Jq<|J0<|Jr<|ab (fM cG az) rfl<|ab (gW (ew.base aB rfl)) rfl<|Jz rfl rfl fun _ _=>aq (.of rfl) (.of rfl) .here rfl rfl (fo rfl rfl rfl) (bG rfl) ak<|Jn ?_)
  with_reducible refine dL 15 (by kernel_rfl) ?_
  (refine an (fun β=>(aN (.of rfl))) bz rfl<|an (fun β=>(gH (.of rfl) (.of rfl) (by omega) (by omega) bb)) bz rfl<|an (fun β=>(au (.of rfl) ae)) bz rfl<|an (fun β=>(ag (.of rfl) (At.lit (.there .here) rfl))) bz rfl<|an (fun β=>(au (.of rfl) ae)) bz rfl<|an (fun β=>(ag (.of rfl) (At.lit .here rfl))) bz rfl ?_)
  dsimp only [Nat.zero_add,Nat.reduceAdd]
  with_reducible apply dd (B:=[]) (F:=fun _=>.string (nO x.lv)) (args:=fun _=>[.int .i64 x.lv])
  case hB=>rfl
  case hr=>exact fun β=>aZ (.of rfl) (.cons (.of rfl) .nil) inferInstance rfl
  case hi=>exact bz
  case hd=>rfl
  case hc=>exact fun β w' dz=>oD _ (by omega) (by omega) _
  dsimp only [Nat.reduceAdd]
  (refine an (fun β=>(au (.of rfl) ae)) bz rfl<|an (fun β=>(ag (.of rfl) (At.lit .here rfl))) bz rfl<|an (fun β=>(au (.of rfl) ae)) bz rfl<|an (fun β=>(ag (.of rfl) (At.lit .here rfl))) bz rfl ?_)
  refine kA (fun β=>(aC (.cons (.of rfl) (.cons (.of rfl) (.cons (.of rfl) (.cons (.of rfl) .nil)))) rfl rfl rfl rfl)) (fun _ _ _=>rfl) rfl ?_
  dsimp only [Nat.zero_add,Nat.reduceAdd]
  with_reducible apply dd (B:=[11]) (F:=fun _=>.string (SA x)) (args:=fun β=>[.slice (some ⟨fm (β 11),0,none⟩) 4 4])
  case hB=>kernel_rfl
  case hr=>exact fun β=>aZ (.of rfl) (.cons (.of rfl) .nil) inferInstance rfl
  case hi=>exact bz
  case hd=>rfl
  case hc=>
   intro β w' dz
   have mK:=dz.at 11 Zq (s:=⟨fun β=>.slice (some ⟨fm (β 11),0,none⟩) 4 4,fun β=>[bH (fm (β 11)) (.cells #[.string wP,.string (nO x.lv),.string x.ou,.string x.ip] 9)]⟩) (by kernel_rfl)
   dsimp only [Zb,Za] at mK
   exact ss (l:=[wP,nO x.lv,x.ou,x.ip]) (Mem.dw mK (by exact .here) rfl rfl) (by simp) (jj (by decide) (fc _) hx.1.1 hx.1.2)
  dsimp only [Nat.reduceAdd]
  (refine an (fun β=>(se (.of rfl) (.of rfl) hb)) bz rfl<|an (fun β=>(cB (.of rfl))) bz rfl ?_)
  refine fh fun β=>?_
  dsimp only [ei,Za,Zb,List.append_eq,Nat.reduceAdd]
  with_reducible refine cH (by kernel_rfl) ?_
  refine Jj<|Jt<|Jg<|JB rfl (by omega)<|Jv rfl<|Jn ?_
  apply aK (k+1,_) (show _∧_ from ⟨by omega,j9.symm⟩) (show r.po.length-(k+1)<r.po.length-k by omega)
  case hs1=>exact cg
  case ht=>
   exact .cons bL (.cons bL .nil)
 obtain rfl:k=r.po.length:=by omega
 rw [ZN] at hS
 rw [← hS]
 refine Jr<|JA rfl<|Jn<|Jq<|Jc rfl fun az=>Jp<|Jl<|Jo<|Jt<|Jr<|Jv rfl<|Ja rfl<|Ja rfl<|Jn<|Je<|oW rfl (fV rfl rfl rfl) ?_
 rfl
def AI (r:Ro) (x:Value×Value×Value×Value):List bd:=[row 118 2 x.1 r.sr.length (nZ r.sr),row 88 3 x.2.1 r.de.length (iZ r.de),row 122 3 x.2.2.1 r.ti.length (pV r.ti),row 180 3 x.2.2.2 r.po.length (fO r.po)]
def mn (r:Ro):Prop:=r.sr.length≤1000000∧r.de.length≤1000000∧r.ti.length≤1000000∧r.po.length≤1000000
theorem Tp {r:Ro} {s d t p:Value} {w:World} (h:RR w r s d t p) (cT:mn r):bu Tryz.prog 21 [RA r s d t p] w [] (fun _:Value×Value×Value×Value=>True) (fun x=>RA r x.1 x.2.1 x.2.2.1 x.2.2.2) (fun x=>nS r x):=by
 have h1:=Rd.one h.sr
 have h2:=Rd.one h.de
 have h3:=Rd.one h.ti
 have h4:=Rd.one h.po
 have Gv:=h.sr
 have GD:=h.de
 have B0:=h.ti
 have JM:=h.po
 obtain ⟨a1,er,Pt,OG,rfl,pM,jf,lW,kF⟩:=Gv
 obtain ⟨a2,dA,Ps,OF,rfl,kE,fk,jD,jS⟩:=GD
 obtain ⟨a3,ee,KU,Ik,rfl,nD,gG,tM,ql⟩:=B0
 obtain ⟨a4,gi,Vd,Qk,rfl,yD,mG,G4,Ac⟩:=JM
 rw [cO] at *
 rw [cn] at *
 rw [cd] at *
 rw [c6] at *
 unfold maxLen at jf fk gG mG
 obtain ⟨f1,f2,f3,f4⟩:=cT
 unfold RA
 refine aS Tryz.func21 rfl rfl ?_
 (refine Jr<|Jy rfl rfl fun _ _=>Jz rfl rfl fun _ _=>Ji<|bS rfl rfl ae<|JL rfl (.there .here) rfl<|bS rfl rfl ae<|JL rfl (.there .here) rfl<|ab (aU (.cons (.of rfl) (.cons (.of rfl) .nil)) ak) rfl<|Jz rfl rfl fun _ _=>aq (.of rfl) (.of rfl) .here rfl rfl (gA rfl rfl rfl rfl rfl rfl) (bG rfl) ak<|Jn<|Jq<|Jr<|bS rfl rfl ae<|JL rfl bL rfl<|JI rfl<|Jv rfl<|Jn<|J0 ?_)
 rename_i b1 tw b2 tL b3 vI
 refine aQ 186 2 ?_
 refine aW (ι:=Nat×Option Addr×Nat) (fun y=>y.1≤r.sr.length) (fun y=>[(20,.int .i64 (y.1:Nat)),(19,.int .i64 r.sr.length),(18,.slice a1 r.sr.length er),(3,.pointer (some ⟨b3,0,none⟩)),(2,.pointer (some ⟨b2,0,none⟩)),(1,.pointer (some ⟨b1,0,none⟩))]) (fun y=>[row 186 2 (.slice y.2.1 y.1 y.2.2) y.1 (nZ (r.sr.take y.1)),JP b3 r (.slice y.2.1 y.1 y.2.2) (.slice none 0 0) (.slice none 0 0) (.slice none 0 0),bH b2 (.cells #[.int .i64 0,.int .i64 0,.slice none 0 0,.slice none 0 0,.slice none 0 0,.slice none 0 0] 41 (0,0)),JQ b1 r (.slice a1 r.sr.length er) (.slice a2 r.de.length dA) (.slice a3 r.ti.length ee) (.slice a4 r.po.length gi)]) (fun y=>r.sr.length-y.1) ?_ ?_
 ·apply aI (0,none,0) (Zi _)
  case hs1=>exact cg
  case ht=>
   exact .cons .here (.cons .here (.cons .here (.cons .here .nil)))
 rintro ⟨k,g1,qn⟩ hk
 dsimp only at hk ⊢
 by_cases aM:k<r.sr.length
 ·have cG:=lW (iM aM)
  have aB:=(kF k _ (fN aM)).2
  have bh:=Be aM
  have hlen:(nZ (r.sr.take k)).length=k*2:=by rw [EK,Zr];omega
  unfold Sr.cells at aB bh
  generalize r.sr[k]=x at aB bh
  (refine Jr<|JA rfl<|Jn<|Jq<|Jd rfl fun az=>Jk<|Jq<|J0<|Jr<|ab (fM cG az) rfl<|ab (gW (ew.base aB rfl)) rfl<|Jz rfl rfl fun _ _=>aq (.of rfl) (.of rfl) .here rfl rfl (fY rfl rfl) (bG rfl) ak<|Jn<|Jg<|bS rfl rfl ae<|JL rfl bL rfl<|ab (cR .here) rfl<|br (bB (.cons (.of rfl) .nil) rfl rfl bQ bQ ak) rfl fun _ _=>?_)
  refine bF (.of rfl) (.of rfl) bL .here ak (by rfl) (fY rfl rfl) (by rfl) (by rfl) (by rfl) eC (by rfl) ?_
  intro v'
  refine aT (v:=v') (by exact .here) fun gx cx e=>?_
  subst e
  (refine bS rfl rfl ae<|aq (.of rfl) (.of rfl) cW rfl rfl (en rfl) (bG rfl) ak<|Jx<|Jj<|Jt<|Jg<|JB rfl (by omega)<|Jv rfl<|Jn ?_)
  apply aK (k+1,gx,cx) (by show k+1≤r.sr.length;omega) (by show r.sr.length-(k+1)<r.sr.length-k;omega)
  case hs1=>exact cg
  case ht=>
   show bD _ [row 186 2 (.slice gx (k+1) cx) (k+1) (nZ (r.sr.take (k+1))),JP b3 r (.slice gx (k+1) cx) (.slice none 0 0) (.slice none 0 0) (.slice none 0 0),bH b2 (.cells #[.int .i64 0,.int .i64 0,.slice none 0 0,.slice none 0 0,.slice none 0 0,.slice none 0 0] 41 (0,0)),JQ b1 r (.slice a1 r.sr.length er) (.slice a2 r.de.length dA) (.slice a3 r.ti.length ee) (.slice a4 r.po.length gi)] _
   rw [bh]
   exact .cons (.there .here) (.cons .here (.cons bL (.cons bL .nil)))
 obtain rfl:k=r.sr.length:=by omega
 rw [ZN]
 clear hk aM
 (refine Jr<|JA rfl<|Jn<|Jq<|Jc rfl fun az=>Jp<|Jl<|Jo<|Jt<|Jq<|Jr<|bS rfl rfl ae<|JL rfl cW rfl<|JI rfl<|Jv rfl<|Jn<|J0 ?_)
 refine aQ 90 3 ?_
 refine aW (ι:=Nat×Option Addr×Nat) (fun y=>y.1≤r.de.length) (fun y=>[(34,.int .i64 (y.1:Nat)),(33,.int .i64 r.de.length),(32,.slice a2 r.de.length dA),(3,.pointer (some ⟨b3,0,none⟩)),(2,.pointer (some ⟨b2,0,none⟩)),(1,.pointer (some ⟨b1,0,none⟩))]) (fun y=>[row 90 3 (.slice y.2.1 y.1 y.2.2) y.1 (iZ (r.de.take y.1)),row 186 2 (.slice g1 r.sr.length qn) r.sr.length (nZ r.sr),JP b3 r (.slice g1 r.sr.length qn) (.slice y.2.1 y.1 y.2.2) (.slice none 0 0) (.slice none 0 0),bH b2 (.cells #[.int .i64 0,.int .i64 0,.slice none 0 0,.slice none 0 0,.slice none 0 0,.slice none 0 0] 41 (0,0)),JQ b1 r (.slice a1 r.sr.length er) (.slice a2 r.de.length dA) (.slice a3 r.ti.length ee) (.slice a4 r.po.length gi)]) (fun y=>r.de.length-y.1) ?_ ?_
 ·apply aI (0,none,0) (Zi _)
  case hs1=>exact cg
  case ht=>
   exact .cons .here (.cons .here (.cons .here (.cons .here (.cons .here .nil))))
 rintro ⟨k,g2,xi⟩ hk
 dsimp only at hk ⊢
 by_cases aM:k<r.de.length
 ·have cG:=jD (fW aM)
  have aB:=(jS k _ (eR aM)).2
  have bh:=Cl aM
  have hlen:(iZ (r.de.take k)).length=k*3:=by rw [FC,Zr];omega
  unfold De.cells at aB bh
  generalize r.de[k]=x at aB bh
  (refine Jr<|JA rfl<|Jn<|Jq<|Jd rfl fun az=>Jk<|Jq<|J0<|Jr<|ab (fM cG az) rfl<|ab (gW (ew.base aB rfl)) rfl<|Jz rfl rfl fun _ _=>aq (.of rfl) (.of rfl) .here rfl rfl (fo rfl rfl rfl) (bG rfl) ak<|Jn<|Jg<|bS rfl rfl ae<|JL rfl cW rfl<|ab (cR .here) rfl<|br (bB (.cons (.of rfl) .nil) rfl rfl bQ bQ ak) rfl fun _ _=>?_)
  refine bF (.of rfl) (.of rfl) bL .here ak (by rfl) (fo rfl rfl rfl) (by rfl) (by rfl) (by rfl) eC (by rfl) ?_
  intro v'
  refine aT (v:=v') (by exact .here) fun gx cx e=>?_
  subst e
  (refine bS rfl rfl ae<|aq (.of rfl) (.of rfl) dT rfl rfl (en rfl) (bG rfl) ak<|Jx<|Jj<|Jt<|Jg<|JB rfl (by omega)<|Jv rfl<|Jn ?_)
  apply aK (k+1,gx,cx) (by show k+1≤r.de.length;omega) (by show r.de.length-(k+1)<r.de.length-k;omega)
  case hs1=>exact cg
  case ht=>
   show bD _ [row 90 3 (.slice gx (k+1) cx) (k+1) (iZ (r.de.take (k+1))),row 186 2 (.slice g1 r.sr.length qn) r.sr.length (nZ r.sr),JP b3 r (.slice g1 r.sr.length qn) (.slice gx (k+1) cx) (.slice none 0 0) (.slice none 0 0),bH b2 (.cells #[.int .i64 0,.int .i64 0,.slice none 0 0,.slice none 0 0,.slice none 0 0,.slice none 0 0] 41 (0,0)),JQ b1 r (.slice a1 r.sr.length er) (.slice a2 r.de.length dA) (.slice a3 r.ti.length ee) (.slice a4 r.po.length gi)] _
   rw [bh]
   exact .cons (.there .here) (.cons cW (.cons .here (.cons bL (.cons bL .nil))))
 obtain rfl:k=r.de.length:=by omega
 rw [ZN]
 clear hk aM
 (refine Jr<|JA rfl<|Jn<|Jq<|Jc rfl fun az=>Jp<|Jl<|Jo<|Jt<|Jq<|Jr<|bS rfl rfl ae<|JL rfl dT rfl<|JI rfl<|Jv rfl<|Jn<|J0 ?_)
 refine aQ 187 3 ?_
 refine aW (ι:=Nat×Option Addr×Nat) (fun y=>y.1≤r.ti.length) (fun y=>[(48,.int .i64 (y.1:Nat)),(47,.int .i64 r.ti.length),(46,.slice a3 r.ti.length ee),(3,.pointer (some ⟨b3,0,none⟩)),(2,.pointer (some ⟨b2,0,none⟩)),(1,.pointer (some ⟨b1,0,none⟩))]) (fun y=>[row 187 3 (.slice y.2.1 y.1 y.2.2) y.1 (pV (r.ti.take y.1)),row 90 3 (.slice g2 r.de.length xi) r.de.length (iZ r.de),row 186 2 (.slice g1 r.sr.length qn) r.sr.length (nZ r.sr),JP b3 r (.slice g1 r.sr.length qn) (.slice g2 r.de.length xi) (.slice y.2.1 y.1 y.2.2) (.slice none 0 0),bH b2 (.cells #[.int .i64 0,.int .i64 0,.slice none 0 0,.slice none 0 0,.slice none 0 0,.slice none 0 0] 41 (0,0)),JQ b1 r (.slice a1 r.sr.length er) (.slice a2 r.de.length dA) (.slice a3 r.ti.length ee) (.slice a4 r.po.length gi)]) (fun y=>r.ti.length-y.1) ?_ ?_
 ·apply aI (0,none,0) (Zi _)
  case hs1=>exact cg
  case ht=>
   exact .cons .here (.cons .here (.cons .here (.cons .here (.cons .here (.cons .here .nil)))))
 rintro ⟨k,g3,GK⟩ hk
 dsimp only at hk ⊢
 by_cases aM:k<r.ti.length
 ·have cG:=tM (fw aM)
  have aB:=(ql k _ (eE aM)).2
  have bh:=Bc aM
  have hlen:(pV (r.ti.take k)).length=k*3:=by rw [EF,Zr];omega
  unfold Ti.cells at aB bh
  generalize r.ti[k]=x at aB bh
  (refine Jr<|JA rfl<|Jn<|Jq<|Jd rfl fun az=>Jk<|Jq<|J0<|Jr<|ab (fM cG az) rfl<|ab (gW (ew.base aB rfl)) rfl<|Jz rfl rfl fun _ _=>aq (.of rfl) (.of rfl) .here rfl rfl (fo rfl rfl rfl) (bG rfl) ak<|Jn<|Jg<|bS rfl rfl ae<|JL rfl dT rfl<|ab (cR .here) rfl<|br (bB (.cons (.of rfl) .nil) rfl rfl bQ bQ ak) rfl fun _ _=>?_)
  refine bF (.of rfl) (.of rfl) bL .here ak (by rfl) (fo rfl rfl rfl) (by rfl) (by rfl) (by rfl) eC (by rfl) ?_
  intro v'
  refine aT (v:=v') (by exact .here) fun gx cx e=>?_
  subst e
  (refine bS rfl rfl ae<|aq (.of rfl) (.of rfl) eX rfl rfl (en rfl) (bG rfl) ak<|Jx<|Jj<|Jt<|Jg<|JB rfl (by omega)<|Jv rfl<|Jn ?_)
  apply aK (k+1,gx,cx) (by show k+1≤r.ti.length;omega) (by show r.ti.length-(k+1)<r.ti.length-k;omega)
  case hs1=>exact cg
  case ht=>
   show bD _ [row 187 3 (.slice gx (k+1) cx) (k+1) (pV (r.ti.take (k+1))),row 90 3 (.slice g2 r.de.length xi) r.de.length (iZ r.de),row 186 2 (.slice g1 r.sr.length qn) r.sr.length (nZ r.sr),JP b3 r (.slice g1 r.sr.length qn) (.slice g2 r.de.length xi) (.slice gx (k+1) cx) (.slice none 0 0),bH b2 (.cells #[.int .i64 0,.int .i64 0,.slice none 0 0,.slice none 0 0,.slice none 0 0,.slice none 0 0] 41 (0,0)),JQ b1 r (.slice a1 r.sr.length er) (.slice a2 r.de.length dA) (.slice a3 r.ti.length ee) (.slice a4 r.po.length gi)] _
   rw [bh]
   exact .cons (.there .here) (.cons cW (.cons cW (.cons .here (.cons bL (.cons bL .nil)))))
 obtain rfl:k=r.ti.length:=by omega
 rw [ZN]
 clear hk aM
 (refine Jr<|JA rfl<|Jn<|Jq<|Jc rfl fun az=>Jp<|Jl<|Jo<|Jt<|Jq<|Jr<|bS rfl rfl ae<|JL rfl eX rfl<|JI rfl<|Jv rfl<|Jn<|J0 ?_)
 refine aQ 188 3 ?_
 refine aW (ι:=Nat×Option Addr×Nat) (fun y=>y.1≤r.po.length) (fun y=>[(62,.int .i64 (y.1:Nat)),(61,.int .i64 r.po.length),(60,.slice a4 r.po.length gi),(3,.pointer (some ⟨b3,0,none⟩)),(2,.pointer (some ⟨b2,0,none⟩)),(1,.pointer (some ⟨b1,0,none⟩))]) (fun y=>[row 188 3 (.slice y.2.1 y.1 y.2.2) y.1 (fO (r.po.take y.1)),row 187 3 (.slice g3 r.ti.length GK) r.ti.length (pV r.ti),row 90 3 (.slice g2 r.de.length xi) r.de.length (iZ r.de),row 186 2 (.slice g1 r.sr.length qn) r.sr.length (nZ r.sr),JP b3 r (.slice g1 r.sr.length qn) (.slice g2 r.de.length xi) (.slice g3 r.ti.length GK) (.slice y.2.1 y.1 y.2.2),bH b2 (.cells #[.int .i64 0,.int .i64 0,.slice none 0 0,.slice none 0 0,.slice none 0 0,.slice none 0 0] 41 (0,0)),JQ b1 r (.slice a1 r.sr.length er) (.slice a2 r.de.length dA) (.slice a3 r.ti.length ee) (.slice a4 r.po.length gi)]) (fun y=>r.po.length-y.1) ?_ ?_
 ·apply aI (0,none,0) (Zi _)
  case hs1=>exact cg
  case ht=>
   exact .cons .here (.cons .here (.cons .here (.cons .here (.cons .here (.cons .here (.cons .here .nil))))))
 rintro ⟨k,g4,UQ⟩ hk
 dsimp only at hk ⊢
 by_cases aM:k<r.po.length
 ·have cG:=G4 (ko aM)
  have aB:=(Ac k _ (iy aM)).2
  have bh:=BD aM
  have hlen:(fO (r.po.take k)).length=k*3:=by rw [jz,Zr];omega
  unfold Po.cells at aB bh
  generalize r.po[k]=x at aB bh
  (refine Jr<|JA rfl<|Jn<|Jq<|Jd rfl fun az=>Jk<|Jq<|J0<|Jr<|ab (fM cG az) rfl<|ab (gW (ew.base aB rfl)) rfl<|Jz rfl rfl fun _ _=>aq (.of rfl) (.of rfl) .here rfl rfl (fo rfl rfl rfl) (bG rfl) ak<|Jn<|Jg<|bS rfl rfl ae<|JL rfl eX rfl<|ab (cR .here) rfl<|br (bB (.cons (.of rfl) .nil) rfl rfl bQ bQ ak) rfl fun _ _=>?_)
  refine bF (.of rfl) (.of rfl) bL .here ak (by rfl) (fo rfl rfl rfl) (by rfl) (by rfl) (by rfl) eC (by rfl) ?_
  intro v'
  refine aT (v:=v') (by exact .here) fun gx cx e=>?_
  subst e
  (refine bS rfl rfl ae<|aq (.of rfl) (.of rfl) pz rfl rfl (en rfl) (bG rfl) ak<|Jx<|Jj<|Jt<|Jg<|JB rfl (by omega)<|Jv rfl<|Jn ?_)
  apply aK (k+1,gx,cx) (by show k+1≤r.po.length;omega) (by show r.po.length-(k+1)<r.po.length-k;omega)
  case hs1=>exact cg
  case ht=>
   show bD _ [row 188 3 (.slice gx (k+1) cx) (k+1) (fO (r.po.take (k+1))),row 187 3 (.slice g3 r.ti.length GK) r.ti.length (pV r.ti),row 90 3 (.slice g2 r.de.length xi) r.de.length (iZ r.de),row 186 2 (.slice g1 r.sr.length qn) r.sr.length (nZ r.sr),JP b3 r (.slice g1 r.sr.length qn) (.slice g2 r.de.length xi) (.slice g3 r.ti.length GK) (.slice gx (k+1) cx),bH b2 (.cells #[.int .i64 0,.int .i64 0,.slice none 0 0,.slice none 0 0,.slice none 0 0,.slice none 0 0] 41 (0,0)),JQ b1 r (.slice a1 r.sr.length er) (.slice a2 r.de.length dA) (.slice a3 r.ti.length ee) (.slice a4 r.po.length gi)] _
   rw [bh]
   exact .cons (.there .here) (.cons cW (.cons cW (.cons cW (.cons .here (.cons bL (.cons bL .nil))))))
 obtain rfl:k=r.po.length:=by omega
 rw [ZN]
 clear hk aM
 (refine Jr<|JA rfl<|Jn<|Jq<|Jc rfl fun az=>Jp<|Jl<|Jo<|Jt<|Jr<|ab (cR dT) rfl<|aq (.of rfl) (.of rfl) eX rfl rfl (gA rfl rfl rfl rfl rfl rfl) (bG rfl) ak<|Jn<|Je ?_)
 first | with_reducible apply aO | with_reducible apply aP
 case he=>exact kR rfl inferInstance rfl .here ak (by rfl)
 case hR=>
  intro w' aA
  exact aG (.slice g1 r.sr.length qn,.slice g2 r.de.length xi,.slice g3 r.ti.length GK,.slice g4 r.po.length UQ) trivial (by exact .cons dT (.cons cW (.cons bL (.cons (.there .here) .nil)))) aA rfl
theorem C8 {r:Ro} {s d t p:Value} {w:World} (h:RR w r s d t p) (cT:mn r):bu Tryz.prog 57 [RA r s d t p] w [] (fun _:Value×Value×Value×Value=>True) (fun x=>RA r x.1 x.2.1 x.2.2.1 x.2.2.2) (fun x=>AI r x):=by
 have h1:=Rd.one h.sr
 have h2:=Rd.one h.de
 have h3:=Rd.one h.ti
 have h4:=Rd.one h.po
 have Gv:=h.sr
 have GD:=h.de
 have B0:=h.ti
 have JM:=h.po
 obtain ⟨a1,er,Pt,OG,rfl,pM,jf,lW,kF⟩:=Gv
 obtain ⟨a2,dA,Ps,OF,rfl,kE,fk,jD,jS⟩:=GD
 obtain ⟨a3,ee,KU,Ik,rfl,nD,gG,tM,ql⟩:=B0
 obtain ⟨a4,gi,Vd,Qk,rfl,yD,mG,G4,Ac⟩:=JM
 rw [cO] at *
 rw [cn] at *
 rw [cd] at *
 rw [c6] at *
 unfold maxLen at jf fk gG mG
 obtain ⟨f1,f2,f3,f4⟩:=cT
 unfold RA
 refine aS Tryz.func57 rfl rfl ?_
 (refine Jr<|Jy rfl rfl fun _ _=>Jz rfl rfl fun _ _=>Ji<|bS rfl rfl ae<|JL rfl (.there .here) rfl<|bS rfl rfl ae<|JL rfl (.there .here) rfl<|ab (aU (.cons (.of rfl) (.cons (.of rfl) .nil)) ak) rfl<|Jz rfl rfl fun _ _=>aq (.of rfl) (.of rfl) .here rfl rfl (gA rfl rfl rfl rfl rfl rfl) (bG rfl) ak<|Jn<|Jq<|Jr<|bS rfl rfl ae<|JL rfl bL rfl<|JI rfl<|Jv rfl<|Jn<|J0 ?_)
 rename_i b1 tw b2 tL b3 vI
 refine aQ 118 2 ?_
 refine aW (ι:=Nat×Option Addr×Nat) (fun y=>y.1≤r.sr.length) (fun y=>[(20,.int .i64 (y.1:Nat)),(19,.int .i64 r.sr.length),(18,.slice a1 r.sr.length er),(3,.pointer (some ⟨b3,0,none⟩)),(2,.pointer (some ⟨b2,0,none⟩)),(1,.pointer (some ⟨b1,0,none⟩))]) (fun y=>[row 118 2 (.slice y.2.1 y.1 y.2.2) y.1 (nZ (r.sr.take y.1)),JQ b3 r (.slice y.2.1 y.1 y.2.2) (.slice none 0 0) (.slice none 0 0) (.slice none 0 0),bH b2 (.cells #[.int .i64 0,.int .i64 0,.slice none 0 0,.slice none 0 0,.slice none 0 0,.slice none 0 0] 27 (0,0)),JP b1 r (.slice a1 r.sr.length er) (.slice a2 r.de.length dA) (.slice a3 r.ti.length ee) (.slice a4 r.po.length gi)]) (fun y=>r.sr.length-y.1) ?_ ?_
 ·apply aI (0,none,0) (Zi _)
  case hs1=>exact cg
  case ht=>
   exact .cons .here (.cons .here (.cons .here (.cons .here .nil)))
 rintro ⟨k,g1,qn⟩ hk
 dsimp only at hk ⊢
 by_cases aM:k<r.sr.length
 ·have cG:=lW (iM aM)
  have aB:=(kF k _ (fN aM)).2
  have bh:=Be aM
  have hlen:(nZ (r.sr.take k)).length=k*2:=by rw [EK,Zr];omega
  unfold Sr.cells at aB bh
  generalize r.sr[k]=x at aB bh
  (refine Jr<|JA rfl<|Jn<|Jq<|Jd rfl fun az=>Jk<|Jq<|J0<|Jr<|ab (fM cG az) rfl<|ab (gW (ew.base aB rfl)) rfl<|Jz rfl rfl fun _ _=>aq (.of rfl) (.of rfl) .here rfl rfl (fY rfl rfl) (bG rfl) ak<|Jn<|Jg<|bS rfl rfl ae<|JL rfl bL rfl<|ab (cR .here) rfl<|br (bB (.cons (.of rfl) .nil) rfl rfl bQ bQ ak) rfl fun _ _=>?_)
  refine bF (.of rfl) (.of rfl) bL .here ak (by rfl) (fY rfl rfl) (by rfl) (by rfl) (by rfl) eC (by rfl) ?_
  intro v'
  refine aT (v:=v') (by exact .here) fun gx cx e=>?_
  subst e
  (refine bS rfl rfl ae<|aq (.of rfl) (.of rfl) cW rfl rfl (en rfl) (bG rfl) ak<|Jx<|Jj<|Jt<|Jg<|JB rfl (by omega)<|Jv rfl<|Jn ?_)
  apply aK (k+1,gx,cx) (by show k+1≤r.sr.length;omega) (by show r.sr.length-(k+1)<r.sr.length-k;omega)
  case hs1=>exact cg
  case ht=>
   show bD _ [row 118 2 (.slice gx (k+1) cx) (k+1) (nZ (r.sr.take (k+1))),JQ b3 r (.slice gx (k+1) cx) (.slice none 0 0) (.slice none 0 0) (.slice none 0 0),bH b2 (.cells #[.int .i64 0,.int .i64 0,.slice none 0 0,.slice none 0 0,.slice none 0 0,.slice none 0 0] 27 (0,0)),JP b1 r (.slice a1 r.sr.length er) (.slice a2 r.de.length dA) (.slice a3 r.ti.length ee) (.slice a4 r.po.length gi)] _
   rw [bh]
   exact .cons (.there .here) (.cons .here (.cons bL (.cons bL .nil)))
 obtain rfl:k=r.sr.length:=by omega
 rw [ZN]
 clear hk aM
 (refine Jr<|JA rfl<|Jn<|Jq<|Jc rfl fun az=>Jp<|Jl<|Jo<|Jt<|Jq<|Jr<|bS rfl rfl ae<|JL rfl cW rfl<|JI rfl<|Jv rfl<|Jn<|J0 ?_)
 refine aQ 88 3 ?_
 refine aW (ι:=Nat×Option Addr×Nat) (fun y=>y.1≤r.de.length) (fun y=>[(34,.int .i64 (y.1:Nat)),(33,.int .i64 r.de.length),(32,.slice a2 r.de.length dA),(3,.pointer (some ⟨b3,0,none⟩)),(2,.pointer (some ⟨b2,0,none⟩)),(1,.pointer (some ⟨b1,0,none⟩))]) (fun y=>[row 88 3 (.slice y.2.1 y.1 y.2.2) y.1 (iZ (r.de.take y.1)),row 118 2 (.slice g1 r.sr.length qn) r.sr.length (nZ r.sr),JQ b3 r (.slice g1 r.sr.length qn) (.slice y.2.1 y.1 y.2.2) (.slice none 0 0) (.slice none 0 0),bH b2 (.cells #[.int .i64 0,.int .i64 0,.slice none 0 0,.slice none 0 0,.slice none 0 0,.slice none 0 0] 27 (0,0)),JP b1 r (.slice a1 r.sr.length er) (.slice a2 r.de.length dA) (.slice a3 r.ti.length ee) (.slice a4 r.po.length gi)]) (fun y=>r.de.length-y.1) ?_ ?_
 ·apply aI (0,none,0) (Zi _)
  case hs1=>exact cg
  case ht=>
   exact .cons .here (.cons .here (.cons .here (.cons .here (.cons .here .nil))))
 rintro ⟨k,g2,xi⟩ hk
 dsimp only at hk ⊢
 by_cases aM:k<r.de.length
 ·have cG:=jD (fW aM)
  have aB:=(jS k _ (eR aM)).2
  have bh:=Cl aM
  have hlen:(iZ (r.de.take k)).length=k*3:=by rw [FC,Zr];omega
  unfold De.cells at aB bh
  generalize r.de[k]=x at aB bh
  (refine Jr<|JA rfl<|Jn<|Jq<|Jd rfl fun az=>Jk<|Jq<|J0<|Jr<|ab (fM cG az) rfl<|ab (gW (ew.base aB rfl)) rfl<|Jz rfl rfl fun _ _=>aq (.of rfl) (.of rfl) .here rfl rfl (fo rfl rfl rfl) (bG rfl) ak<|Jn<|Jg<|bS rfl rfl ae<|JL rfl cW rfl<|ab (cR .here) rfl<|br (bB (.cons (.of rfl) .nil) rfl rfl bQ bQ ak) rfl fun _ _=>?_)
  refine bF (.of rfl) (.of rfl) bL .here ak (by rfl) (fo rfl rfl rfl) (by rfl) (by rfl) (by rfl) eC (by rfl) ?_
  intro v'
  refine aT (v:=v') (by exact .here) fun gx cx e=>?_
  subst e
  (refine bS rfl rfl ae<|aq (.of rfl) (.of rfl) dT rfl rfl (en rfl) (bG rfl) ak<|Jx<|Jj<|Jt<|Jg<|JB rfl (by omega)<|Jv rfl<|Jn ?_)
  apply aK (k+1,gx,cx) (by show k+1≤r.de.length;omega) (by show r.de.length-(k+1)<r.de.length-k;omega)
  case hs1=>exact cg
  case ht=>
   show bD _ [row 88 3 (.slice gx (k+1) cx) (k+1) (iZ (r.de.take (k+1))),row 118 2 (.slice g1 r.sr.length qn) r.sr.length (nZ r.sr),JQ b3 r (.slice g1 r.sr.length qn) (.slice gx (k+1) cx) (.slice none 0 0) (.slice none 0 0),bH b2 (.cells #[.int .i64 0,.int .i64 0,.slice none 0 0,.slice none 0 0,.slice none 0 0,.slice none 0 0] 27 (0,0)),JP b1 r (.slice a1 r.sr.length er) (.slice a2 r.de.length dA) (.slice a3 r.ti.length ee) (.slice a4 r.po.length gi)] _
   rw [bh]
   exact .cons (.there .here) (.cons cW (.cons .here (.cons bL (.cons bL .nil))))
 obtain rfl:k=r.de.length:=by omega
 rw [ZN]
 clear hk aM
 (refine Jr<|JA rfl<|Jn<|Jq<|Jc rfl fun az=>Jp<|Jl<|Jo<|Jt<|Jq<|Jr<|bS rfl rfl ae<|JL rfl dT rfl<|JI rfl<|Jv rfl<|Jn<|J0 ?_)
 refine aQ 122 3 ?_
 refine aW (ι:=Nat×Option Addr×Nat) (fun y=>y.1≤r.ti.length) (fun y=>[(48,.int .i64 (y.1:Nat)),(47,.int .i64 r.ti.length),(46,.slice a3 r.ti.length ee),(3,.pointer (some ⟨b3,0,none⟩)),(2,.pointer (some ⟨b2,0,none⟩)),(1,.pointer (some ⟨b1,0,none⟩))]) (fun y=>[row 122 3 (.slice y.2.1 y.1 y.2.2) y.1 (pV (r.ti.take y.1)),row 88 3 (.slice g2 r.de.length xi) r.de.length (iZ r.de),row 118 2 (.slice g1 r.sr.length qn) r.sr.length (nZ r.sr),JQ b3 r (.slice g1 r.sr.length qn) (.slice g2 r.de.length xi) (.slice y.2.1 y.1 y.2.2) (.slice none 0 0),bH b2 (.cells #[.int .i64 0,.int .i64 0,.slice none 0 0,.slice none 0 0,.slice none 0 0,.slice none 0 0] 27 (0,0)),JP b1 r (.slice a1 r.sr.length er) (.slice a2 r.de.length dA) (.slice a3 r.ti.length ee) (.slice a4 r.po.length gi)]) (fun y=>r.ti.length-y.1) ?_ ?_
 ·apply aI (0,none,0) (Zi _)
  case hs1=>exact cg
  case ht=>
   exact .cons .here (.cons .here (.cons .here (.cons .here (.cons .here (.cons .here .nil)))))
 rintro ⟨k,g3,GK⟩ hk
 dsimp only at hk ⊢
 by_cases aM:k<r.ti.length
 ·have cG:=tM (fw aM)
  have aB:=(ql k _ (eE aM)).2
  have bh:=Bc aM
  have hlen:(pV (r.ti.take k)).length=k*3:=by rw [EF,Zr];omega
  unfold Ti.cells at aB bh
  generalize r.ti[k]=x at aB bh
  (refine Jr<|JA rfl<|Jn<|Jq<|Jd rfl fun az=>Jk<|Jq<|J0<|Jr<|ab (fM cG az) rfl<|ab (gW (ew.base aB rfl)) rfl<|Jz rfl rfl fun _ _=>aq (.of rfl) (.of rfl) .here rfl rfl (fo rfl rfl rfl) (bG rfl) ak<|Jn<|Jg<|bS rfl rfl ae<|JL rfl dT rfl<|ab (cR .here) rfl<|br (bB (.cons (.of rfl) .nil) rfl rfl bQ bQ ak) rfl fun _ _=>?_)
  refine bF (.of rfl) (.of rfl) bL .here ak (by rfl) (fo rfl rfl rfl) (by rfl) (by rfl) (by rfl) eC (by rfl) ?_
  intro v'
  refine aT (v:=v') (by exact .here) fun gx cx e=>?_
  subst e
  (refine bS rfl rfl ae<|aq (.of rfl) (.of rfl) eX rfl rfl (en rfl) (bG rfl) ak<|Jx<|Jj<|Jt<|Jg<|JB rfl (by omega)<|Jv rfl<|Jn ?_)
  apply aK (k+1,gx,cx) (by show k+1≤r.ti.length;omega) (by show r.ti.length-(k+1)<r.ti.length-k;omega)
  case hs1=>exact cg
  case ht=>
   show bD _ [row 122 3 (.slice gx (k+1) cx) (k+1) (pV (r.ti.take (k+1))),row 88 3 (.slice g2 r.de.length xi) r.de.length (iZ r.de),row 118 2 (.slice g1 r.sr.length qn) r.sr.length (nZ r.sr),JQ b3 r (.slice g1 r.sr.length qn) (.slice g2 r.de.length xi) (.slice gx (k+1) cx) (.slice none 0 0),bH b2 (.cells #[.int .i64 0,.int .i64 0,.slice none 0 0,.slice none 0 0,.slice none 0 0,.slice none 0 0] 27 (0,0)),JP b1 r (.slice a1 r.sr.length er) (.slice a2 r.de.length dA) (.slice a3 r.ti.length ee) (.slice a4 r.po.length gi)] _
   rw [bh]
   exact .cons (.there .here) (.cons cW (.cons cW (.cons .here (.cons bL (.cons bL .nil)))))
 obtain rfl:k=r.ti.length:=by omega
 rw [ZN]
 clear hk aM
 (refine Jr<|JA rfl<|Jn<|Jq<|Jc rfl fun az=>Jp<|Jl<|Jo<|Jt<|Jq<|Jr<|bS rfl rfl ae<|JL rfl eX rfl<|JI rfl<|Jv rfl<|Jn<|J0 ?_)
 refine aQ 180 3 ?_
 refine aW (ι:=Nat×Option Addr×Nat) (fun y=>y.1≤r.po.length) (fun y=>[(62,.int .i64 (y.1:Nat)),(61,.int .i64 r.po.length),(60,.slice a4 r.po.length gi),(3,.pointer (some ⟨b3,0,none⟩)),(2,.pointer (some ⟨b2,0,none⟩)),(1,.pointer (some ⟨b1,0,none⟩))]) (fun y=>[row 180 3 (.slice y.2.1 y.1 y.2.2) y.1 (fO (r.po.take y.1)),row 122 3 (.slice g3 r.ti.length GK) r.ti.length (pV r.ti),row 88 3 (.slice g2 r.de.length xi) r.de.length (iZ r.de),row 118 2 (.slice g1 r.sr.length qn) r.sr.length (nZ r.sr),JQ b3 r (.slice g1 r.sr.length qn) (.slice g2 r.de.length xi) (.slice g3 r.ti.length GK) (.slice y.2.1 y.1 y.2.2),bH b2 (.cells #[.int .i64 0,.int .i64 0,.slice none 0 0,.slice none 0 0,.slice none 0 0,.slice none 0 0] 27 (0,0)),JP b1 r (.slice a1 r.sr.length er) (.slice a2 r.de.length dA) (.slice a3 r.ti.length ee) (.slice a4 r.po.length gi)]) (fun y=>r.po.length-y.1) ?_ ?_
 ·apply aI (0,none,0) (Zi _)
  case hs1=>exact cg
  case ht=>
   exact .cons .here (.cons .here (.cons .here (.cons .here (.cons .here (.cons .here (.cons .here .nil))))))
 rintro ⟨k,g4,UQ⟩ hk
 dsimp only at hk ⊢
 by_cases aM:k<r.po.length
 ·have cG:=G4 (ko aM)
  have aB:=(Ac k _ (iy aM)).2
  have bh:=BD aM
  have hlen:(fO (r.po.take k)).length=k*3:=by rw [jz,Zr];omega
  unfold Po.cells at aB bh
  generalize r.po[k]=x at aB bh
  (refine Jr<|JA rfl<|Jn<|Jq<|Jd rfl fun az=>Jk<|Jq<|J0<|Jr<|ab (fM cG az) rfl<|ab (gW (ew.base aB rfl)) rfl<|Jz rfl rfl fun _ _=>aq (.of rfl) (.of rfl) .here rfl rfl (fo rfl rfl rfl) (bG rfl) ak<|Jn<|Jg<|bS rfl rfl ae<|JL rfl eX rfl<|ab (cR .here) rfl<|br (bB (.cons (.of rfl) .nil) rfl rfl bQ bQ ak) rfl fun _ _=>?_)
  refine bF (.of rfl) (.of rfl) bL .here ak (by rfl) (fo rfl rfl rfl) (by rfl) (by rfl) (by rfl) eC (by rfl) ?_
  intro v'
  refine aT (v:=v') (by exact .here) fun gx cx e=>?_
  subst e
  (refine bS rfl rfl ae<|aq (.of rfl) (.of rfl) pz rfl rfl (en rfl) (bG rfl) ak<|Jx<|Jj<|Jt<|Jg<|JB rfl (by omega)<|Jv rfl<|Jn ?_)
  apply aK (k+1,gx,cx) (by show k+1≤r.po.length;omega) (by show r.po.length-(k+1)<r.po.length-k;omega)
  case hs1=>exact cg
  case ht=>
   show bD _ [row 180 3 (.slice gx (k+1) cx) (k+1) (fO (r.po.take (k+1))),row 122 3 (.slice g3 r.ti.length GK) r.ti.length (pV r.ti),row 88 3 (.slice g2 r.de.length xi) r.de.length (iZ r.de),row 118 2 (.slice g1 r.sr.length qn) r.sr.length (nZ r.sr),JQ b3 r (.slice g1 r.sr.length qn) (.slice g2 r.de.length xi) (.slice g3 r.ti.length GK) (.slice gx (k+1) cx),bH b2 (.cells #[.int .i64 0,.int .i64 0,.slice none 0 0,.slice none 0 0,.slice none 0 0,.slice none 0 0] 27 (0,0)),JP b1 r (.slice a1 r.sr.length er) (.slice a2 r.de.length dA) (.slice a3 r.ti.length ee) (.slice a4 r.po.length gi)] _
   rw [bh]
   exact .cons (.there .here) (.cons cW (.cons cW (.cons cW (.cons .here (.cons bL (.cons bL .nil))))))
 obtain rfl:k=r.po.length:=by omega
 rw [ZN]
 clear hk aM
 (refine Jr<|JA rfl<|Jn<|Jq<|Jc rfl fun az=>Jp<|Jl<|Jo<|Jt<|Jr<|ab (cR dT) rfl<|aq (.of rfl) (.of rfl) eX rfl rfl (gA rfl rfl rfl rfl rfl rfl) (bG rfl) ak<|Jn<|Je ?_)
 first | with_reducible apply aO | with_reducible apply aP
 case he=>exact kR rfl inferInstance rfl .here ak (by rfl)
 case hR=>
  intro w' aA
  exact aG (.slice g1 r.sr.length qn,.slice g2 r.de.length xi,.slice g3 r.ti.length GK,.slice g4 r.po.length UQ) trivial (by exact .cons dT (.cons cW (.cons bL (.cons (.there .here) .nil)))) aA rfl
theorem jU {α:Type} {l m:List α} {k:Nat} (hl:k<l.length) (hm:k<m.length) (h:l[k]=m[k]):(l.drop k=m.drop k)↔l.drop (k+1)=m.drop (k+1):=by
 rw [Zw hl,Zw hm,h]
 exact ⟨fun e=>(List.cons.inj e).2,fun e=>by rw [e]⟩
theorem zo {v1 v2:Value} {l m:List ByteArray} {w:World} (h1:Rd w v1 1 (im l)) (h2:Rd w v2 1 (im m)) :
  aj Tryz.prog 58 [v1,v2] w (.bool (decide (l=m))):=by
 obtain ⟨a1,U6,b1,o1,rfl,pM,jf,lW,kF⟩:=h1
 obtain ⟨a2,nR,b2,o2,rfl,kE,fk,jD,jS⟩:=h2
 rw [bW] at *
 rw [bW] at *
 unfold maxLen at jf fk
 refine ah Tryz.func58 rfl rfl ?_
 (refine Jr<|Ja rfl<|Jn<|Jq<|Jr<|Jv rfl<|JI rfl<|Jv rfl<|JI rfl<|JD rfl<|Jn<|gm rfl (fun az=>?_) fun az=>?_;refine Jr<|Ja rfl<|Jn<|Ju<|JT ?_;rotate_left;refine Jk<|Jq<|Jr<|Ja rfl<|Jn<|J0 ?_;rotate_right)
 ·rw [decide_eq_false fun e=>az (by rw [e])]
 have Ue:l.length=m.length:=by omega
 refine aW (ι:=Nat) (fun k=>k≤l.length∧(l=m↔l.drop k=m.drop k)) (fun k=>[(5,.int .i64 (k:Int)),(0,.slice a1 l.length U6),(1,.slice a2 m.length nR)]) (fun _=>[]) (fun k=>l.length-k) ?_ ?_
 ·apply aI (0:Nat) ⟨Zi _,Iff.rfl⟩
  case hs1=>exact cg
  case ht=>(try simp only [Ze,Zf,Za]);exact .nil
 rintro k ⟨hk,hf⟩
 by_cases aM:k<l.length
 ·have ep:k<m.length:=by omega
  have GH:=lW (lf aM)
  have tN:=jD (lf ep)
  have lk:=(kF k _ (ji aM)).2
  have eT:=(jS k _ (ji ep)).2
  have hd:=jU (l:=l) (m:=m) aM ep
  have fJ:l[k]≠m[k]→l.drop k≠m.drop k:=fun hne e=>hne (by
   rw [Zw aM,Zw ep] at e
   exact (List.cons.inj e).1)
  generalize l[k]=x at lk hd fJ
  generalize m[k]=y at eT hd fJ
  have c1:w.cell? ⟨b1,o1+k*1,none⟩=some (.string x):=lk 0 _ rfl
  have c2:w.cell? ⟨b2,o2+k*1,none⟩=some (.string y):=eT 0 _ rfl
  refine Jq<|Jr<|Jv rfl<|Jv rfl<|JI rfl<|JA rfl<|Jn<|Jd rfl fun az=>Jk<|Jq<|J0<|Jq ?_
  with_reducible refine dE 9 (by kernel_rfl) ?_
  (refine ju rfl rfl<|ju rfl rfl<|aF (fM GH az) rfl<|aF (ag (.of rfl) (At.base c1 rfl)) rfl<|ju rfl rfl<|ju rfl rfl<|aF (ar (.of rfl) (.of rfl) tN (by omega) (by omega) bb) rfl<|aF (ag (.of rfl) (At.base c2 rfl)) rfl<|aF (eZ (.of rfl) (.of rfl)) rfl ?_)
  with_reducible refine dI ?_
  (refine Jn<|gm rfl (fun az=>?_) fun az=>?_;refine Jr<|Ja rfl<|Jn<|Je<|Jm<|Jh<|Jh<|Jm<|Jh<|JT ?_;rotate_left;refine Jw<|Jj<|Jt<|Jg<|Jv rfl<|JB rfl (by omega)<|Ja rfl<|Jn ?_;rotate_right)
  ·have hne:x≠y:=az
   rw [decide_eq_false fun e=>fJ hne (hf.1 e)]
  ·have he:x=y:=Zo.1 az
   clear az
   apply aK (k+1) ⟨(show k+1≤l.length from aM),hf.trans (hd he)⟩ (show l.length-(k+1)<l.length-k by omega)
   case hs1=>exact cg
   case ht=>(try simp only [Ze,Zf,Za]);exact .nil
 ·obtain rfl:k=l.length:=by omega
  have:l=m:=hf.2 (by rw [Z5,Ue,Z5])
  refine Jq<|Jr<|Jv rfl<|Jv rfl<|JI rfl<|JA rfl<|Jn<|Jc rfl fun az=>Jp<|Jl<|Jo<|Jt<|Jr<|Ja rfl<|Jn<|Je<|JT ?_
  rw [decide_eq_true this]
theorem Ms {v1 v2:Value} {l m:List Int} {w:World} (h1:Rd w v1 1 (ints l)) (h2:Rd w v2 1 (ints m)) :
  aj Tryz.prog 109 [v1,v2] w (.bool (decide (l=m))):=by
 obtain ⟨a1,U6,b1,o1,rfl,pM,jf,lW,kF⟩:=h1
 obtain ⟨a2,nR,b2,o2,rfl,kE,fk,jD,jS⟩:=h2
 rw [c8] at *
 rw [c8] at *
 unfold maxLen at jf fk
 refine ah Tryz.func109 rfl rfl ?_
 (refine Jr<|Ja rfl<|Jn<|Jq<|Jr<|Jv rfl<|JI rfl<|Jv rfl<|JI rfl<|JD rfl<|Jn<|gm rfl (fun az=>?_) fun az=>?_;refine Jr<|Ja rfl<|Jn<|Ju<|JT ?_;rotate_left;refine Jk<|Jq<|Jr<|Ja rfl<|Jn<|J0 ?_;rotate_right)
 ·rw [decide_eq_false fun e=>az (by rw [e])]
 have Ue:l.length=m.length:=by omega
 refine aW (ι:=Nat) (fun k=>k≤l.length∧(l=m↔l.drop k=m.drop k)) (fun k=>[(5,.int .i64 (k:Int)),(0,.slice a1 l.length U6),(1,.slice a2 m.length nR)]) (fun _=>[]) (fun k=>l.length-k) ?_ ?_
 ·apply aI (0:Nat) ⟨Zi _,Iff.rfl⟩
  case hs1=>exact cg
  case ht=>(try simp only [Ze,Zf,Za]);exact .nil
 rintro k ⟨hk,hf⟩
 by_cases aM:k<l.length
 ·have ep:k<m.length:=by omega
  have GH:=lW (jC aM)
  have tN:=jD (jC ep)
  have lk:=(kF k _ (ib aM)).2
  have eT:=(jS k _ (ib ep)).2
  have hd:=jU (l:=l) (m:=m) aM ep
  have fJ:l[k]≠m[k]→l.drop k≠m.drop k:=fun hne e=>hne (by
   rw [Zw aM,Zw ep] at e
   exact (List.cons.inj e).1)
  generalize l[k]=x at lk hd fJ
  generalize m[k]=y at eT hd fJ
  have c1:w.cell? ⟨b1,o1+k*1,none⟩=some (.int .i64 x):=lk 0 _ rfl
  have c2:w.cell? ⟨b2,o2+k*1,none⟩=some (.int .i64 y):=eT 0 _ rfl
  refine Jq<|Jr<|Jv rfl<|Jv rfl<|JI rfl<|JA rfl<|Jn<|Jd rfl fun az=>Jk<|Jq<|J0<|Jq ?_
  with_reducible refine dE 9 (by kernel_rfl) ?_
  (refine ju rfl rfl<|ju rfl rfl<|aF (fM GH az) rfl<|aF (ag (.of rfl) (At.base c1 rfl)) rfl<|ju rfl rfl<|ju rfl rfl<|aF (ar (.of rfl) (.of rfl) tN (by omega) (by omega) bb) rfl<|aF (ag (.of rfl) (At.base c2 rfl)) rfl<|aF (fa (.of rfl) (.of rfl)) rfl ?_)
  with_reducible refine dI ?_
  (refine Jn<|gm rfl (fun az=>?_) fun az=>?_;refine Jr<|Ja rfl<|Jn<|Je<|Jm<|Jh<|Jh<|Jm<|Jh<|JT ?_;rotate_left;refine Jw<|Jj<|Jt<|Jg<|Jv rfl<|JB rfl (by omega)<|Ja rfl<|Jn ?_;rotate_right)
  ·have hne:x≠y:=az
   rw [decide_eq_false fun e=>fJ hne (hf.1 e)]
  ·have he:x=y:=Zo.1 az
   clear az
   apply aK (k+1) ⟨(show k+1≤l.length from aM),hf.trans (hd he)⟩ (show l.length-(k+1)<l.length-k by omega)
   case hs1=>exact cg
   case ht=>(try simp only [Ze,Zf,Za]);exact .nil
 ·obtain rfl:k=l.length:=by omega
  have:l=m:=hf.2 (by rw [Z5,Ue,Z5])
  refine Jq<|Jr<|Jv rfl<|Jv rfl<|JI rfl<|JA rfl<|Jn<|Jc rfl fun az=>Jp<|Jl<|Jo<|Jt<|Jr<|Ja rfl<|Jn<|Je<|JT ?_
  rw [decide_eq_true this]
theorem Eu {lv:Value} {l:List ByteArray} {w:World} (h:Rd w lv 1 (im l)) (hl:l.length≤1000000) :
  bu Tryz.prog 72 [lv] w [] (fun _:Value=>True) id (fun v=>[row 9 1 v l.length (aL l)]):=by
 refine aS Tryz.func72 rfl rfl ?_
 (refine Jr<|Ja rfl<|Ji<|br (aC .nil rfl rfl rfl rfl) rfl fun _ _=>Jv rfl ?_)
 rename_i bq nq
 refine bZ (g:=bq) (E:=9) (ys:=[]) 0 1 (by exact .here) rfl rfl rfl ?_
 skip
 with_reducible apply gY
 case hx=>exact Is.of rfl
 case hy=>exact Is.of rfl
 case ht=>exact .here
 case hsrc=>exact fun w' aA=>h.keeps aA.keeps
 case h1=>exact zh l
 case hz=>exact rfl
 case hsz=>exact rfl
 case hb0=>exact rfl
 case hb=>rw [bW];omega
 case hd=>rfl
 intro v'
 rw [bW,ZC,Za,← qS]
 refine Ja rfl<|Jn<|Je ?_
 first | with_reducible apply aO | with_reducible apply aP
 case he=>exact dH rfl rfl
 case hR=>
  intro w' aA
  exact aG v' trivial (by exact .cons .here .nil) aA rfl
theorem Tb {r q:Ro}:r=q↔(((((r.lv=q.lv∧r.ma=q.ma)∧r.sr=q.sr)∧r.de=q.de)∧r.ti=q.ti)∧r.po=q.po):=by
 cases r;cases q;simp [and_assoc]
theorem Sk {r q:Ro} {s d t p s' d' t' p':Value} {w:World} (h:RR w r s d t p) (h':RR w q s' d' t' p'):aj Tryz.prog 84 [RA r s d t p,RA q s' d' t' p'] w (.bool (decide (r=q))):=by
 have h1:=Rd.one h.sr
 have h2:=Rd.one h.de
 have h3:=Rd.one h.ti
 have h4:=Rd.one h.po
 have g1:=Rd.one h'.sr
 have g2:=Rd.one h'.de
 have g3:=Rd.one h'.ti
 have g4:=Rd.one h'.po
 have Gv:=h.sr
 have GD:=h.de
 have B0:=h.ti
 have JM:=h.po
 have gs_:=h'.sr
 have gd_:=h'.de
 have gt_:=h'.ti
 have gp_:=h'.po
 obtain ⟨a1,er,Pt,OG,rfl,pM,jf,lW,kF⟩:=Gv
 obtain ⟨x1,LI,xs1,xo1,rfl,aaY,UP,ga1,qn⟩:=gs_
 obtain ⟨a2,dA,Ps,OF,rfl,kE,fk,jD,jS⟩:=GD
 obtain ⟨x2,LH,xs2,xo2,rfl,aaX,UO,ga2,xi⟩:=gd_
 obtain ⟨a3,ee,KU,Ik,rfl,nD,gG,tM,ql⟩:=B0
 obtain ⟨x3,LG,xs3,xo3,rfl,aaW,UN,ga3,GK⟩:=gt_
 obtain ⟨a4,gi,Vd,Qk,rfl,yD,mG,G4,Ac⟩:=JM
 obtain ⟨x4,LF,xs4,xo4,rfl,aaV,UM,ga4,UQ⟩:=gp_
 rw [cO] at *
 rw [cO] at *
 rw [cn] at *
 rw [cn] at *
 rw [cd] at *
 rw [cd] at *
 rw [c6] at *
 rw [c6] at *
 unfold maxLen at jf fk gG mG UP UO UN UM
 unfold RA
 refine ah Tryz.func84 rfl rfl ?_
 (refine Jr<|Jy rfl rfl fun _ _=>Jy rfl rfl fun _ _=>Ja rfl<|Jn<|Jq<|Jr<|bS rfl rfl ae<|JL rfl (.there .here) rfl<|bS rfl rfl ae<|JL rfl .here rfl<|JD rfl<|Jv rfl<|aD rfl rfl inferInstance (fun hg bA=>(au (.of rfl) ae)) rfl<|aD rfl rfl inferInstance (fun hg bA=>(ag (.bI hg rfl) (At.lit (.there .here) rfl))) rfl<|aD rfl rfl inferInstance (fun hg bA=>(au (.of rfl) ae)) rfl<|aD rfl rfl inferInstance (fun hg bA=>(ag (.bI hg rfl) (At.lit .here rfl))) rfl<|aD rfl rfl inferInstance (fun hg bA=>(fa (.bI hg rfl) (.bI hg rfl))) rfl<|ab (a7 (.of rfl) rfl) rfl<|Jv rfl<|aD rfl rfl inferInstance (fun hg bA=>(au (.of rfl) ae)) rfl<|aD rfl rfl inferInstance (fun hg bA=>(ag (.bI hg rfl) (At.lit (.there .here) rfl))) rfl<|aD rfl rfl inferInstance (fun hg bA=>(bJ (.bI hg rfl))) rfl<|aD rfl rfl inferInstance (fun hg bA=>(au (.of rfl) ae)) rfl<|aD rfl rfl inferInstance (fun hg bA=>(ag (.bI hg rfl) (At.lit .here rfl))) rfl<|aD rfl rfl inferInstance (fun hg bA=>(bJ (.bI hg rfl))) rfl<|aD rfl rfl inferInstance (fun hg bA=>(fa (.bI hg rfl) (.bI hg rfl))) rfl<|ab (a7 (.of rfl) rfl) rfl<|Jv rfl<|aD rfl rfl inferInstance (fun hg bA=>(au (.of rfl) ae)) rfl<|aD rfl rfl inferInstance (fun hg bA=>(ag (.bI hg rfl) (At.lit (.there .here) rfl))) rfl<|aD rfl rfl inferInstance (fun hg bA=>(bJ (.bI hg rfl))) rfl<|aD rfl rfl inferInstance (fun hg bA=>(au (.of rfl) ae)) rfl<|aD rfl rfl inferInstance (fun hg bA=>(ag (.bI hg rfl) (At.lit .here rfl))) rfl<|aD rfl rfl inferInstance (fun hg bA=>(bJ (.bI hg rfl))) rfl<|aD rfl rfl inferInstance (fun hg bA=>(fa (.bI hg rfl) (.bI hg rfl))) rfl<|ab (a7 (.of rfl) rfl) rfl<|Jv rfl<|aD rfl rfl inferInstance (fun hg bA=>(au (.of rfl) ae)) rfl<|aD rfl rfl inferInstance (fun hg bA=>(ag (.bI hg rfl) (At.lit (.there .here) rfl))) rfl<|aD rfl rfl inferInstance (fun hg bA=>(bJ (.bI hg rfl))) rfl<|aD rfl rfl inferInstance (fun hg bA=>(au (.of rfl) ae)) rfl<|aD rfl rfl inferInstance (fun hg bA=>(ag (.bI hg rfl) (At.lit .here rfl))) rfl<|aD rfl rfl inferInstance (fun hg bA=>(bJ (.bI hg rfl))) rfl<|aD rfl rfl inferInstance (fun hg bA=>(fa (.bI hg rfl) (.bI hg rfl))) rfl<|ab (a7 (.of rfl) rfl) rfl<|Jv rfl<|aD rfl rfl inferInstance (fun hg bA=>(au (.of rfl) ae)) rfl<|aD rfl rfl inferInstance (fun hg bA=>(ag (.bI hg rfl) (At.lit (.there .here) rfl))) rfl<|aD rfl rfl inferInstance (fun hg bA=>(bJ (.bI hg rfl))) rfl<|aD rfl rfl inferInstance (fun hg bA=>(au (.of rfl) ae)) rfl<|aD rfl rfl inferInstance (fun hg bA=>(ag (.bI hg rfl) (At.lit .here rfl))) rfl<|aD rfl rfl inferInstance (fun hg bA=>(bJ (.bI hg rfl))) rfl<|aD rfl rfl inferInstance (fun hg bA=>(fa (.bI hg rfl) (.bI hg rfl))) rfl<|ab (a7 (.of rfl) rfl) rfl<|Jn<|pt rfl (fun az=>?_) fun az=>?_;refine Jr<|Ja rfl<|Jn<|Ju<|JT ?_;rotate_left;refine Jk<|Jq<|Jr<|Ja rfl<|Jn<|J0 ?_;rotate_right)
 ·rw [decide_eq_false fun e=>by subst e;simp at az]
 simp only [not_or,ne_eq,Zo] at az
 obtain ⟨⟨⟨⟨⟨e1,e2⟩,e3⟩,e4⟩,e5⟩,e6⟩:=az
 rename_i b1 tw b2 tL
 refine aW (ι:=Nat) (fun k=>k≤r.sr.length∧(r.sr=q.sr↔r.sr.drop k=q.sr.drop k)) (fun k=>[(5,.int .i64 (k:Nat)),(3,.pointer (some ⟨b2,0,none⟩)),(2,.pointer (some ⟨b1,0,none⟩))]) (fun _=>[bH b2 (.cells #[.int .i64 q.lv,.int .i64 q.ma,.slice x1 q.sr.length LI,.slice x2 q.de.length LH,.slice x3 q.ti.length LG,.slice x4 q.po.length LF] 27 (0,0)),JQ b1 r (.slice a1 r.sr.length er) (.slice a2 r.de.length dA) (.slice a3 r.ti.length ee) (.slice a4 r.po.length gi)]) (fun k=>r.sr.length-k) ?_ ?_
 ·apply aI (0:Nat) ⟨Zi _,Iff.rfl⟩
  case hs1=>exact cg
  case ht=>
   exact .cons .here (.cons .here .nil)
 rintro k ⟨hk,hf⟩
 have el:r.sr.length=q.sr.length:=by omega
 by_cases aM:k<r.sr.length
 ·have ep:k<q.sr.length:=by omega
  have cG:=lW (iM aM)
  have RK:=ga1 (iM ep)
  have aB:=(kF k _ (fN aM)).2
  have ll:=(qn k _ (fN ep)).2
  have hd:=jU (l:=r.sr) (m:=q.sr) aM ep
  have fJ:r.sr[k]≠q.sr[k]→r.sr.drop k≠q.sr.drop k:=fun hne e=>hne (by
   rw [Zw aM,Zw ep] at e
   exact (List.cons.inj e).1)
  generalize r.sr[k]=x at aB hd fJ
  generalize q.sr[k]=y at ll hd fJ
  unfold Sr.cells at aB ll
  (refine Jq<|Jr<|Jv rfl<|bS rfl rfl ae<|JL rfl (.there .here) rfl<|JI rfl<|JA rfl<|Jn<|Jd rfl fun az=>Jk<|Jq<|J0<|Jq ?_)
  with_reducible refine dE 10 (by kernel_rfl) ?_
  (refine nF rfl rfl ae<|aF (gT (.there .here)) rfl<|ju rfl rfl<|aF (fM cG az) rfl<|aF (gW (ew.base aB rfl)) rfl<|nF rfl rfl ae<|aF (gT .here) rfl<|ju rfl rfl<|aF (ar (.of rfl) (.of rfl) RK (by omega) (by omega) bb) rfl<|aF (gW (ew.base ll rfl)) rfl ?_)
  with_reducible refine dI ?_
  (refine ab (ud (.of rfl) (.of rfl) (fj (jZ lT)) rfl) rfl<|Jn<|pt rfl (fun az=>?_) fun az=>?_;refine Jr<|Ja rfl<|Jn<|Je<|Jm<|Jh<|Jh<|Jm<|Jh<|JT ?_;rotate_left;refine Jw<|Jj<|Jt<|Jg<|Jv rfl<|JB rfl (by omega)<|Ja rfl<|Jn ?_;rotate_right)
  ·have hne:x≠y:=by
    intro e
    subst e
    simp at az
   rw [decide_eq_false fun e=>fJ hne (hf.1 (by rw [e]))]
  ·have he:x=y:=by
    obtain ⟨q1,q2,_⟩:=az
    cases x;cases y
    dsimp only at q1 q2
    subst q1;subst q2
    rfl
   clear az
   apply aK (k+1) ⟨(show k+1≤r.sr.length from aM),hf.trans (hd he)⟩ (show r.sr.length-(k+1)<r.sr.length-k by omega)
   case hs1=>exact cg
   case ht=>
    exact .cons .here (.cons .here .nil)
 have z1:r.sr=q.sr:=by
  obtain rfl:k=r.sr.length:=by omega
  exact hf.2 (by rw [Z5,el,Z5])
 obtain rfl:k=r.sr.length:=by omega
 clear hk hf aM
 (refine Jq<|Jr<|Jv rfl<|bS rfl rfl ae<|JL rfl (.there .here) rfl<|JI rfl<|JA rfl<|Jn<|Jc rfl fun az=>Jp<|Jl<|Jo<|Jt<|Jq<|Jr<|Ja rfl<|Jn<|J0 ?_)
 refine aW (ι:=Nat) (fun k=>k≤r.de.length∧(r.de=q.de↔r.de.drop k=q.de.drop k)) (fun k=>[(6,.int .i64 (k:Nat)),(3,.pointer (some ⟨b2,0,none⟩)),(2,.pointer (some ⟨b1,0,none⟩))]) (fun _=>[bH b2 (.cells #[.int .i64 q.lv,.int .i64 q.ma,.slice x1 q.sr.length LI,.slice x2 q.de.length LH,.slice x3 q.ti.length LG,.slice x4 q.po.length LF] 27 (0,0)),JQ b1 r (.slice a1 r.sr.length er) (.slice a2 r.de.length dA) (.slice a3 r.ti.length ee) (.slice a4 r.po.length gi)]) (fun k=>r.de.length-k) ?_ ?_
 ·apply aI (0:Nat) ⟨Zi _,Iff.rfl⟩
  case hs1=>exact cg
  case ht=>
   exact .cons .here (.cons .here .nil)
 rintro k ⟨hk,hf⟩
 have el:r.de.length=q.de.length:=by omega
 by_cases aM:k<r.de.length
 ·have ep:k<q.de.length:=by omega
  have cG:=jD (fW aM)
  have RK:=ga2 (fW ep)
  have aB:=(jS k _ (eR aM)).2
  have ll:=(xi k _ (eR ep)).2
  have hd:=jU (l:=r.de) (m:=q.de) aM ep
  have fJ:r.de[k]≠q.de[k]→r.de.drop k≠q.de.drop k:=fun hne e=>hne (by
   rw [Zw aM,Zw ep] at e
   exact (List.cons.inj e).1)
  generalize r.de[k]=x at aB hd fJ
  generalize q.de[k]=y at ll hd fJ
  unfold De.cells at aB ll
  (refine Jq<|Jr<|Jv rfl<|bS rfl rfl ae<|JL rfl (.there .here) rfl<|JI rfl<|JA rfl<|Jn<|Jd rfl fun az=>Jk<|Jq<|J0<|Jq ?_)
  with_reducible refine dE 10 (by kernel_rfl) ?_
  (refine nF rfl rfl ae<|aF (gT (.there .here)) rfl<|ju rfl rfl<|aF (fM cG az) rfl<|aF (gW (ew.base aB rfl)) rfl<|nF rfl rfl ae<|aF (gT .here) rfl<|ju rfl rfl<|aF (ar (.of rfl) (.of rfl) RK (by omega) (by omega) bb) rfl<|aF (gW (ew.base ll rfl)) rfl ?_)
  with_reducible refine dI ?_
  (refine ab (ud (.of rfl) (.of rfl) (fj (jZ (Iu lT))) rfl) rfl<|Jn<|pt rfl (fun az=>?_) fun az=>?_;refine Jr<|Ja rfl<|Jn<|Je<|Jm<|Jh<|Jh<|Jm<|Jh<|JT ?_;rotate_left;refine Jw<|Jj<|Jt<|Jg<|Jv rfl<|JB rfl (by omega)<|Ja rfl<|Jn ?_;rotate_right)
  ·have hne:x≠y:=by
    intro e
    subst e
    simp at az
   rw [decide_eq_false fun e=>fJ hne (hf.1 (by rw [e]))]
  ·have he:x=y:=by
    obtain ⟨q1,q2,q3,_⟩:=az
    cases x;cases y
    dsimp only at q1 q2 q3
    have q3:=eq_of_beq q3;subst q1;subst q2;subst q3
    rfl
   clear az
   apply aK (k+1) ⟨(show k+1≤r.de.length from aM),hf.trans (hd he)⟩ (show r.de.length-(k+1)<r.de.length-k by omega)
   case hs1=>exact cg
   case ht=>
    exact .cons .here (.cons .here .nil)
 have z2:r.de=q.de:=by
  obtain rfl:k=r.de.length:=by omega
  exact hf.2 (by rw [Z5,el,Z5])
 obtain rfl:k=r.de.length:=by omega
 clear hk hf aM
 (refine Jq<|Jr<|Jv rfl<|bS rfl rfl ae<|JL rfl (.there .here) rfl<|JI rfl<|JA rfl<|Jn<|Jc rfl fun az=>Jp<|Jl<|Jo<|Jt<|Jq<|Jr<|Ja rfl<|Jn<|J0 ?_)
 refine aW (ι:=Nat) (fun k=>k≤r.ti.length∧(r.ti=q.ti↔r.ti.drop k=q.ti.drop k)) (fun k=>[(7,.int .i64 (k:Nat)),(3,.pointer (some ⟨b2,0,none⟩)),(2,.pointer (some ⟨b1,0,none⟩))]) (fun _=>[bH b2 (.cells #[.int .i64 q.lv,.int .i64 q.ma,.slice x1 q.sr.length LI,.slice x2 q.de.length LH,.slice x3 q.ti.length LG,.slice x4 q.po.length LF] 27 (0,0)),JQ b1 r (.slice a1 r.sr.length er) (.slice a2 r.de.length dA) (.slice a3 r.ti.length ee) (.slice a4 r.po.length gi)]) (fun k=>r.ti.length-k) ?_ ?_
 ·apply aI (0:Nat) ⟨Zi _,Iff.rfl⟩
  case hs1=>exact cg
  case ht=>
   exact .cons .here (.cons .here .nil)
 rintro k ⟨hk,hf⟩
 have el:r.ti.length=q.ti.length:=by omega
 by_cases aM:k<r.ti.length
 ·have ep:k<q.ti.length:=by omega
  have cG:=tM (fw aM)
  have RK:=ga3 (fw ep)
  have aB:=(ql k _ (eE aM)).2
  have ll:=(GK k _ (eE ep)).2
  have hd:=jU (l:=r.ti) (m:=q.ti) aM ep
  have fJ:r.ti[k]≠q.ti[k]→r.ti.drop k≠q.ti.drop k:=fun hne e=>hne (by
   rw [Zw aM,Zw ep] at e
   exact (List.cons.inj e).1)
  generalize r.ti[k]=x at aB hd fJ
  generalize q.ti[k]=y at ll hd fJ
  unfold Ti.cells at aB ll
  (refine Jq<|Jr<|Jv rfl<|bS rfl rfl ae<|JL rfl (.there .here) rfl<|JI rfl<|JA rfl<|Jn<|Jd rfl fun az=>Jk<|Jq<|J0<|Jq ?_)
  with_reducible refine dE 10 (by kernel_rfl) ?_
  (refine nF rfl rfl ae<|aF (gT (.there .here)) rfl<|ju rfl rfl<|aF (fM cG az) rfl<|aF (gW (ew.base aB rfl)) rfl<|nF rfl rfl ae<|aF (gT .here) rfl<|ju rfl rfl<|aF (ar (.of rfl) (.of rfl) RK (by omega) (by omega) bb) rfl<|aF (gW (ew.base ll rfl)) rfl ?_)
  with_reducible refine dI ?_
  (refine ab (ud (.of rfl) (.of rfl) (fj (jZ (jZ lT))) rfl) rfl<|Jn<|pt rfl (fun az=>?_) fun az=>?_;refine Jr<|Ja rfl<|Jn<|Je<|Jm<|Jh<|Jh<|Jm<|Jh<|JT ?_;rotate_left;refine Jw<|Jj<|Jt<|Jg<|Jv rfl<|JB rfl (by omega)<|Ja rfl<|Jn ?_;rotate_right)
  ·have hne:x≠y:=by
    intro e
    subst e
    simp at az
   rw [decide_eq_false fun e=>fJ hne (hf.1 (by rw [e]))]
  ·have he:x=y:=by
    obtain ⟨q1,q2,q3,_⟩:=az
    cases x;cases y
    dsimp only at q1 q2 q3
    subst q1;subst q2;subst q3
    rfl
   clear az
   apply aK (k+1) ⟨(show k+1≤r.ti.length from aM),hf.trans (hd he)⟩ (show r.ti.length-(k+1)<r.ti.length-k by omega)
   case hs1=>exact cg
   case ht=>
    exact .cons .here (.cons .here .nil)
 have z3:r.ti=q.ti:=by
  obtain rfl:k=r.ti.length:=by omega
  exact hf.2 (by rw [Z5,el,Z5])
 obtain rfl:k=r.ti.length:=by omega
 clear hk hf aM
 (refine Jq<|Jr<|Jv rfl<|bS rfl rfl ae<|JL rfl (.there .here) rfl<|JI rfl<|JA rfl<|Jn<|Jc rfl fun az=>Jp<|Jl<|Jo<|Jt<|Jq<|Jr<|Ja rfl<|Jn<|J0 ?_)
 refine aW (ι:=Nat) (fun k=>k≤r.po.length∧(r.po=q.po↔r.po.drop k=q.po.drop k)) (fun k=>[(8,.int .i64 (k:Nat)),(3,.pointer (some ⟨b2,0,none⟩)),(2,.pointer (some ⟨b1,0,none⟩))]) (fun _=>[bH b2 (.cells #[.int .i64 q.lv,.int .i64 q.ma,.slice x1 q.sr.length LI,.slice x2 q.de.length LH,.slice x3 q.ti.length LG,.slice x4 q.po.length LF] 27 (0,0)),JQ b1 r (.slice a1 r.sr.length er) (.slice a2 r.de.length dA) (.slice a3 r.ti.length ee) (.slice a4 r.po.length gi)]) (fun k=>r.po.length-k) ?_ ?_
 ·apply aI (0:Nat) ⟨Zi _,Iff.rfl⟩
  case hs1=>exact cg
  case ht=>
   exact .cons .here (.cons .here .nil)
 rintro k ⟨hk,hf⟩
 have el:r.po.length=q.po.length:=by omega
 by_cases aM:k<r.po.length
 ·have ep:k<q.po.length:=by omega
  have cG:=G4 (ko aM)
  have RK:=ga4 (ko ep)
  have aB:=(Ac k _ (iy aM)).2
  have ll:=(UQ k _ (iy ep)).2
  have hd:=jU (l:=r.po) (m:=q.po) aM ep
  have fJ:r.po[k]≠q.po[k]→r.po.drop k≠q.po.drop k:=fun hne e=>hne (by
   rw [Zw aM,Zw ep] at e
   exact (List.cons.inj e).1)
  generalize r.po[k]=x at aB hd fJ
  generalize q.po[k]=y at ll hd fJ
  unfold Po.cells at aB ll
  (refine Jq<|Jr<|Jv rfl<|bS rfl rfl ae<|JL rfl (.there .here) rfl<|JI rfl<|JA rfl<|Jn<|Jd rfl fun az=>Jk<|Jq<|J0<|Jq ?_)
  with_reducible refine dE 10 (by kernel_rfl) ?_
  (refine nF rfl rfl ae<|aF (gT (.there .here)) rfl<|ju rfl rfl<|aF (fM cG az) rfl<|aF (gW (ew.base aB rfl)) rfl<|nF rfl rfl ae<|aF (gT .here) rfl<|ju rfl rfl<|aF (ar (.of rfl) (.of rfl) RK (by omega) (by omega) bb) rfl<|aF (gW (ew.base ll rfl)) rfl ?_)
  with_reducible refine dI ?_
  (refine ab (ud (.of rfl) (.of rfl) (jZ (fj (fj lT))) rfl) rfl<|Jn<|pt rfl (fun az=>?_) fun az=>?_;refine Jr<|Ja rfl<|Jn<|Je<|Jm<|Jh<|Jh<|Jm<|Jh<|JT ?_;rotate_left;refine Jw<|Jj<|Jt<|Jg<|Jv rfl<|JB rfl (by omega)<|Ja rfl<|Jn ?_;rotate_right)
  ·have hne:x≠y:=by
    intro e
    subst e
    simp at az
   rw [decide_eq_false fun e=>fJ hne (hf.1 (by rw [e]))]
  ·have he:x=y:=by
    obtain ⟨q1,q2,q3,_⟩:=az
    cases x;cases y
    dsimp only at q1 q2 q3
    subst q1;subst q2;subst q3
    rfl
   clear az
   apply aK (k+1) ⟨(show k+1≤r.po.length from aM),hf.trans (hd he)⟩ (show r.po.length-(k+1)<r.po.length-k by omega)
   case hs1=>exact cg
   case ht=>
    exact .cons .here (.cons .here .nil)
 have z4:r.po=q.po:=by
  obtain rfl:k=r.po.length:=by omega
  exact hf.2 (by rw [Z5,el,Z5])
 obtain rfl:k=r.po.length:=by omega
 clear hk hf aM
 (refine Jq<|Jr<|Jv rfl<|bS rfl rfl ae<|JL rfl (.there .here) rfl<|JI rfl<|JA rfl<|Jn<|Jc rfl fun az=>Jp<|Jl<|Jo<|Jt<|Jr<|Ja rfl<|Jn<|Je<|JT ?_)
 rw [decide_eq_true (Tb.2 ⟨⟨⟨⟨⟨e1,e2⟩,z1⟩,z2⟩,z3⟩,z4⟩)]
theorem bu.Dl {P:Program} {f:FuncId} {args:List Value} {w:World} {md:List Nat} {E:TypeId} {sz n:Nat} {xs:List Value} {val:Value→Value} (h:bu P f args w md (fun _:Value=>True) val (fun v=>[row E sz v n xs])) :
  bu P f args w md (fun _:Option Addr×Nat=>True) (fun x=>val (.slice x.1 n x.2)) (fun x=>[row E sz (.slice x.1 n x.2) n xs]):=
 Calls.mono h fun e w' ⟨v,he,_,hk,fp,hn,hs,hf⟩=>by
  have hv:∃ x:Option Addr×Nat,v=.slice x.1 n x.2:=by
   obtain ⟨f1,f2,_,⟨_,_,⟨e1,e2⟩ | ⟨g,cap,cur,e1,_⟩⟩,_⟩:=hs
   ·exact ⟨(none,0),by rw [e1,e2]⟩
   ·exact ⟨(_,cap),e1⟩
  obtain ⟨x,rfl⟩:=hv
  exact ⟨x,he,trivial,hk,fp,hn,hs,hf⟩
def RJ:Value→Option Addr×Nat
 | .slice a _ c=>(a,c)
 | _=>(none,0)
theorem DZ (x:Option Addr×Nat):∃ v,RJ v=x:=⟨.slice x.1 0 x.2,rfl⟩
theorem Ma {kv:Value} {l:List fu} {w:World} (h:Rd w kv 2 (iF l)) (hM:sR w l) (hn:l.length≤1000) (hs:∀ x∈l,x.tk.so.length≤1000) :
  bu Tryz.prog 54 [kv] w [] (fun x:Value×List fu=>cr x.2=cr l) (fun x=>x.1) (fun x=>[row 69 2 x.1 x.2.length (iF x.2).flatten,Li x.2]):=by
 obtain ⟨a,cp,b,o,rfl,dj,bV,ha,hc⟩:=h
 rw [du] at *
 unfold maxLen at bV
 refine aS Tryz.func54 rfl rfl ?_
 refine Jr<|Ja rfl<|Ji<|Ja rfl<|Jn<|Jq<|Jr<|Jv rfl<|JI rfl<|Jv rfl<|Jn<|J0 ?_
 refine aQ 69 2 ?_
 refine jP 9 ?_
 refine aW (ι:=Nat×Value×List fu) (fun x=>x.1≤l.length∧cr x.2.2=cr (l.take x.1)) (fun x=>[(8,.int .i64 (x.1:Nat)),(7,.int .i64 (l.length:Nat)),(6,.slice a l.length cp),(3,x.2.1)])
  (fun x=>[row 69 2 x.2.1 x.2.2.length (iF x.2.2).flatten,mB 9 (x.2.2.map fu.v) (x.2.2.map fun y=>aL y.tk.so)]) (fun x=>l.length-x.1) ?_ ?_
 ·apply aI (0,.slice none 0 0,[]) ⟨Zi _,rfl⟩
  case hs1=>exact cg
  case ht=>
   exact .cons (.there .here) (.cons .here .nil)
 rintro ⟨k,v,W⟩ ⟨hk,hW⟩
 dsimp only at hk hW ⊢
 have RD:W.length=k:=by
  have:=congrArg List.length hW
  unfold cr at this
  rw [Zd,Zd,Zr] at this
  omega
 by_cases aM:k<l.length
 ·have cG:=ha (jk aM)
  have aB:=(hc k _ (jy aM)).2
  have hx:=hM _ (Zj aM)
  have TC:=hs _ (Zj aM)
  have htk:cr (l.take (k+1))=cr (l.take k)++[l[k].tk]:=by
   unfold cr
   rw [Zn aM,Zs];rfl
  have sy:(iF W).flatten.length=W.length*2:=by rw [fG (zd W),du]
  have gR:=Rd.one hx
  unfold fu.cells at aB
  generalize l[k]=x at aB hx TC htk gR
  obtain ⟨⟨xd,xs⟩,xv⟩:=x
  dsimp only at aB hx TC htk gR
  have WO:∀ w',aJ [] w w'→bu Tryz.prog 72 [xv] w' [] (fun _:Option Addr×Nat=>True) (fun z=>.slice z.1 xs.length z.2) (fun z=>[row 9 1 (.slice z.1 xs.length z.2) xs.length (aL xs)]):=fun w' hk=>bu.Dl (val:=id) (Eu (hx.keeps hk) (by omega))
  refine aT (E:=69) (sz:=2) (v:=v) (by exact .here) fun va vc e=>?_
  subst e
  (refine Jr<|JA rfl<|Jn<|Jq<|Jd rfl fun az=>Jk<|Jq<|J0<|Jr<|ab (fM cG az) rfl<|ab (gW (ew.base aB rfl)) rfl<|Jz rfl rfl fun _ _=>aq (.of rfl) (.of rfl) .here rfl rfl (fY rfl gR) (bG rfl) ak<|Jn ?_)
  with_reducible refine dL 8 (by kernel_rfl) ?_
  (refine an (fun β=>(aN (.of rfl))) bz rfl<|an (fun β=>(au (.of rfl) ae)) bz rfl<|an (fun β=>(ag (.of rfl) (At.lit .here rfl))) bz rfl<|an (fun β=>(au (.of rfl) ae)) bz rfl<|an (fun β=>(ag (.of rfl) (At.lit .here rfl))) bz rfl ?_)
  dsimp only [Nat.zero_add,Nat.reduceAdd]
  with_reducible apply dp (ι:=Option Addr×Nat) (Φ:=fun _=>True) (val:=fun z=>.slice z.1 xs.length z.2) (own:=fun z=>[row 9 1 (.slice z.1 xs.length z.2) xs.length (aL xs)]) (g:=RJ) (B:=[]) (args:=fun _=>[xv])
  case hg=>exact DZ
  case hB=>rfl
  case hr=>exact fun β=>aZ (.of rfl) (.cons (.of rfl) .nil) inferInstance rfl
  case hd=>rfl
  case hc=>exact fun β w' hb=>WO w' hb.mem.keeps
  dsimp only [Nat.reduceAdd]
  with_reducible apply an
  case hr=>(intro β;exact aU (.cons (.of rfl) (.cons (.of rfl) .nil)) ak)
  case hi=>exact fun β β' h=>by simp only [h 5 (by kernel_rfl)]
  case hd=>rfl
  dsimp only [Nat.reduceAdd]
  with_reducible apply kA
  case hr=>(intro β;exact bB (.cons (.of rfl) .nil) rfl rfl bQ bQ ak)
  case hi=>exact fun β β' h=>by simp only [h 5 (by decide) (by kernel_rfl)]
  case hd=>rfl
  dsimp only [Nat.reduceAdd]
  refine fh fun β=>?_
  dsimp only [ei,Za,Zb,List.append_eq,Nat.reduceAdd]
  generalize fm (β 7)=b7
  generalize RJ (β 5)=y
  obtain ⟨ya,yc⟩:=y
  clear β
  dsimp only
  refine cC (rs:=[8]) (by kernel_rfl) (by simp) (ZA.2 ⟨?_,fun _ h=>absurd h Zp⟩)
  refine cQ rfl ?_
  refine bF (.of rfl) (.of rfl) cW (.there .here) ak (by rfl) (fY rfl rfl) (by rfl) (by rfl) (by rfl) eC (by rfl) ?_
  intro v'
  refine Jn ?_
  refine cC (rs:=[9]) (by kernel_rfl) (by simp) (ZA.2 ⟨?_,fun _ h=>absurd h Zp⟩)
  refine cQ rfl ?_
  refine Ja rfl<|Jn ?_
  with_reducible refine cH (by kernel_rfl) ?_
  refine Jj<|Jt<|Jg<|JB rfl (by omega)<|Jv rfl<|Jn ?_
  have T2:(aL xs).length=xs.length:=c7 xs
  with_reducible apply k8 (E:=9) (vs:=W.map fu.v) (xs:=W.map fun y=>aL y.tk.so) (v:=.slice ya xs.length yc) (x:=aL xs) (n:=xs.length)
  case ht=>exact dT
  case ht2=>exact Take.there .here
  case hn=>exact T2.symm
  case hl=>rw [Zd,Zd]
  case k=>
   apply aK (k+1,v',W++[⟨⟨xd,xs⟩,.slice ya xs.length yc⟩]) ⟨by show k+1≤_;omega,by
    show cr (W++[_])=_
    unfold cr at hW htk ⊢
    rw [Zs,hW];exact htk.symm⟩ (by show l.length-(k+1)<l.length-k;omega)
   case hs1=>exact cg
   case ht=>
    dsimp only
    rw [ze,Zg,Zs,Zs]
    simp only [Z8,Zf,ZL,Zai,ZC]
    exact .cons (.there .here) (.cons .here .nil)
 ·have e:k=l.length:=by omega
  rw [e,ZN] at hW
  refine aT (E:=69) (sz:=2) (v:=v) (by exact .here) fun va vc e=>?_
  subst e
  refine Jr<|JA rfl<|Jn<|Jq<|Jc rfl fun az=>Jp<|Jl<|Jo<|Jt<|Jr<|Jv rfl<|Ja rfl<|Jn<|Je ?_
  first | with_reducible apply aO | with_reducible apply aP
  case he=>exact dH rfl rfl
  case hR=>
   intro w' aA
   exact aG (.slice va W.length vc,W) hW (by exact .cons .here (.cons .here .nil)) aA rfl
theorem Fj {kv:Value} {l:List fu} {w:World} (h:Rd w kv 2 (iF l)) (hM:sR w l) (hn:l.length≤1000) (hs:∀ x∈l,x.tk.so.length≤1000) :
  bu Tryz.prog 46 [kv] w [] (fun x:Value×List fu=>cr x.2=cr l) (fun x=>x.1) (fun x=>[row 78 2 x.1 x.2.length (iF x.2).flatten,Li x.2]):=by
 obtain ⟨a,cp,b,o,rfl,dj,bV,ha,hc⟩:=h
 rw [du] at *
 unfold maxLen at bV
 refine aS Tryz.func46 rfl rfl ?_
 refine Jr<|Ja rfl<|Ji<|Ja rfl<|Jn<|Jq<|Jr<|Jv rfl<|JI rfl<|Jv rfl<|Jn<|J0 ?_
 refine aQ 78 2 ?_
 refine jP 9 ?_
 refine aW (ι:=Nat×Value×List fu) (fun x=>x.1≤l.length∧cr x.2.2=cr (l.take x.1)) (fun x=>[(8,.int .i64 (x.1:Nat)),(7,.int .i64 (l.length:Nat)),(6,.slice a l.length cp),(3,x.2.1)])
  (fun x=>[row 78 2 x.2.1 x.2.2.length (iF x.2.2).flatten,mB 9 (x.2.2.map fu.v) (x.2.2.map fun y=>aL y.tk.so)]) (fun x=>l.length-x.1) ?_ ?_
 ·apply aI (0,.slice none 0 0,[]) ⟨Zi _,rfl⟩
  case hs1=>exact cg
  case ht=>
   exact .cons (.there .here) (.cons .here .nil)
 rintro ⟨k,v,W⟩ ⟨hk,hW⟩
 dsimp only at hk hW ⊢
 have RD:W.length=k:=by
  have:=congrArg List.length hW
  unfold cr at this
  rw [Zd,Zd,Zr] at this
  omega
 by_cases aM:k<l.length
 ·have cG:=ha (jk aM)
  have aB:=(hc k _ (jy aM)).2
  have hx:=hM _ (Zj aM)
  have TC:=hs _ (Zj aM)
  have htk:cr (l.take (k+1))=cr (l.take k)++[l[k].tk]:=by
   unfold cr
   rw [Zn aM,Zs];rfl
  have sy:(iF W).flatten.length=W.length*2:=by rw [fG (zd W),du]
  have gR:=Rd.one hx
  unfold fu.cells at aB
  generalize l[k]=x at aB hx TC htk gR
  obtain ⟨⟨xd,xs⟩,xv⟩:=x
  dsimp only at aB hx TC htk gR
  have WO:∀ w',aJ [] w w'→bu Tryz.prog 72 [xv] w' [] (fun _:Option Addr×Nat=>True) (fun z=>.slice z.1 xs.length z.2) (fun z=>[row 9 1 (.slice z.1 xs.length z.2) xs.length (aL xs)]):=fun w' hk=>bu.Dl (val:=id) (Eu (hx.keeps hk) (by omega))
  refine aT (E:=78) (sz:=2) (v:=v) (by exact .here) fun va vc e=>?_
  subst e
  (refine Jr<|JA rfl<|Jn<|Jq<|Jd rfl fun az=>Jk<|Jq<|J0<|Jr<|ab (fM cG az) rfl<|ab (gW (ew.base aB rfl)) rfl<|Jz rfl rfl fun _ _=>aq (.of rfl) (.of rfl) .here rfl rfl (fY rfl gR) (bG rfl) ak<|Jn ?_)
  with_reducible refine dL 8 (by kernel_rfl) ?_
  (refine an (fun β=>(aN (.of rfl))) bz rfl<|an (fun β=>(au (.of rfl) ae)) bz rfl<|an (fun β=>(ag (.of rfl) (At.lit .here rfl))) bz rfl<|an (fun β=>(au (.of rfl) ae)) bz rfl<|an (fun β=>(ag (.of rfl) (At.lit .here rfl))) bz rfl ?_)
  dsimp only [Nat.zero_add,Nat.reduceAdd]
  with_reducible apply dp (ι:=Option Addr×Nat) (Φ:=fun _=>True) (val:=fun z=>.slice z.1 xs.length z.2) (own:=fun z=>[row 9 1 (.slice z.1 xs.length z.2) xs.length (aL xs)]) (g:=RJ) (B:=[]) (args:=fun _=>[xv])
  case hg=>exact DZ
  case hB=>rfl
  case hr=>exact fun β=>aZ (.of rfl) (.cons (.of rfl) .nil) inferInstance rfl
  case hd=>rfl
  case hc=>exact fun β w' hb=>WO w' hb.mem.keeps
  dsimp only [Nat.reduceAdd]
  with_reducible apply an
  case hr=>(intro β;exact aU (.cons (.of rfl) (.cons (.of rfl) .nil)) ak)
  case hi=>exact fun β β' h=>by simp only [h 5 (by kernel_rfl)]
  case hd=>rfl
  dsimp only [Nat.reduceAdd]
  with_reducible apply kA
  case hr=>(intro β;exact bB (.cons (.of rfl) .nil) rfl rfl bQ bQ ak)
  case hi=>exact fun β β' h=>by simp only [h 5 (by decide) (by kernel_rfl)]
  case hd=>rfl
  dsimp only [Nat.reduceAdd]
  refine fh fun β=>?_
  dsimp only [ei,Za,Zb,List.append_eq,Nat.reduceAdd]
  generalize fm (β 7)=b7
  generalize RJ (β 5)=y
  obtain ⟨ya,yc⟩:=y
  clear β
  dsimp only
  refine cC (rs:=[8]) (by kernel_rfl) (by simp) (ZA.2 ⟨?_,fun _ h=>absurd h Zp⟩)
  refine cQ rfl ?_
  refine bF (.of rfl) (.of rfl) cW (.there .here) ak (by rfl) (fY rfl rfl) (by rfl) (by rfl) (by rfl) eC (by rfl) ?_
  intro v'
  refine Jn ?_
  refine cC (rs:=[9]) (by kernel_rfl) (by simp) (ZA.2 ⟨?_,fun _ h=>absurd h Zp⟩)
  refine cQ rfl ?_
  refine Ja rfl<|Jn ?_
  with_reducible refine cH (by kernel_rfl) ?_
  refine Jj<|Jt<|Jg<|JB rfl (by omega)<|Jv rfl<|Jn ?_
  have T2:(aL xs).length=xs.length:=c7 xs
  with_reducible apply k8 (E:=9) (vs:=W.map fu.v) (xs:=W.map fun y=>aL y.tk.so) (v:=.slice ya xs.length yc) (x:=aL xs) (n:=xs.length)
  case ht=>exact dT
  case ht2=>exact Take.there .here
  case hn=>exact T2.symm
  case hl=>rw [Zd,Zd]
  case k=>
   apply aK (k+1,v',W++[⟨⟨xd,xs⟩,.slice ya xs.length yc⟩]) ⟨by show k+1≤_;omega,by
    show cr (W++[_])=_
    unfold cr at hW htk ⊢
    rw [Zs,hW];exact htk.symm⟩ (by show l.length-(k+1)<l.length-k;omega)
   case hs1=>exact cg
   case ht=>
    dsimp only
    rw [ze,Zg,Zs,Zs]
    simp only [Z8,Zf,ZL,Zai,ZC]
    exact .cons (.there .here) (.cons .here .nil)
 ·have e:k=l.length:=by omega
  rw [e,ZN] at hW
  refine aT (E:=78) (sz:=2) (v:=v) (by exact .here) fun va vc e=>?_
  subst e
  refine Jr<|JA rfl<|Jn<|Jq<|Jc rfl fun az=>Jp<|Jl<|Jo<|Jt<|Jr<|Jv rfl<|Ja rfl<|Jn<|Je ?_
  first | with_reducible apply aO | with_reducible apply aP
  case he=>exact dH rfl rfl
  case hR=>
   intro w' aA
   exact aG (.slice va W.length vc,W) hW (by exact .cons .here (.cons .here .nil)) aA rfl
def cV:ByteArray:=⟨#[99,97,109]⟩
def kp:ByteArray:=⟨#[118,116,114]⟩
def nJ:ByteArray:=⟨#[109,111,110]⟩
def dJ:ByteArray:=⟨#[97,105,114]⟩
def jl:ByteArray:=⟨#[114,101,99]⟩
def nT:ByteArray:=⟨#[116]⟩
def nU:ByteArray:=⟨#[117]⟩
def me:Ro:=⟨2,2,[⟨cV,0⟩,⟨kp,1⟩],[⟨nJ,0,false⟩,⟨dJ,1,false⟩,⟨jl,1,false⟩],[⟨nT,0,1⟩,⟨nU,0,1⟩],[]⟩
def nN:Tk:=⟨dJ,[cV,cV]⟩
def Ss:Tk:=⟨jl,[cV,⟨#[]⟩]⟩
def nM:Tk:=⟨dJ,[kp,kp]⟩
def Wu:List Po:=[⟨0,dJ,nT⟩,⟨0,nT,cV⟩,⟨1,dJ,nT⟩,⟨1,nT,cV⟩]
def Wt:List Po:=[⟨0,dJ,nT⟩,⟨0,jl,nT⟩,⟨0,nT,cV⟩,⟨1,dJ,nT⟩,⟨1,nT,cV⟩]
def Ws:List Po:=[⟨0,dJ,kp⟩,⟨0,jl,nT⟩,⟨0,nT,cV⟩,⟨1,dJ,kp⟩]
def fZ:Ro:={ me with po:=Wu }
def gQ:Ro:={ me with po:=Wt }
def wq:Ro:={ me with po:=Ws }
def Dm:Ro:=fZ.H8 nJ true
theorem U0:fX me=0:=by kernel_rfl
theorem Pb:FQ me 0 cV dJ=0∧C1 me 0 cV dJ=[nT]:=⟨by kernel_rfl,by kernel_rfl⟩
theorem UY:gI me [nN]=(fZ,0,0):=by kernel_rfl
theorem UX:gI fZ [Ss]=(gQ,0,0):=by kernel_rfl
theorem Ph:gI gQ [nM]=(wq,0,0):=by kernel_rfl
theorem UU:LS gQ [nM]=[nN]:=by kernel_rfl
theorem Pa:FQ me 0 kp nJ=18∧C1 me 0 kp nJ=[]:=⟨by kernel_rfl,by kernel_rfl⟩
theorem Pk:KB me 0 kp nJ=0∧GP me 0 kp nJ=[1]:=⟨by kernel_rfl,by kernel_rfl⟩
theorem U1:V2 me 0 kp nJ [0]=19:=by kernel_rfl
theorem UZ:B4 gQ jl=0∧DS gQ jl=[cV,⟨#[]⟩]:=⟨by kernel_rfl,by kernel_rfl⟩
theorem Pd:A2 fZ 0 dJ=0∧C2 fZ 0 dJ=[cV,nT,dJ]:=⟨by kernel_rfl,by kernel_rfl⟩
theorem Pm:Cz fZ 0=0∧Eg fZ 0=[nT]:=⟨by kernel_rfl,by kernel_rfl⟩
theorem Pc:Hh gQ 0 cV=0∧FU gQ 0 cV=[dJ,jl]:=⟨by kernel_rfl,by kernel_rfl⟩
theorem Pj:yk fZ nJ=0∧yj fZ nJ true=Dm:=⟨by kernel_rfl,by kernel_rfl⟩
theorem UW:(gI Dm [⟨jl,[⟨#[45]⟩,⟨#[]⟩]⟩,⟨nJ,[cV,cV]⟩]).2=(1,31):=by kernel_rfl
theorem Pg:qW me [⟨10,[nN]⟩,⟨12,[nM]⟩] dJ 9=0∧tJ me [⟨10,[nN]⟩,⟨12,[nM]⟩] dJ 9=[⟨#[]⟩,⟨#[]⟩]:=⟨by kernel_rfl,by kernel_rfl⟩
theorem Pf:qW me [⟨10,[nN]⟩,⟨12,[nM]⟩] dJ 11=0∧tJ me [⟨10,[nN]⟩,⟨12,[nM]⟩] dJ 11=[cV,cV]:=⟨by kernel_rfl,by kernel_rfl⟩
theorem Pe:qW me [⟨10,[nN]⟩,⟨12,[nM]⟩] dJ 12=0∧tJ me [⟨10,[nN]⟩,⟨12,[nM]⟩] dJ 12=[kp,kp]:=⟨by kernel_rfl,by kernel_rfl⟩
theorem RP:H7 me=⟨#[114,111,117,116,101,114,32,50,32,50,10,115,111,117,114,99,101,32,99,97,109,32,48,10,115,111,117,114,99,101,32,118,116,114,32,49,10,100,101,115,116,105,110,97,116,105,111,110,32,109,111,110,32,48,32,102,114,101,101,10,100,101,115,116,105,110,97,116,105,111,110,32,97,105,114,32,49,32,102,114,101,101,10,100,101,115,116,105,110,97,116,105,111,110,32,114,101,99,32,49,32,102,114,101,101,10,116,105,101,32,116,32,48,32,49,10,116,105,101,32,117,32,48,32,49,10]⟩:=by kernel_rfl
theorem NW (w:World):bu Tryz.prog 105 [] w [] (fun _:Value×Value×Value×Value=>True) (fun x=>RA me x.1 x.2.1 x.2.2.1 x.2.2.2) (fun x=>nS me x):=by
 unfold RA
 refine aS Tryz.func105 rfl rfl ?_
 (refine Jr<|Jz rfl rfl fun _ _=>Ji<|ab (aU (.cons (.of rfl) .nil) ak) rfl<|ab (aU (.cons (.of rfl) (.cons (.of rfl) .nil)) ak) rfl<|br (bB (.cons (.of rfl) (.cons (.of rfl) .nil)) rfl rfl bQ bQ ak) rfl fun _ _=>ab (aU (.cons (.of rfl) .nil) ak) rfl<|ab (aU (.cons (.of rfl) (.cons (.of rfl) .nil)) ak) rfl<|ab (aU (.cons (.of rfl) (.cons (.of rfl) .nil)) ak) rfl<|br (bB (.cons (.of rfl) (.cons (.of rfl) (.cons (.of rfl) .nil))) rfl rfl bQ bQ ak) rfl fun _ _=>ab (aU (.cons (.of rfl) (.cons (.of rfl) .nil)) ak) rfl<|ab (aU (.cons (.of rfl) (.cons (.of rfl) .nil)) ak) rfl<|br (bB (.cons (.of rfl) (.cons (.of rfl) .nil)) rfl rfl bQ bQ ak) rfl fun _ _=>ab (aU (.cons (.of rfl) (.cons (.of rfl) (.cons (.of rfl) (.cons (.of rfl) (.cons (.of rfl) .nil))))) ak) rfl<|aq (.of rfl) (.of rfl) cW rfl rfl (gA rfl rfl rfl rfl rfl rfl) (bG rfl) ak<|Jn<|Je ?_)
 rename_i b0 hb0 b1 tw b2 tL b3 vI
 refine bZ (g:=b1) (E:=186) (ys:=nZ me.sr) 2 2 cW (by exact rfl) rfl rfl ?_
 refine bZ (g:=b2) (E:=90) (ys:=iZ me.de) 3 3 cW (by exact rfl) rfl rfl ?_
 refine bZ (g:=b3) (E:=187) (ys:=pV me.ti) 2 3 cW (by exact rfl) rfl rfl ?_
 refine aQ 188 3 ?_
 first | with_reducible apply aO | with_reducible apply aP
 case he=>exact kR rfl inferInstance rfl dT ak (by rfl)
 case hR=>
  intro w' aA
  exact aG (.slice (some ⟨b1,0,none⟩) 2 2,.slice (some ⟨b2,0,none⟩) 3 3,.slice (some ⟨b3,0,none⟩) 2 2,.slice none 0 0) trivial (by exact .cons cW (.cons bL (.cons (.there .here) (.cons .here .nil)))) aA rfl
theorem RT (w:World):bu Tryz.prog 106 [] w [] (fun _:Option Addr×Nat=>True) (fun x=>.agg (fu.cells ⟨nN,.slice x.1 2 x.2⟩).toArray) (fun x=>[row 9 1 (.slice x.1 2 x.2) 2 (aL nN.so)]):=by
 unfold fu.cells
 refine aS Tryz.func106 rfl rfl ?_
 (refine Jr<|Jz rfl rfl fun _ _=>Ji<|br (aC (.cons (.of rfl) (.cons (.of rfl) .nil)) rfl rfl rfl rfl) rfl fun _ _=>ab (aU (.cons (.of rfl) (.cons (.of rfl) .nil)) ak) rfl<|aq (.of rfl) (.of rfl) (.there .here) rfl rfl (fY rfl rfl) (bG rfl) ak<|Jn<|Je ?_)
 rename_i b0 hb0 b1 tw
 refine bZ (g:=b1) (E:=9) (ys:=aL nN.so) 2 1 (by exact Take.there .here) (by exact rfl) rfl rfl ?_
 first | with_reducible apply aO | with_reducible apply aP
 case he=>exact kR rfl inferInstance rfl (.there .here) ak (by rfl)
 case hR=>
  intro w' aA
  exact aG (some ⟨b1,0,none⟩,2) trivial (by exact .cons .here .nil) aA rfl
theorem RS (w:World):bu Tryz.prog 107 [] w [] (fun _:Option Addr×Nat=>True) (fun x=>.agg (fu.cells ⟨Ss,.slice x.1 2 x.2⟩).toArray) (fun x=>[row 9 1 (.slice x.1 2 x.2) 2 (aL Ss.so)]):=by
 unfold fu.cells
 refine aS Tryz.func107 rfl rfl ?_
 (refine Jr<|Jz rfl rfl fun _ _=>Ji<|br (aC (.cons (.of rfl) (.cons (.of rfl) .nil)) rfl rfl rfl rfl) rfl fun _ _=>ab (aU (.cons (.of rfl) (.cons (.of rfl) .nil)) ak) rfl<|aq (.of rfl) (.of rfl) (.there .here) rfl rfl (fY rfl rfl) (bG rfl) ak<|Jn<|Je ?_)
 rename_i b0 hb0 b1 tw
 refine bZ (g:=b1) (E:=9) (ys:=aL Ss.so) 2 1 (by exact Take.there .here) (by exact rfl) rfl rfl ?_
 first | with_reducible apply aO | with_reducible apply aP
 case he=>exact kR rfl inferInstance rfl (.there .here) ak (by rfl)
 case hR=>
  intro w' aA
  exact aG (some ⟨b1,0,none⟩,2) trivial (by exact .cons .here .nil) aA rfl
theorem RQ (w:World):bu Tryz.prog 108 [] w [] (fun _:Option Addr×Nat=>True) (fun x=>.agg (fu.cells ⟨nM,.slice x.1 2 x.2⟩).toArray) (fun x=>[row 9 1 (.slice x.1 2 x.2) 2 (aL nM.so)]):=by
 unfold fu.cells
 refine aS Tryz.func108 rfl rfl ?_
 (refine Jr<|Jz rfl rfl fun _ _=>Ji<|br (aC (.cons (.of rfl) (.cons (.of rfl) .nil)) rfl rfl rfl rfl) rfl fun _ _=>ab (aU (.cons (.of rfl) (.cons (.of rfl) .nil)) ak) rfl<|aq (.of rfl) (.of rfl) (.there .here) rfl rfl (fY rfl rfl) (bG rfl) ak<|Jn<|Je ?_)
 rename_i b0 hb0 b1 tw
 refine bZ (g:=b1) (E:=9) (ys:=aL nM.so) 2 1 (by exact Take.there .here) (by exact rfl) rfl rfl ?_
 first | with_reducible apply aO | with_reducible apply aP
 case he=>exact kR rfl inferInstance rfl (.there .here) ak (by rfl)
 case hR=>
  intro w' aA
  exact aG (some ⟨b1,0,none⟩,2) trivial (by exact .cons .here .nil) aA rfl
instance :DecidableEq Tk:=fun a b=>decidable_of_iff (a.de=b.de∧a.so=b.so) (by cases a;cases b;simp)
theorem xW {c:Cx} {hs hs':List bd} {w:World} {r:Ro} {x:Value×Value×Value×Value} (hm:Mem c hs w) (ht:bD hs (nS r x) hs'):RR w r x.1 x.2.1 x.2.2.1 x.2.2.2:=by
 have ml:=hm.jo ht
 exact ⟨cK ml .here rfl,cL ml (.there .here) rfl,cJ ml bL rfl,cE ml cW rfl⟩
theorem xV {c:Cx} {hs hs':List bd} {w:World} {r:Ro} {x:Value×Value×Value×Value} (hm:Mem c hs w) (ht:bD hs (AI r x) hs'):RR w r x.1 x.2.1 x.2.2.1 x.2.2.2:=by
 have ml:=hm.jo ht
 exact ⟨cK ml .here rfl,cL ml (.there .here) rfl,cJ ml bL rfl,cE ml cW rfl⟩
theorem ki {c:Cx} {D:List Nat} {sl:aH} {hs hs':List bd} {X:Act→World→Prop} {r:Ro} {s d t p:Value} (ht:bD hs (AI r (s,d,t,p)) hs')
  (k:s.oneCell'=true→d.oneCell'=true→t.oneCell'=true→p.oneCell'=true→Tr c D sl (row 118 2 s r.sr.length (nZ r.sr)::row 88 3 d r.de.length (iZ r.de)::row 122 3 t r.ti.length (pV r.ti)::row 180 3 p r.po.length (fO r.po)::hs') X):Tr c D sl hs X:=by
 intro a w bh
 have hm:=bh.mem.jo (ht.append (mE D))
 have k2:Tr c D sl (row 118 2 s r.sr.length (nZ r.sr)::row 88 3 d r.de.length (iZ r.de)::row 122 3 t r.ti.length (pV r.ti)::row 180 3 p r.po.length (fO r.po)::hs') X:=by
  refine aT (E:=118) (sz:=2) (v:=s) .here fun _ _ e=>?_
  have k1:s.oneCell'=true:=by rw [e];rfl
  clear e
  refine aT (E:=88) (sz:=3) (v:=d) (.there .here) fun _ _ e=>?_
  have k2:d.oneCell'=true:=by rw [e];rfl
  clear e
  refine aT (E:=122) (sz:=3) (v:=t) bL fun _ _ e=>?_
  have k3:t.oneCell'=true:=by rw [e];rfl
  clear e
  refine aT (E:=180) (sz:=3) (v:=p) cW fun _ _ e=>?_
  have k4:p.oneCell'=true:=by rw [e];rfl
  clear e
  exact k k1 k2 k3 k4
 exact k2 a w (bh.heap hm)
theorem CG {v1 v2:Value} {l m:List fu} {w:World} (h1:Rd w v1 2 (iF l)) (Yt:sR w l) (h2:Rd w v2 2 (iF m)) (Ys:sR w m) :
  aj Tryz.prog 53 [v1,v2] w (.bool (decide (cr l=cr m))):=by
 obtain ⟨a1,U6,b1,o1,rfl,pM,jf,lW,kF⟩:=h1
 obtain ⟨a2,nR,b2,o2,rfl,kE,fk,jD,jS⟩:=h2
 rw [du] at *
 rw [du] at *
 unfold maxLen at jf fk
 refine ah Tryz.func53 rfl rfl ?_
 (refine Jr<|Ja rfl<|Jn<|Jq<|Jr<|Jv rfl<|JI rfl<|Jv rfl<|JI rfl<|JD rfl<|Jn<|gm rfl (fun az=>?_) fun az=>?_;refine Jr<|Ja rfl<|Jn<|Ju<|JT ?_;rotate_left;refine Jk<|Jq<|Jr<|Ja rfl<|Jn<|J0 ?_;rotate_right)
 ·rw [decide_eq_false fun e=>az (by have:=congrArg List.length e;unfold cr at this;rw [Zd,Zd] at this;rw [this])]
 have Ue:l.length=m.length:=by omega
 refine aW (ι:=Nat) (fun k=>k≤l.length∧(cr l=cr m↔cr (l.drop k)=cr (m.drop k))) (fun k=>[(5,.int .i64 (k:Int)),(0,.slice a1 l.length U6),(1,.slice a2 m.length nR)]) (fun _=>[]) (fun k=>l.length-k) ?_ ?_
 ·apply aI (0:Nat) ⟨Zi _,Iff.rfl⟩
  case hs1=>exact cg
  case ht=>(try simp only [Ze,Zf,Za]);exact .nil
 rintro k ⟨hk,hf⟩
 by_cases aM:k<l.length
 ·have ep:k<m.length:=by omega
  have GH:=lW (jk aM)
  have tN:=jD (jk ep)
  have lk:=(kF k _ (jy aM)).2
  have eT:=(jS k _ (jy ep)).2
  have x1:=Yt _ (Zj aM)
  have x2:=Ys _ (Zj ep)
  have hd:cr (l.drop k)=cr (m.drop k)↔(l[k].tk=m[k].tk∧cr (l.drop (k+1))=cr (m.drop (k+1))):=by
   rw [Zw aM,Zw ep]
   unfold cr
   rw [Z8,Z8]
   exact List.cons_eq_cons
  rw [hd] at hf
  clear hd
  unfold fu.cells at lk eT
  generalize l[k]=x at lk x1 hf
  generalize m[k]=y at eT x2 hf
  obtain ⟨⟨xd,xs⟩,xv⟩:=x
  obtain ⟨⟨yd,ys⟩,yv⟩:=y
  dsimp only at lk eT x1 x2 hf
  have c1:w.cell? ⟨b1,o1+k*2,none⟩=some (.string xd):=lk 0 _ rfl
  have c2:w.cell? ⟨b2,o2+k*2,none⟩=some (.string yd):=eT 0 _ rfl
  have c3:w.cell? ⟨b1,o1+k*2+1,none⟩=some xv:=lk 1 _ rfl
  have c4:w.cell? ⟨b2,o2+k*2+1,none⟩=some yv:=eT 1 _ rfl
  have VE:∀ w',aJ [] w w'→aj Tryz.prog 58 [xv,yv] w' (.bool (decide (xs=ys))):=fun w' hk=>zo (x1.keeps hk) (x2.keeps hk)
  refine Jq<|Jr<|Jv rfl<|Jv rfl<|JI rfl<|JA rfl<|Jn<|Jd rfl fun az=>Jk<|Jq<|J0<|Jq ?_
  with_reducible refine dE 25 (by kernel_rfl) ?_
  (refine ju rfl rfl<|ju rfl rfl<|aF (fM GH az) rfl<|nF rfl rfl ae<|aF (ag (.of rfl) (At.base c1 rfl)) rfl<|ju rfl rfl<|ju rfl rfl<|aF (ar (.of rfl) (.of rfl) tN (by omega) (by omega) bb) rfl<|nF rfl rfl ae<|aF (ag (.of rfl) (At.base c2 rfl)) rfl<|aF (eZ (.of rfl) (.of rfl)) rfl<|ju rfl rfl<|bn rfl rfl inferInstance (fun hg bA=>(aN (.of rfl))) rfl<|bn rfl rfl inferInstance (fun hg bA=>(aN (.of rfl))) rfl<|bn rfl rfl inferInstance (fun hg bA=>(ar (.bI hg rfl) (.bI hg rfl) GH (by omega) az bb)) rfl<|bn rfl rfl inferInstance (fun hg bA=>(au (.bI hg rfl) ae)) rfl<|bn rfl rfl inferInstance (fun hg bA=>(ag (.bI hg rfl) (At.base c3 rfl))) rfl<|bn rfl rfl inferInstance (fun hg bA=>(aN (.of rfl))) rfl<|bn rfl rfl inferInstance (fun hg bA=>(aN (.of rfl))) rfl<|bn rfl rfl inferInstance (fun hg bA=>(ar (.bI hg rfl) (.bI hg rfl) tN (by omega) (by omega) bb)) rfl<|bn rfl rfl inferInstance (fun hg bA=>(au (.bI hg rfl) ae)) rfl<|bn rfl rfl inferInstance (fun hg bA=>(ag (.bI hg rfl) (At.base c4 rfl))) rfl<|qF rfl rfl (fun hg=>(aZ (.of rfl) (.cons (.bI hg rfl) (.cons (.bI hg rfl) .nil)) inferInstance ez)) rfl (fun hg w' aA=>(VE w' (Mem.keeps aA)))<|bn rfl rfl inferInstance (fun hg bA=>(dU (.bI hg rfl))) rfl<|aF (a7 (.of rfl) rfl) rfl ?_)
  with_reducible refine dI ?_
  (refine Jn<|pt rfl (fun az=>?_) fun az=>?_;refine Jr<|Ja rfl<|Jn<|Je<|Jm<|Jh<|Jh<|Jm<|Jh<|JT ?_;rotate_left;refine Jw<|Jj<|Jt<|Jg<|Jv rfl<|JB rfl (by omega)<|Ja rfl<|Jn ?_;rotate_right)
  ·have hne:¬ cr l=cr m:=fun e=>by
    obtain ⟨e1,_⟩:=hf.1 e
    injection e1 with e2 e3
    rcases az with h | h
    ·exact h e2
    ·exact h e3
   rw [decide_eq_false hne]
  ·obtain ⟨q1,q2⟩:=az
   have q1:=Zo.1 q1
   subst q1;subst q2
   clear VE
   apply aK (k+1) ⟨(show k+1≤l.length from aM),hf.trans ⟨fun e=>e.2,fun e=>⟨rfl,e⟩⟩⟩ (show l.length-(k+1)<l.length-k by omega)
   case hs1=>exact cg
   case ht=>(try simp only [Ze,Zf,Za]);exact .nil
 ·obtain rfl:k=l.length:=by omega
  have:cr l=cr m:=hf.2 (by rw [Z5,Ue,Z5])
  refine Jq<|Jr<|Jv rfl<|Jv rfl<|JI rfl<|JA rfl<|Jn<|Jc rfl fun az=>Jp<|Jl<|Jo<|Jt<|Jr<|Ja rfl<|Jn<|Je<|JT ?_
  rw [decide_eq_true this]
theorem Ic {r:Ro} {s d t p v:Value} {q:List Po} {w:World} (h:RR w r s d t p) (cT:mn r) (hv:Rd w v 3 (td q)):aj Tryz.prog 110 [RA r s d t p,v] w (.bool (decide (r.po=q))):=by
 have h1:=Rd.one h.sr
 have h2:=Rd.one h.de
 have h3:=Rd.one h.ti
 have h4:=Rd.one h.po
 have hv2:=hv
 obtain ⟨av,cv,bv,ov,rfl,_,_,_,_⟩:=hv2
 rw [c6] at *
 have ht:∀ w',aJ [] w w'→bu Tryz.prog 57 [.agg #[.int .i64 r.lv,.int .i64 r.ma,s,d,t,p]] w' [] (fun _:Value×Value×Value×Value=>True) (fun x=>RA r x.1 x.2.1 x.2.2.1 x.2.2.2) (fun x=>AI r x):=fun w' hk=>C8 (h.keeps hk) cT
 unfold RA at ht ⊢
 refine ah Tryz.func110 rfl rfl ?_
 refine Jr<|Jy rfl rfl fun _ _=>Ja rfl<|Ji<|ab (cR .here) rfl ?_
 refine JN bN rfl (fun w1 aR=>ht w1 aR.keeps) ?_
 rintro ⟨s1,d1,t1,p1⟩ _
 dsimp only
 try unfold RA
 refine ki (r:=r) (s:=s1) (d:=d1) (t:=t1) (p:=p1) (a8 _ _) fun k1 k2 k3 k4=>?_
 (refine Jz rfl rfl fun _ _=>aq (.of rfl) (.of rfl) .here rfl rfl (gA rfl rfl k1 k2 k3 k4) (bG rfl) ak<|Ji<|Jv rfl<|bS rfl rfl ae<|aq (.of rfl) (.of rfl) .here rfl rfl (en rfl) (bG rfl) ak<|Jn<|Jq ?_)
 with_reducible refine dL 5 (by kernel_rfl) ?_
 refine an (fun β=>(bT (.of rfl) eX ak (by rfl))) bz rfl ?_
 dsimp only [Nat.zero_add,Nat.reduceAdd]
 with_reducible apply dp (ι:=Value×Value×Value×Value) (Φ:=fun _=>True) (val:=fun x=>.agg #[.int .i64 r.lv,.int .i64 r.ma,x.1,x.2.1,x.2.2.1,x.2.2.2]) (own:=fun x=>AI r x) (g:=g4) (B:=[]) (args:=fun _=>[.agg #[.int .i64 r.lv,.int .i64 r.ma,s,d,t,p]])
 case hg=>exact ln
 case hB=>rfl
 case hr=>exact fun β=>aZ (.of rfl) (.cons (.of rfl) .nil) inferInstance rfl
 case hd=>rfl
 case hc=>exact fun β w' hb=>ht w' hb.mem.keeps
 dsimp only [Nat.reduceAdd]
 refine an (fun β=>(bT (.of rfl) .here ak (by rfl))) bz rfl ?_
 dsimp only [Nat.reduceAdd]
 with_reducible apply dd (B:=[1]) (F:=fun _=>.bool (decide (r={ r with po:=q }))) (args:=fun β=>[.agg #[.int .i64 r.lv,.int .i64 r.ma,(g4 (β 1)).1,(g4 (β 1)).2.1,(g4 (β 1)).2.2.1,(g4 (β 1)).2.2.2],.agg #[.int .i64 r.lv,.int .i64 r.ma,s1,d1,t1,.slice av q.length cv]])
 case hB=>kernel_rfl
 case hr=>exact fun β=>aZ (.of rfl) (.cons (.of rfl) (.cons (.of rfl) .nil)) inferInstance rfl
 case hi=>exact bz
 case hd=>rfl
 case hc=>
  intro β w' dz
  have m1:=dz.at 1 Zq (s:=⟨fun β=>.agg #[.int .i64 r.lv,.int .i64 r.ma,(g4 (β 1)).1,(g4 (β 1)).2.1,(g4 (β 1)).2.2.1,(g4 (β 1)).2.2.2],fun β=>AI r (g4 (β 1))⟩) (by kernel_rfl)
  dsimp only at m1
  have hk:=dz.mem.keeps
  have r1:=xV m1 (a8 _ _)
  have m2:=dz.mem
  have r2:RR w' { r with po:=q } s1 d1 t1 (.slice av q.length cv):=⟨cK m2 (by exact Take.there .here) rfl,cL m2 bL rfl,cJ m2 cW rfl,hv.keeps hk⟩
  exact Sk r1 r2
 refine an (fun β=>(cB (.of rfl))) bz rfl ?_
 refine fh fun β=>?_
 dsimp only [ei,Za,Zb,List.append_eq,Nat.reduceAdd]
 with_reducible refine cH (by kernel_rfl) ?_
 refine Jt<|Je<|JT ?_
 have e:(r={ r with po:=q })↔r.po=q:=⟨fun e=>congrArg Ro.po e,fun e=>by cases r;subst e;rfl⟩
 rw [decide_eq_decide.2 e]
end Go.Proofs.A1
