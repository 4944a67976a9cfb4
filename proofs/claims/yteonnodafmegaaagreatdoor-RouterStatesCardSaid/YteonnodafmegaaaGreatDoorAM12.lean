/- Parts of the proof: LI LJ LK LL LM LN LO. -/
import Derived.Test.YteonnodafmegaaaGreatDoorAM11
import Derived.Test.YteonnodafmegaaaGreatDoorAM04
import Derived.Test.YteonnodafmegaaaGreatDoorAM10
import Derived.Lib.AppendIntMem
import Derived.KernelRfl
set_option linter.unusedSectionVars false
set_option linter.unusedVariables false
set_option linter.unusedSimpArgs false
namespace Go.Proofs.A1
open Go Go.SL
def nj (n:Int):ByteArray:=⟨#[UInt8.ofNat (48+n.toNat)]⟩
theorem Th:∀ i,i≤9→(⟨(Lib.decDigits i).toArray⟩:ByteArray)=⟨#[UInt8.ofNat (48+i)]⟩:=by
 intro i h
 match i,h with
 | 0,_=>simp [Lib.decDigits]
 | 1,_=>simp [Lib.decDigits]
 | 2,_=>simp [Lib.decDigits]
 | 3,_=>simp [Lib.decDigits]
 | 4,_=>simp [Lib.decDigits]
 | 5,_=>simp [Lib.decDigits]
 | 6,_=>simp [Lib.decDigits]
 | 7,_=>simp [Lib.decDigits]
 | 8,_=>simp [Lib.decDigits]
 | 9,_=>simp [Lib.decDigits]
theorem LJ (n:Int) (h0:0≤n) (h1:n≤9) (w:World):aj Tryz.prog 279 [.int .i64 n] w (.string (nj n)):=by
 obtain ⟨i,rfl⟩:∃ i:Nat,n=(i:Nat):=⟨n.toNat,by omega⟩
 refine Calls.mono (Tryz.internal_strconv_Itoa_small i (by omega) w) fun e w' ⟨he,hw⟩=>⟨?_,by rw [hw];exact .refl _ _⟩
 rw [he,Th i (by omega)]
 unfold nj
 rw [Int.toNat_natCast]
theorem nN (n:Int) (h0:0≤n) (h1:n≤9) (w:World):aj Tryz.prog 193 [.int .i64 n] w (.string (nj n)):=by
 refine ah Tryz.func193 rfl rfl ?_
 (refine Jr<|Ja rfl<|Ji<|Jv rfl<|ag bC rfl (fun w' az=>(LJ n h0 h1 w')) ?_;refine Ja rfl<|Jn<|Je<|JT ?_)
 rfl
theorem HE (n:Int):(nj n).size=1:=rfl
def xw (l:List ByteArray) (sep:ByteArray):ByteArray:=⟨(Lib.join (l.map (·.data.toList)) sep.data.toList).toArray⟩
theorem O6 {lv:Value} {l:List ByteArray} (sep:ByteArray) {w:World} (h:Rd w lv 1 (fg l)) (hl:l.length≤1000) (hlen:(Lib.join (l.map (·.data.toList)) sep.data.toList).length≤140737488355328) :
  aj Tryz.prog 278 [lv,.string sep] w (.string (xw l sep)):=by
 obtain ⟨a,cap,b,o,rfl,df,bO,ha,hc⟩:=h
 rw [bV] at *
 cases l with
 | nil=>exact Calls.mono (Tryz.strings_Join_none a cap sep w) fun e w' ⟨he,hw⟩=>⟨he,by rw [hw];exact .refl _ _⟩
 | cons x r =>
  have:=ha (by simp [fg])
  subst this
  have aD:∀ (j:Nat) y,(x::r)[j]? = some y→w.cell? ⟨b,o+j,none⟩=some (.string y):=fun j y hj=>by
   have:=(hc j [.string y] (by unfold fg;rw [List.getElem?_map,hj];rfl)).2 0 _ rfl
   simpa using this
  refine Calls.mono (Calls.up (Tryz.strings_Join b o cap (x::r) sep w aD ?_ (by omega) df hlen)) fun e w' ⟨he,hw,hd⟩=>⟨he,aF.Ho hw hd⟩
  exact World.block_lt_of_cell? w _ (aD 0 x rfl)
theorem HD (l:List (List UInt8)) (sep:List UInt8) (n:Nat) (h:∀ x∈l,x.length≤n):(Lib.join l sep).length≤l.length*(n+sep.length):=by
 cases l with
 | nil=>simp [Lib.join]
 | cons x r =>
  have key:∀ (r:List (List UInt8)),(∀ y∈r,y.length≤n)→(Lib.joinTail sep r).length≤r.length*(n+sep.length):=by
   intro r
   induction r with
   | nil=>intro _;simp [Lib.joinTail]
   | cons y r ih =>
    intro hy
    have h1:=hy y (by simp)
    have h2:=ih fun z hz=>hy z (by simp [hz])
    simp only [Lib.joinTail,List.map_cons,List.flatten_cons,List.length_append,List.length_cons,Nat.succ_mul] at h2 ⊢
    omega
  rw [Lib.join_cons,List.length_append,List.length_cons,Nat.succ_mul]
  have h1:=h x (by simp)
  have h2:=key r fun z hz=>h z (by simp [hz])
  omega
def Nb (l:List ByteArray):ByteArray:=xw l ⟨#[32]⟩++⟨#[10]⟩
theorem xr {l:List ByteArray} (h4:l.length≤4) (h:∀ x∈l,x.size≤24):(Lib.join (l.map (·.data.toList)) [32]).length≤100:=by
 have:=HD (l.map (·.data.toList)) [32] 24 (by
  intro x hx
  obtain ⟨y,hy,rfl⟩:=List.mem_map.1 hx
  have:=h y hy
  rw [Array.length_toList];exact this)
 rw [List.length_map] at this
 have h2:([32]:List UInt8).length=1:=rfl
 rw [h2] at this
 omega
theorem uE {l:List ByteArray} (h4:l.length≤4) (h:∀ x∈l,x.size≤24):(xw l ⟨#[32]⟩).size≤100:=by
 have:=xr h4 h
 unfold xw
 show Array.size _≤100
 rw [List.size_toArray];exact this
theorem fW {l:List ByteArray} (h4:l.length≤4) (h:∀ x∈l,x.size≤24):(Nb l).size≤101:=by
 have:=uE h4 h
 unfold Nb
 rw [ByteArray.size_append]
 have:ByteArray.size ⟨#[10]⟩=1:=rfl
 omega
theorem rC {v:Value} {l:List ByteArray} {w:World} (h:Rd w v 1 (fg l)) (h4:l.length≤4) (hs:∀ x∈l,x.size≤24):aj Tryz.prog 192 [v] w (.string (Nb l)):=by
 have hj:∀ w',aF [] w w'→aj Tryz.prog 278 [v,.string ⟨#[32]⟩] w' (.string (xw l ⟨#[32]⟩)):=fun w' hk=>O6 (l:=l) ⟨#[32]⟩ (h.keeps hk) (by omega) (Nat.le_trans (xr h4 hs) (by decide))
 have hz:=uE h4 hs
 have h1:ByteArray.size ⟨#[10]⟩=1:=rfl
 have hb:(xw l ⟨#[32]⟩).size+ByteArray.size ⟨#[10]⟩≤9223372036854775807:=by omega
 refine ah Tryz.func192 rfl rfl ?_
 (refine Jr<|Ja rfl<|Ji<|Jv rfl<|ag aZ rfl (fun w' az=>(hj w' (Mem.keeps az))) ?_;refine ab (rq (.of rfl) (.of rfl) hb) rfl ?_;refine Ja rfl<|Jn<|Je<|JT ?_)
 rfl
def C4:List Value:=[.string ⟨#[114,111,117,116,101,114]⟩,.func (.func 271) #[] #[],.string ⟨#[115,111,117,114,99,101]⟩,.func (.func 273) #[] #[],.string ⟨#[100,101,115,116,105,110,97,116,105,111,110]⟩,.func (.func 275) #[] #[],.string ⟨#[116,105,101]⟩,.func (.func 276) #[] #[],.string ⟨#[112,111,105,110,116]⟩,.func (.func 277) #[] #[]]
theorem Mj (w:World):aj Tryz.prog 191 [] w (.agg C4.toArray):=by
 unfold C4
 refine ah Tryz.func191 rfl rfl ?_
 (refine Jr<|Jz rfl rfl fun _ _=>Ji<|ab (aS (.cons (.of rfl) (.cons (.of rfl) .nil)) ak) rfl ?_;refine ab (aS (.cons (.of rfl) (.cons (.of rfl) .nil)) ak) rfl ?_;refine ab (aS (.cons (.of rfl) (.cons (.of rfl) .nil)) ak) rfl ?_;refine ab (aS (.cons (.of rfl) (.cons (.of rfl) .nil)) ak) rfl ?_;refine ab (aS (.cons (.of rfl) (.cons (.of rfl) .nil)) ak) rfl ?_;refine ab (aS (.cons (.of rfl) (.cons (.of rfl) (.cons (.of rfl) (.cons (.of rfl) (.cons (.of rfl) .nil))))) ak) rfl ?_;refine ao (.of rfl) (.of rfl) .here rfl rfl (bG rfl (bG rfl (TC rfl rfl rfl rfl rfl rfl rfl rfl))) (bE rfl) ak ?_;refine Jn<|Je<|oB rfl (ke rfl inferInstance rfl .here ak (by rfl)) ?_)
 rfl
def wR:ByteArray:=⟨#[114,111,117,116,101,114]⟩
def wS:ByteArray:=⟨#[115,111,117,114,99,101]⟩
def wD:ByteArray:=⟨#[100,101,115,116,105,110,97,116,105,111,110]⟩
def wT:ByteArray:=⟨#[116,105,101]⟩
def wP:ByteArray:=⟨#[112,111,105,110,116]⟩
def Ga:ByteArray:=⟨#[102,114,101,101]⟩
def F9:ByteArray:=⟨#[112,114,111,116,101,99,116,101,100]⟩
def TM (r:Ro):ByteArray:=Nb [wR,nj r.lv,nj r.ma]
def LH (x:Sr):ByteArray:=Nb [wS,x.nm,nj x.mx]
def WJ (b:Bool):ByteArray:=if b=true then F9 else Ga
def Kg (x:De):ByteArray:=Nb [wD,x.nm,nj x.mx,WJ x.pr]
def LG (x:Ti):ByteArray:=Nb [wT,x.nm,nj x.fr,nj x.to]
def QE (x:Po):ByteArray:=Nb [wP,nj x.lv,x.ou,x.ip]
def me (a:ByteArray) (l:List ByteArray):ByteArray:=l.foldl (fun a b=>a++b) a
theorem oQ {a:ByteArray} {α:Type} {f:α→ByteArray} {l:List α} {k:Nat} (h:k<l.length):me a ((l.take (k+1)).map f)=me a ((l.take k).map f)++f l[k]:=by
 unfold me
 rw [List.take_succ_eq_append_getElem h,List.map_append,List.foldl_append];rfl
theorem l9 {n:Nat}:∀ {l:List ByteArray} {a:ByteArray},(∀ x∈l,x.size≤n)→(me a l).size≤a.size+n*l.length
 | [],a,_=>Nat.le_refl _
 | x :: l, a, h => by
  have:=l9 (l:=l) (a:=a++x) fun y hy=>h y (List.mem_cons_of_mem _ hy)
  rw [ByteArray.size_append] at this
  have h1:=h x List.mem_cons_self
  show (me (a++x) l).size≤_
  rw [List.length_cons,Nat.mul_succ]
  omega
theorem oR {n:Nat} {a:ByteArray} {α:Type} {f:α→ByteArray} {l:List α} {k:Nat} (hn:∀ x∈l,(f x).size≤n):(me a ((l.take k).map f)).size≤a.size+n*l.length:=by
 have:=l9 (n:=n) (a:=a) (l:=(l.take k).map f) (by
  intro x hx
  obtain ⟨y,hy,rfl⟩:=List.mem_map.1 hx
  exact hn y (List.mem_of_mem_take hy))
 rw [List.length_map,List.length_take] at this
 have:n*min k l.length≤n*l.length:=Nat.mul_le_mul_left _ (Nat.min_le_right _ _)
 omega
def UA (r:Ro):ByteArray:=me (me (me (me (TM r) (r.sr.map LH)) (r.de.map Kg)) (r.ti.map LG)) (r.po.map QE)
def G5 (r:Ro):ByteArray:=if fN r=0 then UA r else ⟨#[]⟩
theorem Lx {s:ByteArray} (h:jD s=true):s.size≤24:=by
 unfold jD at h
 simp only [Bool.and_eq_true,decide_eq_true_eq] at h
 exact h.1.1.2
structure Prn (r:Ro):Prop where
 n0:(0≤r.lv∧r.lv≤9)∧0≤r.ma∧r.ma≤9
 sr:∀ x∈r.sr,x.nm.size≤24∧0≤x.mx∧x.mx≤9
 de:∀ x∈r.de,x.nm.size≤24∧0≤x.mx∧x.mx≤9
 ti:∀ x∈r.ti,x.nm.size≤24∧(0≤x.fr∧x.fr≤9)∧0≤x.to∧x.to≤9
 po:∀ x∈r.po,(x.ou.size≤24∧x.ip.size≤24)∧0≤x.lv∧x.lv≤9
 len:(r.sr.length≤8∧r.de.length≤8∧r.ti.length≤6)∧r.po.length≤42
theorem Yl {r:Ro} (h:fN r=0):Prn r:=by
 have ho:=xj h
 have hp:=prt (rQ h).2.1
 have hl:=ho.lim
 have na:∀ s∈dX r,s.size≤24:=fun s hs=>Lx (hp.nm s hs)
 have n1:∀ s∈cz r,s.size≤24:=fun s hs=>na s (List.mem_append_left _ (List.mem_append_left _ hs))
 have n2:∀ s∈cm r,s.size≤24:=fun s hs=>na s (List.mem_append_left _ (List.mem_append_right _ hs))
 have n3:∀ s∈cK r,s.size≤24:=fun s hs=>na s (List.mem_append_right _ hs)
 refine ⟨by omega,fun x hx=>?_,fun x hx=>?_,fun x hx=>?_,fun x hx=>?_,hp.len,oA ho ho.val⟩
 ·have:=ho.sm x hx
  exact ⟨n1 _ (List.mem_map_of_mem hx),by omega,by omega⟩
 ·have:=ho.dm x hx
  exact ⟨n2 _ (List.mem_map_of_mem hx),by omega,by omega⟩
 ·have:=ho.tm x hx
  exact ⟨n3 _ (List.mem_map_of_mem hx),by omega,by omega⟩
 ·have:=ho.val.Kh x hx
  exact ⟨⟨(ho.val.out x hx).elim (n2 _) (n3 _),(ho.val.vR x hx).elim (n1 _) (n3 _)⟩,by omega,by omega⟩
theorem rB {a b c:ByteArray} (ha:a.size≤24) (hb:b.size≤24) (hc:c.size≤24):∀ x∈[a,b,c],x.size≤24:=by
 intro x hx
 simp only [List.mem_cons,List.not_mem_nil,or_false] at hx
 rcases hx with rfl | rfl | rfl <;> assumption
theorem iJ {a b c d:ByteArray} (ha:a.size≤24) (hb:b.size≤24) (hc:c.size≤24) (hd:d.size≤24):∀ x∈[a,b,c,d],x.size≤24:=by
 intro x hx
 simp only [List.mem_cons,List.not_mem_nil,or_false] at hx
 rcases hx with rfl | rfl | rfl | rfl <;> assumption
theorem eO (n:Int):(nj n).size≤24:=by rw [HE];decide
theorem Co (b:Bool):(WJ b).size≤24:=by cases b <;> decide
theorem MQ {r:Ro} {s d t p:Value} {w:World} (h:RR w r s d t p) (cJ:mP r):aj Tryz.prog 85 [RA r s d t p] w (.tuple #[.string (G5 r),.int .i64 (fN r)]):=by
 have h1:=Rd.one h.sr
 have h2:=Rd.one h.de
 have h3:=Rd.one h.ti
 have h4:=Rd.one h.po
 have jd:∀ w',aF [] w w'→aj Tryz.prog 34 [.agg #[.int .i64 r.lv,.int .i64 r.ma,s,d,t,p]] w' (.int .i64 (fN r)):=fun w' hk=>bZ (h.keeps hk) cJ
 have Fs:=h.sr
 have FA:=h.de
 have Bh:=h.ti
 have HX:=h.po
 obtain ⟨a1,eh,NW,M6,rfl,pg,iE,lo,jY⟩:=Fs
 obtain ⟨a2,dx,NV,M5,rfl,jX,eW,je,jH⟩:=FA
 obtain ⟨a3,dV,IX,Hg,rfl,mS,fX,sR,pL⟩:=Bh
 obtain ⟨a4,fP,Ts,OQ,rfl,xF,l5,F2,zo⟩:=HX
 rw [cC] at *
 rw [bX] at *
 rw [bN] at *
 rw [cU] at *
 unfold maxLen at iE eW fX l5
 unfold RA
 refine ah Tryz.func85 rfl rfl ?_
 (refine Jr<|Jy rfl rfl fun _ _=>Ja rfl<|Ja rfl<|Jn<|Jq<|Jr<|ab (cr .here) rfl ?_;refine ag bC rfl (fun w' az=>(jd w' (Mem.keeps az))) ?_;refine Ja rfl<|Ji<|Jv rfl<|JD rfl<|Jn<|fY rfl (fun aq=>?_) fun aq=>?_;refine Jr<|Jv rfl<|Ja rfl<|Ja rfl<|Jn<|Ju<|oB rfl (fL rfl rfl rfl) ?_;rotate_left;refine Jk<|Jr<|ag ng rfl (fun w' az=>(Mj w')) ?_;refine Jz rfl rfl fun _ _=>ao (.of rfl) (.of rfl) .here rfl rfl (bG rfl (bG rfl (TC rfl rfl rfl rfl rfl rfl rfl rfl))) (bE rfl) ak ?_;refine Jn<|Jq ?_;rotate_right)
 ·unfold G5;rw [if_neg aq]
 have h0:fN r=0:=Decidable.not_not.1 aq
 have hN:=Yl h0
 have e0:G5 r=UA r:=if_pos h0
 rw [e0,h0]
 unfold C4
 skip
 try simp only [setCells,List.set_cons_zero,List.set_cons_succ]
 have q1:=hN.n0
 with_reducible refine dM 12 (by kernel_rfl) ?_
 (refine au (fun β=>(gi (.of rfl) (.of rfl) (by omega) (by omega) bo)) bB rfl ?_;refine au (fun β=>(ar (.of rfl) ae)) bB rfl ?_;refine au (fun β=>(ai (.of rfl) (At.lit .here rfl))) bB rfl ?_;refine au (fun β=>(ar (.of rfl) ae)) bB rfl ?_;refine au (fun β=>(ai (.of rfl) (At.lit (.there .here) rfl))) bB rfl ?_)
 dsimp only [Nat.zero_add,Nat.reduceAdd]
 with_reducible apply cH (B:=[]) (F:=fun _=>.string (nj r.lv)) (args:=fun _=>[.int .i64 r.lv])
 case hB=>rfl
 case hr=>exact fun β=>bh (.of rfl) (.cons (.of rfl) .nil) inferInstance rfl
 case hi=>exact bB
 case hd=>rfl
 case hc=>exact fun β w' dw=>nN _ (by omega) (by omega) _
 dsimp only [Nat.reduceAdd]
 (refine au (fun β=>(ar (.of rfl) ae)) bB rfl ?_;refine au (fun β=>(ai (.of rfl) (At.lit (.there .here) rfl))) bB rfl ?_)
 dsimp only [Nat.zero_add,Nat.reduceAdd]
 with_reducible apply cH (B:=[]) (F:=fun _=>.string (nj r.ma)) (args:=fun _=>[.int .i64 r.ma])
 case hB=>rfl
 case hr=>exact fun β=>bh (.of rfl) (.cons (.of rfl) .nil) inferInstance rfl
 case hi=>exact bB
 case hd=>rfl
 case hc=>exact fun β w' dw=>nN _ (by omega) (by omega) _
 dsimp only [Nat.reduceAdd]
 skip
 refine kP (fun β=>(aA (.cons (.of rfl) (.cons (.of rfl) (.cons (.of rfl) .nil))) rfl rfl rfl rfl)) (fun _ _ _=>rfl) rfl ?_
 dsimp only [Nat.zero_add,Nat.reduceAdd]
 with_reducible apply cH (B:=[9]) (F:=fun _=>.string (TM r)) (args:=fun β=>[.slice (some ⟨eQ (β 9),0,none⟩) 3 3])
 case hB=>kernel_rfl
 case hr=>exact fun β=>bh (.of rfl) (.cons (.of rfl) .nil) inferInstance rfl
 case hi=>exact bB
 case hd=>rfl
 case hc=>
  intro β w' dw
  have mK:=dw.at 9 List.mem_cons_self (s:=⟨fun β=>.slice (some ⟨eQ (β 9),0,none⟩) 3 3,fun β=>[bD (eQ (β 9)) (.cells #[.string wR,.string (nj r.lv),.string (nj r.ma)] 9)]⟩) (by kernel_rfl)
  dsimp only [List.cons_append,List.nil_append] at mK
  exact rC (l:=[wR,nj r.lv,nj r.ma]) (Mem.dh mK (by exact .here) rfl rfl) (by simp) (rB (by decide) (eO _) (eO _))
 dsimp only [Nat.reduceAdd]
 refine au (fun β=>(cq (.of rfl))) bB rfl ?_
 refine fC fun β=>?_
 dsimp only [eI,List.nil_append,List.cons_append,List.append_eq,Nat.reduceAdd]
 with_reducible refine cW (by kernel_rfl) ?_
 (refine Jt<|Jq<|Jr<|bF rfl rfl ae ?_;refine JL rfl bI rfl<|JI rfl<|Jv rfl<|Jn<|J0 ?_)
 rename_i b1 sy b5 Mb
 generalize eQ (β 9)=b9
 clear β
 have hA:(TM r).size≤101:=fW (by simp) (rB (by decide) (eO _) (eO _))
 unfold UA
 generalize TM r=A at hA ⊢
 refine aX (ι:=Nat×ByteArray) (fun y=>y.1≤r.sr.length∧y.2=me A ((r.sr.take y.1).map LH)) (fun y=>[(36,.int .i64 (y.1:Nat)),(35,.int .i64 r.sr.length),(34,.slice a1 r.sr.length eh),(6,.string y.2),(5,.pointer (some ⟨b5,0,none⟩)),(1,.pointer (some ⟨b1,0,none⟩))]) (fun _=>[bD b5 (.cells #[.string ⟨#[114,111,117,116,101,114]⟩,.func (.func 271) #[] #[],.string ⟨#[115,111,117,114,99,101]⟩,.func (.func 273) #[] #[],.string ⟨#[100,101,115,116,105,110,97,116,105,111,110]⟩,.func (.func 275) #[] #[],.string ⟨#[116,105,101]⟩,.func (.func 276) #[] #[],.string ⟨#[112,111,105,110,116]⟩,.func (.func 277) #[] #[]] 265 (0,0)),JP b1 r (.slice a1 r.sr.length eh) (.slice a2 r.de.length dx) (.slice a3 r.ti.length dV) (.slice a4 r.po.length fP)]) (fun y=>r.sr.length-y.1) ?_ ?_
 ·apply aK (0,A) ⟨Nat.zero_le _,rfl⟩
  case hs1=>exact cn
  case ht=>
   exact .cons (.there .here) (.cons (.there .here) .nil)
 rintro ⟨k,S⟩ ⟨hk,hS⟩
 dsimp only at hk hS ⊢
 by_cases aN:k<r.sr.length
 ·have cM:=lo (im aN)
  have aD:=(jY k _ (fD aN)).2
  have hx:=hN.sr _ (List.getElem_mem aN)
  have ll:=oQ (a:=A) (f:=LH) aN
  rw [← hS] at ll
  unfold Sr.cells at aD
  generalize r.sr[k]=x at aD hx ll
  have hz:(LH x).size≤101:=fW (by simp) (rB (by decide) hx.1 (eO _))
  have PZ:S.size≤A.size+101*r.sr.length:=by rw [hS];exact oR fun y hy=>fW (by simp) (rB (by decide) (hN.sr y hy).1 (eO _))
  have T1:=hN.len
  have hb:S.size+(LH x).size≤9223372036854775807:=by omega
  (refine Jr<|JA rfl<|Jn<|Jq<|Jd rfl fun aq=>Jk<|Jq<|J0<|Jr<|ab (fM cM aq) rfl ?_;refine ab (iz (eG.base aD rfl)) rfl ?_;refine Jz rfl rfl fun _ _=>ao (.of rfl) (.of rfl) .here rfl rfl (gn rfl rfl) (bE rfl) ak ?_;refine Jn ?_)
  with_reducible refine dM 13 (by kernel_rfl) ?_
  (refine au (fun β=>(aY (.of rfl))) bB rfl ?_;refine au (fun β=>(gi (.of rfl) (.of rfl) (by omega) (by omega) bo)) bB rfl ?_;refine au (fun β=>(ar (.of rfl) ae)) bB rfl ?_;refine au (fun β=>(ai (.of rfl) (At.lit (.there .here) rfl))) bB rfl ?_;refine au (fun β=>(ar (.of rfl) ae)) bB rfl ?_;refine au (fun β=>(ai (.of rfl) (At.lit .here rfl))) bB rfl ?_;refine au (fun β=>(ar (.of rfl) ae)) bB rfl ?_;refine au (fun β=>(ai (.of rfl) (At.lit .here rfl))) bB rfl ?_)
  dsimp only [Nat.zero_add,Nat.reduceAdd]
  with_reducible apply cH (B:=[]) (F:=fun _=>.string (nj x.mx)) (args:=fun _=>[.int .i64 x.mx])
  case hB=>rfl
  case hr=>exact fun β=>bh (.of rfl) (.cons (.of rfl) .nil) inferInstance rfl
  case hi=>exact bB
  case hd=>rfl
  case hc=>exact fun β w' dw=>nN _ (by omega) (by omega) _
  dsimp only [Nat.reduceAdd]
  skip
  refine kP (fun β=>(aA (.cons (.of rfl) (.cons (.of rfl) (.cons (.of rfl) .nil))) rfl rfl rfl rfl)) (fun _ _ _=>rfl) rfl ?_
  dsimp only [Nat.zero_add,Nat.reduceAdd]
  with_reducible apply cH (B:=[9]) (F:=fun _=>.string (LH x)) (args:=fun β=>[.slice (some ⟨eQ (β 9),0,none⟩) 3 3])
  case hB=>kernel_rfl
  case hr=>exact fun β=>bh (.of rfl) (.cons (.of rfl) .nil) inferInstance rfl
  case hi=>exact bB
  case hd=>rfl
  case hc=>
   intro β w' dw
   have mK:=dw.at 9 List.mem_cons_self (s:=⟨fun β=>.slice (some ⟨eQ (β 9),0,none⟩) 3 3,fun β=>[bD (eQ (β 9)) (.cells #[.string wS,.string x.nm,.string (nj x.mx)] 9)]⟩) (by kernel_rfl)
   dsimp only [List.cons_append,List.nil_append] at mK
   exact rC (l:=[wS,x.nm,nj x.mx]) (Mem.dh mK (by exact .here) rfl rfl) (by simp) (rB (by decide) hx.1 (eO _))
  dsimp only [Nat.reduceAdd]
  (refine au (fun β=>(rq (.of rfl) (.of rfl) hb)) bB rfl ?_;refine au (fun β=>(cq (.of rfl))) bB rfl ?_)
  refine fC fun β=>?_
  dsimp only [eI,List.nil_append,List.cons_append,List.append_eq,Nat.reduceAdd]
  with_reducible refine cW (by kernel_rfl) ?_
  refine Jj<|Jt<|Jg<|JB rfl (by omega)<|Jv rfl<|Jn ?_
  apply aL (k+1,_) (show _∧_ from ⟨by omega,ll.symm⟩) (show r.sr.length-(k+1)<r.sr.length-k by omega)
  case hs1=>exact cn
  case ht=>
   exact .cons bI (.cons bI .nil)
 obtain rfl:k=r.sr.length:=by omega
 rw [List.take_length] at hS
 subst hS
 have hA:(me A (r.sr.map LH)).size≤909:=by
  have:=l9 (n:=101) (a:=A) (l:=r.sr.map LH) (by
   intro x hx
   obtain ⟨y,hy,rfl⟩:=List.mem_map.1 hx
   exact fW (by simp) (rB (by decide) (hN.sr y hy).1 (eO _)))
  rw [List.length_map] at this
  have:=hN.len
  omega
 generalize me A (r.sr.map LH)=A at hA ⊢
 clear aN hk
 (refine Jr<|JA rfl<|Jn<|Jq<|Jc rfl fun aq=>Jp<|Jl<|Jo<|Jt<|Jq<|Jr<|bF rfl rfl ae ?_;refine JL rfl (.there .here) rfl<|JI rfl<|Jv rfl<|Jn<|J0 ?_)
 refine aX (ι:=Nat×ByteArray) (fun y=>y.1≤r.de.length∧y.2=me A ((r.de.take y.1).map Kg)) (fun y=>[(56,.int .i64 (y.1:Nat)),(55,.int .i64 r.de.length),(54,.slice a2 r.de.length dx),(6,.string y.2),(5,.pointer (some ⟨b5,0,none⟩)),(1,.pointer (some ⟨b1,0,none⟩))]) (fun _=>[bD b5 (.cells #[.string ⟨#[114,111,117,116,101,114]⟩,.func (.func 271) #[] #[],.string ⟨#[115,111,117,114,99,101]⟩,.func (.func 273) #[] #[],.string ⟨#[100,101,115,116,105,110,97,116,105,111,110]⟩,.func (.func 275) #[] #[],.string ⟨#[116,105,101]⟩,.func (.func 276) #[] #[],.string ⟨#[112,111,105,110,116]⟩,.func (.func 277) #[] #[]] 265 (0,0)),JP b1 r (.slice a1 r.sr.length eh) (.slice a2 r.de.length dx) (.slice a3 r.ti.length dV) (.slice a4 r.po.length fP)]) (fun y=>r.de.length-y.1) ?_ ?_
 ·apply aK (0,A) ⟨Nat.zero_le _,rfl⟩
  case hs1=>exact cn
  case ht=>
   exact .cons .here (.cons .here .nil)
 rintro ⟨k,S⟩ ⟨hk,hS⟩
 dsimp only at hk hS ⊢
 by_cases aN:k<r.de.length
 ·have cM:=je (gm aN)
  have aD:=(jH k _ (fa aN)).2
  have hx:=hN.de _ (List.getElem_mem aN)
  have ll:=oQ (a:=A) (f:=Kg) aN
  rw [← hS] at ll
  unfold De.cells at aD
  generalize r.de[k]=x at aD hx ll
  have hz:(Kg x).size≤101:=fW (by simp) (iJ (by decide) hx.1 (eO _) (Co _))
  have PZ:S.size≤A.size+101*r.de.length:=by rw [hS];exact oR fun y hy=>fW (by simp) (iJ (by decide) (hN.de y hy).1 (eO _) (Co _))
  have T1:=hN.len
  have hb:S.size+(Kg x).size≤9223372036854775807:=by omega
  clear hz PZ T1
  obtain ⟨xn,xm,xp⟩:=x
  dsimp only at aD hx ll hb ⊢
  cases xp
  ·(refine Jr<|JA rfl<|Jn<|Jq<|Jd rfl fun aq=>Jk<|Jq<|J0<|Jr<|ab (fM cM aq) rfl ?_;refine ab (iz (eG.base aD rfl)) rfl ?_;refine Jz rfl rfl fun _ _=>ao (.of rfl) (.of rfl) .here rfl rfl (fk rfl rfl rfl) (bE rfl) ak ?_;refine Ji<|Ja rfl<|Jn<|Jq<|Jr<|bF rfl rfl ae ?_;refine JL rfl .here rfl<|Jn<|bR (.of rfl) ?_;refine Jk ?_)
   with_reducible refine dM 14 (by kernel_rfl) ?_
   (refine au (fun β=>(aY (.of rfl))) bB rfl ?_;refine au (fun β=>(gi (.of rfl) (.of rfl) (by omega) (by omega) bo)) bB rfl ?_;refine au (fun β=>(ar (.of rfl) ae)) bB rfl ?_;refine au (fun β=>(ai (.of rfl) (At.lit (.there .here) rfl))) bB rfl ?_;refine au (fun β=>(ar (.of rfl) ae)) bB rfl ?_;refine au (fun β=>(ai (.of rfl) (At.lit .here rfl))) bB rfl ?_;refine au (fun β=>(ar (.of rfl) ae)) bB rfl ?_;refine au (fun β=>(ai (.of rfl) (At.lit .here rfl))) bB rfl ?_)
   dsimp only [Nat.zero_add,Nat.reduceAdd]
   with_reducible apply cH (B:=[]) (F:=fun _=>.string (nj xm)) (args:=fun _=>[.int .i64 xm])
   case hB=>rfl
   case hr=>exact fun β=>bh (.of rfl) (.cons (.of rfl) .nil) inferInstance rfl
   case hi=>exact bB
   case hd=>rfl
   case hc=>exact fun β w' dw=>nN _ (by omega) (by omega) _
   dsimp only [Nat.reduceAdd]
   refine au (fun β=>(aY (.of rfl))) bB rfl ?_
   refine kP (fun β=>(aA (.cons (.of rfl) (.cons (.of rfl) (.cons (.of rfl) (.cons (.of rfl) .nil)))) rfl rfl rfl rfl)) (fun _ _ _=>rfl) rfl ?_
   dsimp only [Nat.zero_add,Nat.reduceAdd]
   with_reducible apply cH (B:=[10]) (F:=fun _=>.string (Kg ⟨xn,xm,false⟩)) (args:=fun β=>[.slice (some ⟨eQ (β 10),0,none⟩) 4 4])
   case hB=>kernel_rfl
   case hr=>exact fun β=>bh (.of rfl) (.cons (.of rfl) .nil) inferInstance rfl
   case hi=>exact bB
   case hd=>rfl
   case hc=>
    intro β w' dw
    have mK:=dw.at 10 List.mem_cons_self (s:=⟨fun β=>.slice (some ⟨eQ (β 10),0,none⟩) 4 4,fun β=>[bD (eQ (β 10)) (.cells #[.string wD,.string xn,.string (nj xm),.string Ga] 9)]⟩) (by kernel_rfl)
    dsimp only [List.cons_append,List.nil_append] at mK
    exact rC (l:=[wD,xn,nj xm,Ga]) (Mem.dh mK (by exact .here) rfl rfl) (by simp) (iJ (by decide) hx.1 (eO _) (by decide))
   dsimp only [Nat.reduceAdd]
   (refine au (fun β=>(rq (.of rfl) (.of rfl) hb)) bB rfl ?_;refine au (fun β=>(cq (.of rfl))) bB rfl ?_)
   refine fC fun β=>?_
   dsimp only [eI,List.nil_append,List.cons_append,List.append_eq,Nat.reduceAdd]
   with_reducible refine cW (by kernel_rfl) ?_
   refine Jj<|Jt<|Jg<|JB rfl (by omega)<|Jv rfl<|Jn ?_
   apply aL (k+1,_) (show _∧_ from ⟨by omega,ll.symm⟩) (show r.de.length-(k+1)<r.de.length-k by omega)
   case hs1=>exact cn
   case ht=>
    exact .cons bI (.cons bI .nil)
  ·(refine Jr<|JA rfl<|Jn<|Jq<|Jd rfl fun aq=>Jk<|Jq<|J0<|Jr<|ab (fM cM aq) rfl ?_;refine ab (iz (eG.base aD rfl)) rfl ?_;refine Jz rfl rfl fun _ _=>ao (.of rfl) (.of rfl) .here rfl rfl (fk rfl rfl rfl) (bE rfl) ak ?_;refine Ji<|Ja rfl<|Jn<|Jq<|Jr<|bF rfl rfl ae ?_;refine JL rfl .here rfl<|Jn<|cR (.of rfl) ?_;refine Jg<|Ja rfl<|Jn ?_)
   with_reducible refine dM 14 (by kernel_rfl) ?_
   (refine au (fun β=>(aY (.of rfl))) bB rfl ?_;refine au (fun β=>(gi (.of rfl) (.of rfl) (by omega) (by omega) bo)) bB rfl ?_;refine au (fun β=>(ar (.of rfl) ae)) bB rfl ?_;refine au (fun β=>(ai (.of rfl) (At.lit (.there .here) rfl))) bB rfl ?_;refine au (fun β=>(ar (.of rfl) ae)) bB rfl ?_;refine au (fun β=>(ai (.of rfl) (At.lit .here rfl))) bB rfl ?_;refine au (fun β=>(ar (.of rfl) ae)) bB rfl ?_;refine au (fun β=>(ai (.of rfl) (At.lit .here rfl))) bB rfl ?_)
   dsimp only [Nat.zero_add,Nat.reduceAdd]
   with_reducible apply cH (B:=[]) (F:=fun _=>.string (nj xm)) (args:=fun _=>[.int .i64 xm])
   case hB=>rfl
   case hr=>exact fun β=>bh (.of rfl) (.cons (.of rfl) .nil) inferInstance rfl
   case hi=>exact bB
   case hd=>rfl
   case hc=>exact fun β w' dw=>nN _ (by omega) (by omega) _
   dsimp only [Nat.reduceAdd]
   refine au (fun β=>(aY (.of rfl))) bB rfl ?_
   refine kP (fun β=>(aA (.cons (.of rfl) (.cons (.of rfl) (.cons (.of rfl) (.cons (.of rfl) .nil)))) rfl rfl rfl rfl)) (fun _ _ _=>rfl) rfl ?_
   dsimp only [Nat.zero_add,Nat.reduceAdd]
   with_reducible apply cH (B:=[10]) (F:=fun _=>.string (Kg ⟨xn,xm,true⟩)) (args:=fun β=>[.slice (some ⟨eQ (β 10),0,none⟩) 4 4])
   case hB=>kernel_rfl
   case hr=>exact fun β=>bh (.of rfl) (.cons (.of rfl) .nil) inferInstance rfl
   case hi=>exact bB
   case hd=>rfl
   case hc=>
    intro β w' dw
    have mK:=dw.at 10 List.mem_cons_self (s:=⟨fun β=>.slice (some ⟨eQ (β 10),0,none⟩) 4 4,fun β=>[bD (eQ (β 10)) (.cells #[.string wD,.string xn,.string (nj xm),.string F9] 9)]⟩) (by kernel_rfl)
    dsimp only [List.cons_append,List.nil_append] at mK
    exact rC (l:=[wD,xn,nj xm,F9]) (Mem.dh mK (by exact .here) rfl rfl) (by simp) (iJ (by decide) hx.1 (eO _) (by decide))
   dsimp only [Nat.reduceAdd]
   (refine au (fun β=>(rq (.of rfl) (.of rfl) hb)) bB rfl ?_;refine au (fun β=>(cq (.of rfl))) bB rfl ?_)
   refine fC fun β=>?_
   dsimp only [eI,List.nil_append,List.cons_append,List.append_eq,Nat.reduceAdd]
   with_reducible refine cW (by kernel_rfl) ?_
   refine Jj<|Jt<|Jg<|JB rfl (by omega)<|Jv rfl<|Jn ?_
   apply aL (k+1,_) (show _∧_ from ⟨by omega,ll.symm⟩) (show r.de.length-(k+1)<r.de.length-k by omega)
   case hs1=>exact cn
   case ht=>
    exact .cons bI (.cons bI .nil)
 obtain rfl:k=r.de.length:=by omega
 rw [List.take_length] at hS
 subst hS
 have hA:(me A (r.de.map Kg)).size≤1717:=by
  have:=l9 (n:=101) (a:=A) (l:=r.de.map Kg) (by
   intro x hx
   obtain ⟨y,hy,rfl⟩:=List.mem_map.1 hx
   exact fW (by simp) (iJ (by decide) (hN.de y hy).1 (eO _) (Co _)))
  rw [List.length_map] at this
  have:=hN.len
  omega
 generalize me A (r.de.map Kg)=A at hA ⊢
 clear aN hk
 (refine Jr<|JA rfl<|Jn<|Jq<|Jc rfl fun aq=>Jp<|Jl<|Jo<|Jt<|Jq<|Jr<|bF rfl rfl ae ?_;refine JL rfl (.there .here) rfl<|JI rfl<|Jv rfl<|Jn<|J0 ?_)
 refine aX (ι:=Nat×ByteArray) (fun y=>y.1≤r.ti.length∧y.2=me A ((r.ti.take y.1).map LG)) (fun y=>[(79,.int .i64 (y.1:Nat)),(78,.int .i64 r.ti.length),(77,.slice a3 r.ti.length dV),(6,.string y.2),(5,.pointer (some ⟨b5,0,none⟩)),(1,.pointer (some ⟨b1,0,none⟩))]) (fun _=>[bD b5 (.cells #[.string ⟨#[114,111,117,116,101,114]⟩,.func (.func 271) #[] #[],.string ⟨#[115,111,117,114,99,101]⟩,.func (.func 273) #[] #[],.string ⟨#[100,101,115,116,105,110,97,116,105,111,110]⟩,.func (.func 275) #[] #[],.string ⟨#[116,105,101]⟩,.func (.func 276) #[] #[],.string ⟨#[112,111,105,110,116]⟩,.func (.func 277) #[] #[]] 265 (0,0)),JP b1 r (.slice a1 r.sr.length eh) (.slice a2 r.de.length dx) (.slice a3 r.ti.length dV) (.slice a4 r.po.length fP)]) (fun y=>r.ti.length-y.1) ?_ ?_
 ·apply aK (0,A) ⟨Nat.zero_le _,rfl⟩
  case hs1=>exact cn
  case ht=>
   exact .cons .here (.cons .here .nil)
 rintro ⟨k,S⟩ ⟨hk,hS⟩
 dsimp only at hk hS ⊢
 by_cases aN:k<r.ti.length
 ·have cM:=sR (eT aN)
  have aD:=(pL k _ (ed aN)).2
  have hx:=hN.ti _ (List.getElem_mem aN)
  have ll:=oQ (a:=A) (f:=LG) aN
  rw [← hS] at ll
  unfold Ti.cells at aD
  generalize r.ti[k]=x at aD hx ll
  have hz:(LG x).size≤101:=fW (by simp) (iJ (by decide) hx.1 (eO _) (eO _))
  have PZ:S.size≤A.size+101*r.ti.length:=by rw [hS];exact oR fun y hy=>fW (by simp) (iJ (by decide) (hN.ti y hy).1 (eO _) (eO _))
  have T1:=hN.len
  have hb:S.size+(LG x).size≤9223372036854775807:=by omega
  (refine Jr<|JA rfl<|Jn<|Jq<|Jd rfl fun aq=>Jk<|Jq<|J0<|Jr<|ab (fM cM aq) rfl ?_;refine ab (iz (eG.base aD rfl)) rfl ?_;refine Jz rfl rfl fun _ _=>ao (.of rfl) (.of rfl) .here rfl rfl (fk rfl rfl rfl) (bE rfl) ak ?_;refine Jn ?_)
  with_reducible refine dM 16 (by kernel_rfl) ?_
  (refine au (fun β=>(aY (.of rfl))) bB rfl ?_;refine au (fun β=>(gi (.of rfl) (.of rfl) (by omega) (by omega) bo)) bB rfl ?_;refine au (fun β=>(ar (.of rfl) ae)) bB rfl ?_;refine au (fun β=>(ai (.of rfl) (At.lit (.there .here) rfl))) bB rfl ?_;refine au (fun β=>(ar (.of rfl) ae)) bB rfl ?_;refine au (fun β=>(ai (.of rfl) (At.lit .here rfl))) bB rfl ?_;refine au (fun β=>(ar (.of rfl) ae)) bB rfl ?_;refine au (fun β=>(ai (.of rfl) (At.lit .here rfl))) bB rfl ?_)
  dsimp only [Nat.zero_add,Nat.reduceAdd]
  with_reducible apply cH (B:=[]) (F:=fun _=>.string (nj x.fr)) (args:=fun _=>[.int .i64 x.fr])
  case hB=>rfl
  case hr=>exact fun β=>bh (.of rfl) (.cons (.of rfl) .nil) inferInstance rfl
  case hi=>exact bB
  case hd=>rfl
  case hc=>exact fun β w' dw=>nN _ (by omega) (by omega) _
  dsimp only [Nat.reduceAdd]
  (refine au (fun β=>(ar (.of rfl) ae)) bB rfl ?_;refine au (fun β=>(ai (.of rfl) (At.lit .here rfl))) bB rfl ?_)
  dsimp only [Nat.zero_add,Nat.reduceAdd]
  with_reducible apply cH (B:=[]) (F:=fun _=>.string (nj x.to)) (args:=fun _=>[.int .i64 x.to])
  case hB=>rfl
  case hr=>exact fun β=>bh (.of rfl) (.cons (.of rfl) .nil) inferInstance rfl
  case hi=>exact bB
  case hd=>rfl
  case hc=>exact fun β w' dw=>nN _ (by omega) (by omega) _
  dsimp only [Nat.reduceAdd]
  skip
  refine kP (fun β=>(aA (.cons (.of rfl) (.cons (.of rfl) (.cons (.of rfl) (.cons (.of rfl) .nil)))) rfl rfl rfl rfl)) (fun _ _ _=>rfl) rfl ?_
  dsimp only [Nat.zero_add,Nat.reduceAdd]
  with_reducible apply cH (B:=[12]) (F:=fun _=>.string (LG x)) (args:=fun β=>[.slice (some ⟨eQ (β 12),0,none⟩) 4 4])
  case hB=>kernel_rfl
  case hr=>exact fun β=>bh (.of rfl) (.cons (.of rfl) .nil) inferInstance rfl
  case hi=>exact bB
  case hd=>rfl
  case hc=>
   intro β w' dw
   have mK:=dw.at 12 List.mem_cons_self (s:=⟨fun β=>.slice (some ⟨eQ (β 12),0,none⟩) 4 4,fun β=>[bD (eQ (β 12)) (.cells #[.string wT,.string x.nm,.string (nj x.fr),.string (nj x.to)] 9)]⟩) (by kernel_rfl)
   dsimp only [List.cons_append,List.nil_append] at mK
   exact rC (l:=[wT,x.nm,nj x.fr,nj x.to]) (Mem.dh mK (by exact .here) rfl rfl) (by simp) (iJ (by decide) hx.1 (eO _) (eO _))
  dsimp only [Nat.reduceAdd]
  (refine au (fun β=>(rq (.of rfl) (.of rfl) hb)) bB rfl ?_;refine au (fun β=>(cq (.of rfl))) bB rfl ?_)
  refine fC fun β=>?_
  dsimp only [eI,List.nil_append,List.cons_append,List.append_eq,Nat.reduceAdd]
  with_reducible refine cW (by kernel_rfl) ?_
  refine Jj<|Jt<|Jg<|JB rfl (by omega)<|Jv rfl<|Jn ?_
  apply aL (k+1,_) (show _∧_ from ⟨by omega,ll.symm⟩) (show r.ti.length-(k+1)<r.ti.length-k by omega)
  case hs1=>exact cn
  case ht=>
   exact .cons bI (.cons bI .nil)
 obtain rfl:k=r.ti.length:=by omega
 rw [List.take_length] at hS
 subst hS
 have hA:(me A (r.ti.map LG)).size≤2323:=by
  have:=l9 (n:=101) (a:=A) (l:=r.ti.map LG) (by
   intro x hx
   obtain ⟨y,hy,rfl⟩:=List.mem_map.1 hx
   exact fW (by simp) (iJ (by decide) (hN.ti y hy).1 (eO _) (eO _)))
  rw [List.length_map] at this
  have:=hN.len
  omega
 generalize me A (r.ti.map LG)=A at hA ⊢
 clear aN hk
 (refine Jr<|JA rfl<|Jn<|Jq<|Jc rfl fun aq=>Jp<|Jl<|Jo<|Jt<|Jq<|Jr<|bF rfl rfl ae ?_;refine JL rfl (.there .here) rfl<|JI rfl<|Jv rfl<|Jn<|J0 ?_)
 refine aX (ι:=Nat×ByteArray) (fun y=>y.1≤r.po.length∧y.2=me A ((r.po.take y.1).map QE)) (fun y=>[(102,.int .i64 (y.1:Nat)),(101,.int .i64 r.po.length),(100,.slice a4 r.po.length fP),(6,.string y.2),(5,.pointer (some ⟨b5,0,none⟩)),(1,.pointer (some ⟨b1,0,none⟩))]) (fun _=>[bD b5 (.cells #[.string ⟨#[114,111,117,116,101,114]⟩,.func (.func 271) #[] #[],.string ⟨#[115,111,117,114,99,101]⟩,.func (.func 273) #[] #[],.string ⟨#[100,101,115,116,105,110,97,116,105,111,110]⟩,.func (.func 275) #[] #[],.string ⟨#[116,105,101]⟩,.func (.func 276) #[] #[],.string ⟨#[112,111,105,110,116]⟩,.func (.func 277) #[] #[]] 265 (0,0)),JP b1 r (.slice a1 r.sr.length eh) (.slice a2 r.de.length dx) (.slice a3 r.ti.length dV) (.slice a4 r.po.length fP)]) (fun y=>r.po.length-y.1) ?_ ?_
 ·apply aK (0,A) ⟨Nat.zero_le _,rfl⟩
  case hs1=>exact cn
  case ht=>
   exact .cons .here (.cons .here .nil)
 rintro ⟨k,S⟩ ⟨hk,hS⟩
 dsimp only at hk hS ⊢
 by_cases aN:k<r.po.length
 ·have cM:=F2 (jO aN)
  have aD:=(zo k _ (gY aN)).2
  have hx:=hN.po _ (List.getElem_mem aN)
  have ll:=oQ (a:=A) (f:=QE) aN
  rw [← hS] at ll
  unfold Po.cells at aD
  generalize r.po[k]=x at aD hx ll
  have hz:(QE x).size≤101:=fW (by simp) (iJ (by decide) (eO _) hx.1.1 hx.1.2)
  have PZ:S.size≤A.size+101*r.po.length:=by rw [hS];exact oR fun y hy=>fW (by simp) (iJ (by decide) (eO _) (hN.po y hy).1.1 (hN.po y hy).1.2)
  have T1:=hN.len
  have hb:S.size+(QE x).size≤9223372036854775807:=by omega
  (refine Jr<|JA rfl<|Jn<|Jq<|Jd rfl fun aq=>Jk<|Jq<|J0<|Jr<|ab (fM cM aq) rfl ?_;refine ab (iz (eG.base aD rfl)) rfl ?_;refine Jz rfl rfl fun _ _=>ao (.of rfl) (.of rfl) .here rfl rfl (fk rfl rfl rfl) (bE rfl) ak ?_;refine Jn ?_)
  with_reducible refine dM 15 (by kernel_rfl) ?_
  (refine au (fun β=>(aY (.of rfl))) bB rfl ?_;refine au (fun β=>(gi (.of rfl) (.of rfl) (by omega) (by omega) bo)) bB rfl ?_;refine au (fun β=>(ar (.of rfl) ae)) bB rfl ?_;refine au (fun β=>(ai (.of rfl) (At.lit (.there .here) rfl))) bB rfl ?_;refine au (fun β=>(ar (.of rfl) ae)) bB rfl ?_;refine au (fun β=>(ai (.of rfl) (At.lit .here rfl))) bB rfl ?_)
  dsimp only [Nat.zero_add,Nat.reduceAdd]
  with_reducible apply cH (B:=[]) (F:=fun _=>.string (nj x.lv)) (args:=fun _=>[.int .i64 x.lv])
  case hB=>rfl
  case hr=>exact fun β=>bh (.of rfl) (.cons (.of rfl) .nil) inferInstance rfl
  case hi=>exact bB
  case hd=>rfl
  case hc=>exact fun β w' dw=>nN _ (by omega) (by omega) _
  dsimp only [Nat.reduceAdd]
  (refine au (fun β=>(ar (.of rfl) ae)) bB rfl ?_;refine au (fun β=>(ai (.of rfl) (At.lit .here rfl))) bB rfl ?_;refine au (fun β=>(ar (.of rfl) ae)) bB rfl ?_;refine au (fun β=>(ai (.of rfl) (At.lit .here rfl))) bB rfl ?_)
  refine kP (fun β=>(aA (.cons (.of rfl) (.cons (.of rfl) (.cons (.of rfl) (.cons (.of rfl) .nil)))) rfl rfl rfl rfl)) (fun _ _ _=>rfl) rfl ?_
  dsimp only [Nat.zero_add,Nat.reduceAdd]
  with_reducible apply cH (B:=[11]) (F:=fun _=>.string (QE x)) (args:=fun β=>[.slice (some ⟨eQ (β 11),0,none⟩) 4 4])
  case hB=>kernel_rfl
  case hr=>exact fun β=>bh (.of rfl) (.cons (.of rfl) .nil) inferInstance rfl
  case hi=>exact bB
  case hd=>rfl
  case hc=>
   intro β w' dw
   have mK:=dw.at 11 List.mem_cons_self (s:=⟨fun β=>.slice (some ⟨eQ (β 11),0,none⟩) 4 4,fun β=>[bD (eQ (β 11)) (.cells #[.string wP,.string (nj x.lv),.string x.ou,.string x.ip] 9)]⟩) (by kernel_rfl)
   dsimp only [List.cons_append,List.nil_append] at mK
   exact rC (l:=[wP,nj x.lv,x.ou,x.ip]) (Mem.dh mK (by exact .here) rfl rfl) (by simp) (iJ (by decide) (eO _) hx.1.1 hx.1.2)
  dsimp only [Nat.reduceAdd]
  (refine au (fun β=>(rq (.of rfl) (.of rfl) hb)) bB rfl ?_;refine au (fun β=>(cq (.of rfl))) bB rfl ?_)
  refine fC fun β=>?_
  dsimp only [eI,List.nil_append,List.cons_append,List.append_eq,Nat.reduceAdd]
  with_reducible refine cW (by kernel_rfl) ?_
  refine Jj<|Jt<|Jg<|JB rfl (by omega)<|Jv rfl<|Jn ?_
  apply aL (k+1,_) (show _∧_ from ⟨by omega,ll.symm⟩) (show r.po.length-(k+1)<r.po.length-k by omega)
  case hs1=>exact cn
  case ht=>
   exact .cons bI (.cons bI .nil)
 obtain rfl:k=r.po.length:=by omega
 rw [List.take_length] at hS
 rw [← hS]
 refine Jr<|JA rfl<|Jn<|Jq<|Jc rfl fun aq=>Jp<|Jl<|Jo<|Jt<|Jr<|Jv rfl<|Ja rfl<|Ja rfl<|Jn<|Je<|oB rfl (fL rfl rfl rfl) ?_
 rfl
end Go.Proofs.A1
namespace Go.Proofs.A1
open Go Go.SL
def Oo (r:Ro) (x:Value×Value×Value×Value):List ba:=[row 118 2 x.1 r.sr.length (nw r.sr),row 88 3 x.2.1 r.de.length (lq r.de),row 122 3 x.2.2.1 r.ti.length (pz r.ti),row 180 3 x.2.2.2 r.po.length (iW r.po)]
def mi (r:Ro):Prop:=r.sr.length≤1000000∧r.de.length≤1000000∧r.ti.length≤1000000∧r.po.length≤1000000
theorem Ru {r:Ro} {s d t p:Value} {w:World} (h:RR w r s d t p) (cJ:mi r):bd Tryz.prog 21 [RA r s d t p] w [] (fun _:Value×Value×Value×Value=>True) (fun x=>RA r x.1 x.2.1 x.2.2.1 x.2.2.2) (fun x=>rb r x):=by
 have h1:=Rd.one h.sr
 have h2:=Rd.one h.de
 have h3:=Rd.one h.ti
 have h4:=Rd.one h.po
 have Fs:=h.sr
 have FA:=h.de
 have Bh:=h.ti
 have HX:=h.po
 obtain ⟨a1,eh,NW,M6,rfl,pg,iE,lo,jY⟩:=Fs
 obtain ⟨a2,dx,NV,M5,rfl,jX,eW,je,jH⟩:=FA
 obtain ⟨a3,dV,IX,Hg,rfl,mS,fX,sR,pL⟩:=Bh
 obtain ⟨a4,fP,Ts,OQ,rfl,xF,l5,F2,zo⟩:=HX
 rw [cC] at *
 rw [bX] at *
 rw [bN] at *
 rw [cU] at *
 unfold maxLen at iE eW fX l5
 obtain ⟨f1,f2,f3,f4⟩:=cJ
 unfold RA
 refine aR Tryz.func21 rfl rfl ?_
 (refine Jr<|Jy rfl rfl fun _ _=>Jz rfl rfl fun _ _=>Ji<|bF rfl rfl ae ?_;refine JL rfl (.there .here) rfl<|bF rfl rfl ae ?_;refine JL rfl (.there .here) rfl<|ab (aS (.cons (.of rfl) (.cons (.of rfl) .nil)) ak) rfl ?_;refine Jz rfl rfl fun _ _=>ao (.of rfl) (.of rfl) .here rfl rfl (ib rfl rfl rfl rfl rfl rfl) (bE rfl) ak ?_;refine Jn<|Jq<|Jr<|bF rfl rfl ae ?_;refine JL rfl bI rfl<|JI rfl<|Jv rfl<|Jn<|J0 ?_)
 rename_i b1 sy b2 sQ b3 rG
 refine aQ 186 2 ?_
 refine aX (ι:=Nat×Option Addr×Nat) (fun y=>y.1≤r.sr.length) (fun y=>[(20,.int .i64 (y.1:Nat)),(19,.int .i64 r.sr.length),(18,.slice a1 r.sr.length eh),(3,.pointer (some ⟨b3,0,none⟩)),(2,.pointer (some ⟨b2,0,none⟩)),(1,.pointer (some ⟨b1,0,none⟩))]) (fun y=>[row 186 2 (.slice y.2.1 y.1 y.2.2) y.1 (nw (r.sr.take y.1)),JP b3 r (.slice y.2.1 y.1 y.2.2) (.slice none 0 0) (.slice none 0 0) (.slice none 0 0),bD b2 (.cells #[.int .i64 0,.int .i64 0,.slice none 0 0,.slice none 0 0,.slice none 0 0,.slice none 0 0] 41 (0,0)),JQ b1 r (.slice a1 r.sr.length eh) (.slice a2 r.de.length dx) (.slice a3 r.ti.length dV) (.slice a4 r.po.length fP)]) (fun y=>r.sr.length-y.1) ?_ ?_
 ·apply aK (0,none,0) (Nat.zero_le _)
  case hs1=>exact cn
  case ht=>
   exact .cons .here (.cons .here (.cons .here (.cons .here .nil)))
 rintro ⟨k,g1,qV⟩ hk
 dsimp only at hk ⊢
 by_cases aN:k<r.sr.length
 ·have cM:=lo (im aN)
  have aD:=(jY k _ (fD aN)).2
  have a7:=Aw aN
  have hlen:(nw (r.sr.take k)).length=k*2:=by rw [DR,List.length_take];omega
  unfold Sr.cells at aD a7
  generalize r.sr[k]=x at aD a7
  (refine Jr<|JA rfl<|Jn<|Jq<|Jd rfl fun aq=>Jk<|Jq<|J0<|Jr<|ab (fM cM aq) rfl ?_;refine ab (iz (eG.base aD rfl)) rfl ?_;refine Jz rfl rfl fun _ _=>ao (.of rfl) (.of rfl) .here rfl rfl (gn rfl rfl) (bE rfl) ak ?_;refine Jn<|Jg<|bF rfl rfl ae ?_;refine JL rfl bI rfl<|ab (cr .here) rfl ?_;refine bb (bu (.cons (.of rfl) .nil) rfl rfl bM bM ak) rfl fun _ _=>?_)
  refine bz (.of rfl) (.of rfl) bI .here ak (by rfl) (gn rfl rfl) (by rfl) (by rfl) (by rfl) ep (by rfl) ?_
  intro v'
  refine aW (v:=v') (by exact .here) fun gx cx e=>?_
  subst e
  (refine bF rfl rfl ae ?_;refine ao (.of rfl) (.of rfl) cY rfl rfl (dZ rfl) (bE rfl) ak ?_;refine Jx<|Jj<|Jt<|Jg<|JB rfl (by omega)<|Jv rfl<|Jn ?_)
  apply aL (k+1,gx,cx) (by show k+1≤r.sr.length;omega) (by show r.sr.length-(k+1)<r.sr.length-k;omega)
  case hs1=>exact cn
  case ht=>
   show bj _ [row 186 2 (.slice gx (k+1) cx) (k+1) (nw (r.sr.take (k+1))),JP b3 r (.slice gx (k+1) cx) (.slice none 0 0) (.slice none 0 0) (.slice none 0 0),bD b2 (.cells #[.int .i64 0,.int .i64 0,.slice none 0 0,.slice none 0 0,.slice none 0 0,.slice none 0 0] 41 (0,0)),JQ b1 r (.slice a1 r.sr.length eh) (.slice a2 r.de.length dx) (.slice a3 r.ti.length dV) (.slice a4 r.po.length fP)] _
   rw [a7]
   exact .cons (.there .here) (.cons .here (.cons bI (.cons bI .nil)))
 obtain rfl:k=r.sr.length:=by omega
 rw [List.take_length]
 clear hk aN
 (refine Jr<|JA rfl<|Jn<|Jq<|Jc rfl fun aq=>Jp<|Jl<|Jo<|Jt<|Jq<|Jr<|bF rfl rfl ae ?_;refine JL rfl cY rfl<|JI rfl<|Jv rfl<|Jn<|J0 ?_)
 refine aQ 90 3 ?_
 refine aX (ι:=Nat×Option Addr×Nat) (fun y=>y.1≤r.de.length) (fun y=>[(34,.int .i64 (y.1:Nat)),(33,.int .i64 r.de.length),(32,.slice a2 r.de.length dx),(3,.pointer (some ⟨b3,0,none⟩)),(2,.pointer (some ⟨b2,0,none⟩)),(1,.pointer (some ⟨b1,0,none⟩))]) (fun y=>[row 90 3 (.slice y.2.1 y.1 y.2.2) y.1 (lq (r.de.take y.1)),row 186 2 (.slice g1 r.sr.length qV) r.sr.length (nw r.sr),JP b3 r (.slice g1 r.sr.length qV) (.slice y.2.1 y.1 y.2.2) (.slice none 0 0) (.slice none 0 0),bD b2 (.cells #[.int .i64 0,.int .i64 0,.slice none 0 0,.slice none 0 0,.slice none 0 0,.slice none 0 0] 41 (0,0)),JQ b1 r (.slice a1 r.sr.length eh) (.slice a2 r.de.length dx) (.slice a3 r.ti.length dV) (.slice a4 r.po.length fP)]) (fun y=>r.de.length-y.1) ?_ ?_
 ·apply aK (0,none,0) (Nat.zero_le _)
  case hs1=>exact cn
  case ht=>
   exact .cons .here (.cons .here (.cons .here (.cons .here (.cons .here .nil))))
 rintro ⟨k,g2,vX⟩ hk
 dsimp only at hk ⊢
 by_cases aN:k<r.de.length
 ·have cM:=je (gm aN)
  have aD:=(jH k _ (fa aN)).2
  have a7:=BB aN
  have hlen:(lq (r.de.take k)).length=k*3:=by rw [EB,List.length_take];omega
  unfold De.cells at aD a7
  generalize r.de[k]=x at aD a7
  (refine Jr<|JA rfl<|Jn<|Jq<|Jd rfl fun aq=>Jk<|Jq<|J0<|Jr<|ab (fM cM aq) rfl ?_;refine ab (iz (eG.base aD rfl)) rfl ?_;refine Jz rfl rfl fun _ _=>ao (.of rfl) (.of rfl) .here rfl rfl (fk rfl rfl rfl) (bE rfl) ak ?_;refine Jn<|Jg<|bF rfl rfl ae ?_;refine JL rfl cY rfl<|ab (cr .here) rfl ?_;refine bb (bu (.cons (.of rfl) .nil) rfl rfl bM bM ak) rfl fun _ _=>?_)
  refine bz (.of rfl) (.of rfl) bI .here ak (by rfl) (fk rfl rfl rfl) (by rfl) (by rfl) (by rfl) ep (by rfl) ?_
  intro v'
  refine aW (v:=v') (by exact .here) fun gx cx e=>?_
  subst e
  (refine bF rfl rfl ae ?_;refine ao (.of rfl) (.of rfl) ei rfl rfl (dZ rfl) (bE rfl) ak ?_;refine Jx<|Jj<|Jt<|Jg<|JB rfl (by omega)<|Jv rfl<|Jn ?_)
  apply aL (k+1,gx,cx) (by show k+1≤r.de.length;omega) (by show r.de.length-(k+1)<r.de.length-k;omega)
  case hs1=>exact cn
  case ht=>
   show bj _ [row 90 3 (.slice gx (k+1) cx) (k+1) (lq (r.de.take (k+1))),row 186 2 (.slice g1 r.sr.length qV) r.sr.length (nw r.sr),JP b3 r (.slice g1 r.sr.length qV) (.slice gx (k+1) cx) (.slice none 0 0) (.slice none 0 0),bD b2 (.cells #[.int .i64 0,.int .i64 0,.slice none 0 0,.slice none 0 0,.slice none 0 0,.slice none 0 0] 41 (0,0)),JQ b1 r (.slice a1 r.sr.length eh) (.slice a2 r.de.length dx) (.slice a3 r.ti.length dV) (.slice a4 r.po.length fP)] _
   rw [a7]
   exact .cons (.there .here) (.cons cY (.cons .here (.cons bI (.cons bI .nil))))
 obtain rfl:k=r.de.length:=by omega
 rw [List.take_length]
 clear hk aN
 (refine Jr<|JA rfl<|Jn<|Jq<|Jc rfl fun aq=>Jp<|Jl<|Jo<|Jt<|Jq<|Jr<|bF rfl rfl ae ?_;refine JL rfl ei rfl<|JI rfl<|Jv rfl<|Jn<|J0 ?_)
 refine aQ 187 3 ?_
 refine aX (ι:=Nat×Option Addr×Nat) (fun y=>y.1≤r.ti.length) (fun y=>[(48,.int .i64 (y.1:Nat)),(47,.int .i64 r.ti.length),(46,.slice a3 r.ti.length dV),(3,.pointer (some ⟨b3,0,none⟩)),(2,.pointer (some ⟨b2,0,none⟩)),(1,.pointer (some ⟨b1,0,none⟩))]) (fun y=>[row 187 3 (.slice y.2.1 y.1 y.2.2) y.1 (pz (r.ti.take y.1)),row 90 3 (.slice g2 r.de.length vX) r.de.length (lq r.de),row 186 2 (.slice g1 r.sr.length qV) r.sr.length (nw r.sr),JP b3 r (.slice g1 r.sr.length qV) (.slice g2 r.de.length vX) (.slice y.2.1 y.1 y.2.2) (.slice none 0 0),bD b2 (.cells #[.int .i64 0,.int .i64 0,.slice none 0 0,.slice none 0 0,.slice none 0 0,.slice none 0 0] 41 (0,0)),JQ b1 r (.slice a1 r.sr.length eh) (.slice a2 r.de.length dx) (.slice a3 r.ti.length dV) (.slice a4 r.po.length fP)]) (fun y=>r.ti.length-y.1) ?_ ?_
 ·apply aK (0,none,0) (Nat.zero_le _)
  case hs1=>exact cn
  case ht=>
   exact .cons .here (.cons .here (.cons .here (.cons .here (.cons .here (.cons .here .nil)))))
 rintro ⟨k,g3,FG⟩ hk
 dsimp only at hk ⊢
 by_cases aN:k<r.ti.length
 ·have cM:=sR (eT aN)
  have aD:=(pL k _ (ed aN)).2
  have a7:=Au aN
  have hlen:(pz (r.ti.take k)).length=k*3:=by rw [DN,List.length_take];omega
  unfold Ti.cells at aD a7
  generalize r.ti[k]=x at aD a7
  (refine Jr<|JA rfl<|Jn<|Jq<|Jd rfl fun aq=>Jk<|Jq<|J0<|Jr<|ab (fM cM aq) rfl ?_;refine ab (iz (eG.base aD rfl)) rfl ?_;refine Jz rfl rfl fun _ _=>ao (.of rfl) (.of rfl) .here rfl rfl (fk rfl rfl rfl) (bE rfl) ak ?_;refine Jn<|Jg<|bF rfl rfl ae ?_;refine JL rfl ei rfl<|ab (cr .here) rfl ?_;refine bb (bu (.cons (.of rfl) .nil) rfl rfl bM bM ak) rfl fun _ _=>?_)
  refine bz (.of rfl) (.of rfl) bI .here ak (by rfl) (fk rfl rfl rfl) (by rfl) (by rfl) (by rfl) ep (by rfl) ?_
  intro v'
  refine aW (v:=v') (by exact .here) fun gx cx e=>?_
  subst e
  (refine bF rfl rfl ae ?_;refine ao (.of rfl) (.of rfl) eC rfl rfl (dZ rfl) (bE rfl) ak ?_;refine Jx<|Jj<|Jt<|Jg<|JB rfl (by omega)<|Jv rfl<|Jn ?_)
  apply aL (k+1,gx,cx) (by show k+1≤r.ti.length;omega) (by show r.ti.length-(k+1)<r.ti.length-k;omega)
  case hs1=>exact cn
  case ht=>
   show bj _ [row 187 3 (.slice gx (k+1) cx) (k+1) (pz (r.ti.take (k+1))),row 90 3 (.slice g2 r.de.length vX) r.de.length (lq r.de),row 186 2 (.slice g1 r.sr.length qV) r.sr.length (nw r.sr),JP b3 r (.slice g1 r.sr.length qV) (.slice g2 r.de.length vX) (.slice gx (k+1) cx) (.slice none 0 0),bD b2 (.cells #[.int .i64 0,.int .i64 0,.slice none 0 0,.slice none 0 0,.slice none 0 0,.slice none 0 0] 41 (0,0)),JQ b1 r (.slice a1 r.sr.length eh) (.slice a2 r.de.length dx) (.slice a3 r.ti.length dV) (.slice a4 r.po.length fP)] _
   rw [a7]
   exact .cons (.there .here) (.cons cY (.cons cY (.cons .here (.cons bI (.cons bI .nil)))))
 obtain rfl:k=r.ti.length:=by omega
 rw [List.take_length]
 clear hk aN
 (refine Jr<|JA rfl<|Jn<|Jq<|Jc rfl fun aq=>Jp<|Jl<|Jo<|Jt<|Jq<|Jr<|bF rfl rfl ae ?_;refine JL rfl eC rfl<|JI rfl<|Jv rfl<|Jn<|J0 ?_)
 refine aQ 188 3 ?_
 refine aX (ι:=Nat×Option Addr×Nat) (fun y=>y.1≤r.po.length) (fun y=>[(62,.int .i64 (y.1:Nat)),(61,.int .i64 r.po.length),(60,.slice a4 r.po.length fP),(3,.pointer (some ⟨b3,0,none⟩)),(2,.pointer (some ⟨b2,0,none⟩)),(1,.pointer (some ⟨b1,0,none⟩))]) (fun y=>[row 188 3 (.slice y.2.1 y.1 y.2.2) y.1 (iW (r.po.take y.1)),row 187 3 (.slice g3 r.ti.length FG) r.ti.length (pz r.ti),row 90 3 (.slice g2 r.de.length vX) r.de.length (lq r.de),row 186 2 (.slice g1 r.sr.length qV) r.sr.length (nw r.sr),JP b3 r (.slice g1 r.sr.length qV) (.slice g2 r.de.length vX) (.slice g3 r.ti.length FG) (.slice y.2.1 y.1 y.2.2),bD b2 (.cells #[.int .i64 0,.int .i64 0,.slice none 0 0,.slice none 0 0,.slice none 0 0,.slice none 0 0] 41 (0,0)),JQ b1 r (.slice a1 r.sr.length eh) (.slice a2 r.de.length dx) (.slice a3 r.ti.length dV) (.slice a4 r.po.length fP)]) (fun y=>r.po.length-y.1) ?_ ?_
 ·apply aK (0,none,0) (Nat.zero_le _)
  case hs1=>exact cn
  case ht=>
   exact .cons .here (.cons .here (.cons .here (.cons .here (.cons .here (.cons .here (.cons .here .nil))))))
 rintro ⟨k,g4,S5⟩ hk
 dsimp only at hk ⊢
 by_cases aN:k<r.po.length
 ·have cM:=F2 (jO aN)
  have aD:=(zo k _ (gY aN)).2
  have a7:=AX aN
  have hlen:(iW (r.po.take k)).length=k*3:=by rw [ja,List.length_take];omega
  unfold Po.cells at aD a7
  generalize r.po[k]=x at aD a7
  (refine Jr<|JA rfl<|Jn<|Jq<|Jd rfl fun aq=>Jk<|Jq<|J0<|Jr<|ab (fM cM aq) rfl ?_;refine ab (iz (eG.base aD rfl)) rfl ?_;refine Jz rfl rfl fun _ _=>ao (.of rfl) (.of rfl) .here rfl rfl (fk rfl rfl rfl) (bE rfl) ak ?_;refine Jn<|Jg<|bF rfl rfl ae ?_;refine JL rfl eC rfl<|ab (cr .here) rfl ?_;refine bb (bu (.cons (.of rfl) .nil) rfl rfl bM bM ak) rfl fun _ _=>?_)
  refine bz (.of rfl) (.of rfl) bI .here ak (by rfl) (fk rfl rfl rfl) (by rfl) (by rfl) (by rfl) ep (by rfl) ?_
  intro v'
  refine aW (v:=v') (by exact .here) fun gx cx e=>?_
  subst e
  (refine bF rfl rfl ae ?_;refine ao (.of rfl) (.of rfl) oq rfl rfl (dZ rfl) (bE rfl) ak ?_;refine Jx<|Jj<|Jt<|Jg<|JB rfl (by omega)<|Jv rfl<|Jn ?_)
  apply aL (k+1,gx,cx) (by show k+1≤r.po.length;omega) (by show r.po.length-(k+1)<r.po.length-k;omega)
  case hs1=>exact cn
  case ht=>
   show bj _ [row 188 3 (.slice gx (k+1) cx) (k+1) (iW (r.po.take (k+1))),row 187 3 (.slice g3 r.ti.length FG) r.ti.length (pz r.ti),row 90 3 (.slice g2 r.de.length vX) r.de.length (lq r.de),row 186 2 (.slice g1 r.sr.length qV) r.sr.length (nw r.sr),JP b3 r (.slice g1 r.sr.length qV) (.slice g2 r.de.length vX) (.slice g3 r.ti.length FG) (.slice gx (k+1) cx),bD b2 (.cells #[.int .i64 0,.int .i64 0,.slice none 0 0,.slice none 0 0,.slice none 0 0,.slice none 0 0] 41 (0,0)),JQ b1 r (.slice a1 r.sr.length eh) (.slice a2 r.de.length dx) (.slice a3 r.ti.length dV) (.slice a4 r.po.length fP)] _
   rw [a7]
   exact .cons (.there .here) (.cons cY (.cons cY (.cons cY (.cons .here (.cons bI (.cons bI .nil))))))
 obtain rfl:k=r.po.length:=by omega
 rw [List.take_length]
 clear hk aN
 (refine Jr<|JA rfl<|Jn<|Jq<|Jc rfl fun aq=>Jp<|Jl<|Jo<|Jt<|Jr<|ab (cr ei) rfl ?_;refine ao (.of rfl) (.of rfl) eC rfl rfl (ib rfl rfl rfl rfl rfl rfl) (bE rfl) ak ?_;refine Jn<|Je ?_)
 first | with_reducible apply aO | with_reducible apply aP
 case he=>exact ke rfl inferInstance rfl .here ak (by rfl)
 case hR=>
  intro w' az
  exact aB (.slice g1 r.sr.length qV,.slice g2 r.de.length vX,.slice g3 r.ti.length FG,.slice g4 r.po.length S5) trivial (by exact .cons ei (.cons cY (.cons bI (.cons (.there .here) .nil)))) az rfl
theorem Gs {r:Ro} {s d t p:Value} {w:World} (h:RR w r s d t p) (cJ:mi r):bd Tryz.prog 57 [RA r s d t p] w [] (fun _:Value×Value×Value×Value=>True) (fun x=>RA r x.1 x.2.1 x.2.2.1 x.2.2.2) (fun x=>Oo r x):=by
 have h1:=Rd.one h.sr
 have h2:=Rd.one h.de
 have h3:=Rd.one h.ti
 have h4:=Rd.one h.po
 have Fs:=h.sr
 have FA:=h.de
 have Bh:=h.ti
 have HX:=h.po
 obtain ⟨a1,eh,NW,M6,rfl,pg,iE,lo,jY⟩:=Fs
 obtain ⟨a2,dx,NV,M5,rfl,jX,eW,je,jH⟩:=FA
 obtain ⟨a3,dV,IX,Hg,rfl,mS,fX,sR,pL⟩:=Bh
 obtain ⟨a4,fP,Ts,OQ,rfl,xF,l5,F2,zo⟩:=HX
 rw [cC] at *
 rw [bX] at *
 rw [bN] at *
 rw [cU] at *
 unfold maxLen at iE eW fX l5
 obtain ⟨f1,f2,f3,f4⟩:=cJ
 unfold RA
 refine aR Tryz.func57 rfl rfl ?_
 (refine Jr<|Jy rfl rfl fun _ _=>Jz rfl rfl fun _ _=>Ji<|bF rfl rfl ae ?_;refine JL rfl (.there .here) rfl<|bF rfl rfl ae ?_;refine JL rfl (.there .here) rfl<|ab (aS (.cons (.of rfl) (.cons (.of rfl) .nil)) ak) rfl ?_;refine Jz rfl rfl fun _ _=>ao (.of rfl) (.of rfl) .here rfl rfl (ib rfl rfl rfl rfl rfl rfl) (bE rfl) ak ?_;refine Jn<|Jq<|Jr<|bF rfl rfl ae ?_;refine JL rfl bI rfl<|JI rfl<|Jv rfl<|Jn<|J0 ?_)
 rename_i b1 sy b2 sQ b3 rG
 refine aQ 118 2 ?_
 refine aX (ι:=Nat×Option Addr×Nat) (fun y=>y.1≤r.sr.length) (fun y=>[(20,.int .i64 (y.1:Nat)),(19,.int .i64 r.sr.length),(18,.slice a1 r.sr.length eh),(3,.pointer (some ⟨b3,0,none⟩)),(2,.pointer (some ⟨b2,0,none⟩)),(1,.pointer (some ⟨b1,0,none⟩))]) (fun y=>[row 118 2 (.slice y.2.1 y.1 y.2.2) y.1 (nw (r.sr.take y.1)),JQ b3 r (.slice y.2.1 y.1 y.2.2) (.slice none 0 0) (.slice none 0 0) (.slice none 0 0),bD b2 (.cells #[.int .i64 0,.int .i64 0,.slice none 0 0,.slice none 0 0,.slice none 0 0,.slice none 0 0] 27 (0,0)),JP b1 r (.slice a1 r.sr.length eh) (.slice a2 r.de.length dx) (.slice a3 r.ti.length dV) (.slice a4 r.po.length fP)]) (fun y=>r.sr.length-y.1) ?_ ?_
 ·apply aK (0,none,0) (Nat.zero_le _)
  case hs1=>exact cn
  case ht=>
   exact .cons .here (.cons .here (.cons .here (.cons .here .nil)))
 rintro ⟨k,g1,qV⟩ hk
 dsimp only at hk ⊢
 by_cases aN:k<r.sr.length
 ·have cM:=lo (im aN)
  have aD:=(jY k _ (fD aN)).2
  have a7:=Aw aN
  have hlen:(nw (r.sr.take k)).length=k*2:=by rw [DR,List.length_take];omega
  unfold Sr.cells at aD a7
  generalize r.sr[k]=x at aD a7
  (refine Jr<|JA rfl<|Jn<|Jq<|Jd rfl fun aq=>Jk<|Jq<|J0<|Jr<|ab (fM cM aq) rfl ?_;refine ab (iz (eG.base aD rfl)) rfl ?_;refine Jz rfl rfl fun _ _=>ao (.of rfl) (.of rfl) .here rfl rfl (gn rfl rfl) (bE rfl) ak ?_;refine Jn<|Jg<|bF rfl rfl ae ?_;refine JL rfl bI rfl<|ab (cr .here) rfl ?_;refine bb (bu (.cons (.of rfl) .nil) rfl rfl bM bM ak) rfl fun _ _=>?_)
  refine bz (.of rfl) (.of rfl) bI .here ak (by rfl) (gn rfl rfl) (by rfl) (by rfl) (by rfl) ep (by rfl) ?_
  intro v'
  refine aW (v:=v') (by exact .here) fun gx cx e=>?_
  subst e
  (refine bF rfl rfl ae ?_;refine ao (.of rfl) (.of rfl) cY rfl rfl (dZ rfl) (bE rfl) ak ?_;refine Jx<|Jj<|Jt<|Jg<|JB rfl (by omega)<|Jv rfl<|Jn ?_)
  apply aL (k+1,gx,cx) (by show k+1≤r.sr.length;omega) (by show r.sr.length-(k+1)<r.sr.length-k;omega)
  case hs1=>exact cn
  case ht=>
   show bj _ [row 118 2 (.slice gx (k+1) cx) (k+1) (nw (r.sr.take (k+1))),JQ b3 r (.slice gx (k+1) cx) (.slice none 0 0) (.slice none 0 0) (.slice none 0 0),bD b2 (.cells #[.int .i64 0,.int .i64 0,.slice none 0 0,.slice none 0 0,.slice none 0 0,.slice none 0 0] 27 (0,0)),JP b1 r (.slice a1 r.sr.length eh) (.slice a2 r.de.length dx) (.slice a3 r.ti.length dV) (.slice a4 r.po.length fP)] _
   rw [a7]
   exact .cons (.there .here) (.cons .here (.cons bI (.cons bI .nil)))
 obtain rfl:k=r.sr.length:=by omega
 rw [List.take_length]
 clear hk aN
 (refine Jr<|JA rfl<|Jn<|Jq<|Jc rfl fun aq=>Jp<|Jl<|Jo<|Jt<|Jq<|Jr<|bF rfl rfl ae ?_;refine JL rfl cY rfl<|JI rfl<|Jv rfl<|Jn<|J0 ?_)
 refine aQ 88 3 ?_
 refine aX (ι:=Nat×Option Addr×Nat) (fun y=>y.1≤r.de.length) (fun y=>[(34,.int .i64 (y.1:Nat)),(33,.int .i64 r.de.length),(32,.slice a2 r.de.length dx),(3,.pointer (some ⟨b3,0,none⟩)),(2,.pointer (some ⟨b2,0,none⟩)),(1,.pointer (some ⟨b1,0,none⟩))]) (fun y=>[row 88 3 (.slice y.2.1 y.1 y.2.2) y.1 (lq (r.de.take y.1)),row 118 2 (.slice g1 r.sr.length qV) r.sr.length (nw r.sr),JQ b3 r (.slice g1 r.sr.length qV) (.slice y.2.1 y.1 y.2.2) (.slice none 0 0) (.slice none 0 0),bD b2 (.cells #[.int .i64 0,.int .i64 0,.slice none 0 0,.slice none 0 0,.slice none 0 0,.slice none 0 0] 27 (0,0)),JP b1 r (.slice a1 r.sr.length eh) (.slice a2 r.de.length dx) (.slice a3 r.ti.length dV) (.slice a4 r.po.length fP)]) (fun y=>r.de.length-y.1) ?_ ?_
 ·apply aK (0,none,0) (Nat.zero_le _)
  case hs1=>exact cn
  case ht=>
   exact .cons .here (.cons .here (.cons .here (.cons .here (.cons .here .nil))))
 rintro ⟨k,g2,vX⟩ hk
 dsimp only at hk ⊢
 by_cases aN:k<r.de.length
 ·have cM:=je (gm aN)
  have aD:=(jH k _ (fa aN)).2
  have a7:=BB aN
  have hlen:(lq (r.de.take k)).length=k*3:=by rw [EB,List.length_take];omega
  unfold De.cells at aD a7
  generalize r.de[k]=x at aD a7
  (refine Jr<|JA rfl<|Jn<|Jq<|Jd rfl fun aq=>Jk<|Jq<|J0<|Jr<|ab (fM cM aq) rfl ?_;refine ab (iz (eG.base aD rfl)) rfl ?_;refine Jz rfl rfl fun _ _=>ao (.of rfl) (.of rfl) .here rfl rfl (fk rfl rfl rfl) (bE rfl) ak ?_;refine Jn<|Jg<|bF rfl rfl ae ?_;refine JL rfl cY rfl<|ab (cr .here) rfl ?_;refine bb (bu (.cons (.of rfl) .nil) rfl rfl bM bM ak) rfl fun _ _=>?_)
  refine bz (.of rfl) (.of rfl) bI .here ak (by rfl) (fk rfl rfl rfl) (by rfl) (by rfl) (by rfl) ep (by rfl) ?_
  intro v'
  refine aW (v:=v') (by exact .here) fun gx cx e=>?_
  subst e
  (refine bF rfl rfl ae ?_;refine ao (.of rfl) (.of rfl) ei rfl rfl (dZ rfl) (bE rfl) ak ?_;refine Jx<|Jj<|Jt<|Jg<|JB rfl (by omega)<|Jv rfl<|Jn ?_)
  apply aL (k+1,gx,cx) (by show k+1≤r.de.length;omega) (by show r.de.length-(k+1)<r.de.length-k;omega)
  case hs1=>exact cn
  case ht=>
   show bj _ [row 88 3 (.slice gx (k+1) cx) (k+1) (lq (r.de.take (k+1))),row 118 2 (.slice g1 r.sr.length qV) r.sr.length (nw r.sr),JQ b3 r (.slice g1 r.sr.length qV) (.slice gx (k+1) cx) (.slice none 0 0) (.slice none 0 0),bD b2 (.cells #[.int .i64 0,.int .i64 0,.slice none 0 0,.slice none 0 0,.slice none 0 0,.slice none 0 0] 27 (0,0)),JP b1 r (.slice a1 r.sr.length eh) (.slice a2 r.de.length dx) (.slice a3 r.ti.length dV) (.slice a4 r.po.length fP)] _
   rw [a7]
   exact .cons (.there .here) (.cons cY (.cons .here (.cons bI (.cons bI .nil))))
 obtain rfl:k=r.de.length:=by omega
 rw [List.take_length]
 clear hk aN
 (refine Jr<|JA rfl<|Jn<|Jq<|Jc rfl fun aq=>Jp<|Jl<|Jo<|Jt<|Jq<|Jr<|bF rfl rfl ae ?_;refine JL rfl ei rfl<|JI rfl<|Jv rfl<|Jn<|J0 ?_)
 refine aQ 122 3 ?_
 refine aX (ι:=Nat×Option Addr×Nat) (fun y=>y.1≤r.ti.length) (fun y=>[(48,.int .i64 (y.1:Nat)),(47,.int .i64 r.ti.length),(46,.slice a3 r.ti.length dV),(3,.pointer (some ⟨b3,0,none⟩)),(2,.pointer (some ⟨b2,0,none⟩)),(1,.pointer (some ⟨b1,0,none⟩))]) (fun y=>[row 122 3 (.slice y.2.1 y.1 y.2.2) y.1 (pz (r.ti.take y.1)),row 88 3 (.slice g2 r.de.length vX) r.de.length (lq r.de),row 118 2 (.slice g1 r.sr.length qV) r.sr.length (nw r.sr),JQ b3 r (.slice g1 r.sr.length qV) (.slice g2 r.de.length vX) (.slice y.2.1 y.1 y.2.2) (.slice none 0 0),bD b2 (.cells #[.int .i64 0,.int .i64 0,.slice none 0 0,.slice none 0 0,.slice none 0 0,.slice none 0 0] 27 (0,0)),JP b1 r (.slice a1 r.sr.length eh) (.slice a2 r.de.length dx) (.slice a3 r.ti.length dV) (.slice a4 r.po.length fP)]) (fun y=>r.ti.length-y.1) ?_ ?_
 ·apply aK (0,none,0) (Nat.zero_le _)
  case hs1=>exact cn
  case ht=>
   exact .cons .here (.cons .here (.cons .here (.cons .here (.cons .here (.cons .here .nil)))))
 rintro ⟨k,g3,FG⟩ hk
 dsimp only at hk ⊢
 by_cases aN:k<r.ti.length
 ·have cM:=sR (eT aN)
  have aD:=(pL k _ (ed aN)).2
  have a7:=Au aN
  have hlen:(pz (r.ti.take k)).length=k*3:=by rw [DN,List.length_take];omega
  unfold Ti.cells at aD a7
  generalize r.ti[k]=x at aD a7
  (refine Jr<|JA rfl<|Jn<|Jq<|Jd rfl fun aq=>Jk<|Jq<|J0<|Jr<|ab (fM cM aq) rfl ?_;refine ab (iz (eG.base aD rfl)) rfl ?_;refine Jz rfl rfl fun _ _=>ao (.of rfl) (.of rfl) .here rfl rfl (fk rfl rfl rfl) (bE rfl) ak ?_;refine Jn<|Jg<|bF rfl rfl ae ?_;refine JL rfl ei rfl<|ab (cr .here) rfl ?_;refine bb (bu (.cons (.of rfl) .nil) rfl rfl bM bM ak) rfl fun _ _=>?_)
  refine bz (.of rfl) (.of rfl) bI .here ak (by rfl) (fk rfl rfl rfl) (by rfl) (by rfl) (by rfl) ep (by rfl) ?_
  intro v'
  refine aW (v:=v') (by exact .here) fun gx cx e=>?_
  subst e
  (refine bF rfl rfl ae ?_;refine ao (.of rfl) (.of rfl) eC rfl rfl (dZ rfl) (bE rfl) ak ?_;refine Jx<|Jj<|Jt<|Jg<|JB rfl (by omega)<|Jv rfl<|Jn ?_)
  apply aL (k+1,gx,cx) (by show k+1≤r.ti.length;omega) (by show r.ti.length-(k+1)<r.ti.length-k;omega)
  case hs1=>exact cn
  case ht=>
   show bj _ [row 122 3 (.slice gx (k+1) cx) (k+1) (pz (r.ti.take (k+1))),row 88 3 (.slice g2 r.de.length vX) r.de.length (lq r.de),row 118 2 (.slice g1 r.sr.length qV) r.sr.length (nw r.sr),JQ b3 r (.slice g1 r.sr.length qV) (.slice g2 r.de.length vX) (.slice gx (k+1) cx) (.slice none 0 0),bD b2 (.cells #[.int .i64 0,.int .i64 0,.slice none 0 0,.slice none 0 0,.slice none 0 0,.slice none 0 0] 27 (0,0)),JP b1 r (.slice a1 r.sr.length eh) (.slice a2 r.de.length dx) (.slice a3 r.ti.length dV) (.slice a4 r.po.length fP)] _
   rw [a7]
   exact .cons (.there .here) (.cons cY (.cons cY (.cons .here (.cons bI (.cons bI .nil)))))
 obtain rfl:k=r.ti.length:=by omega
 rw [List.take_length]
 clear hk aN
 (refine Jr<|JA rfl<|Jn<|Jq<|Jc rfl fun aq=>Jp<|Jl<|Jo<|Jt<|Jq<|Jr<|bF rfl rfl ae ?_;refine JL rfl eC rfl<|JI rfl<|Jv rfl<|Jn<|J0 ?_)
 refine aQ 180 3 ?_
 refine aX (ι:=Nat×Option Addr×Nat) (fun y=>y.1≤r.po.length) (fun y=>[(62,.int .i64 (y.1:Nat)),(61,.int .i64 r.po.length),(60,.slice a4 r.po.length fP),(3,.pointer (some ⟨b3,0,none⟩)),(2,.pointer (some ⟨b2,0,none⟩)),(1,.pointer (some ⟨b1,0,none⟩))]) (fun y=>[row 180 3 (.slice y.2.1 y.1 y.2.2) y.1 (iW (r.po.take y.1)),row 122 3 (.slice g3 r.ti.length FG) r.ti.length (pz r.ti),row 88 3 (.slice g2 r.de.length vX) r.de.length (lq r.de),row 118 2 (.slice g1 r.sr.length qV) r.sr.length (nw r.sr),JQ b3 r (.slice g1 r.sr.length qV) (.slice g2 r.de.length vX) (.slice g3 r.ti.length FG) (.slice y.2.1 y.1 y.2.2),bD b2 (.cells #[.int .i64 0,.int .i64 0,.slice none 0 0,.slice none 0 0,.slice none 0 0,.slice none 0 0] 27 (0,0)),JP b1 r (.slice a1 r.sr.length eh) (.slice a2 r.de.length dx) (.slice a3 r.ti.length dV) (.slice a4 r.po.length fP)]) (fun y=>r.po.length-y.1) ?_ ?_
 ·apply aK (0,none,0) (Nat.zero_le _)
  case hs1=>exact cn
  case ht=>
   exact .cons .here (.cons .here (.cons .here (.cons .here (.cons .here (.cons .here (.cons .here .nil))))))
 rintro ⟨k,g4,S5⟩ hk
 dsimp only at hk ⊢
 by_cases aN:k<r.po.length
 ·have cM:=F2 (jO aN)
  have aD:=(zo k _ (gY aN)).2
  have a7:=AX aN
  have hlen:(iW (r.po.take k)).length=k*3:=by rw [ja,List.length_take];omega
  unfold Po.cells at aD a7
  generalize r.po[k]=x at aD a7
  (refine Jr<|JA rfl<|Jn<|Jq<|Jd rfl fun aq=>Jk<|Jq<|J0<|Jr<|ab (fM cM aq) rfl ?_;refine ab (iz (eG.base aD rfl)) rfl ?_;refine Jz rfl rfl fun _ _=>ao (.of rfl) (.of rfl) .here rfl rfl (fk rfl rfl rfl) (bE rfl) ak ?_;refine Jn<|Jg<|bF rfl rfl ae ?_;refine JL rfl eC rfl<|ab (cr .here) rfl ?_;refine bb (bu (.cons (.of rfl) .nil) rfl rfl bM bM ak) rfl fun _ _=>?_)
  refine bz (.of rfl) (.of rfl) bI .here ak (by rfl) (fk rfl rfl rfl) (by rfl) (by rfl) (by rfl) ep (by rfl) ?_
  intro v'
  refine aW (v:=v') (by exact .here) fun gx cx e=>?_
  subst e
  (refine bF rfl rfl ae ?_;refine ao (.of rfl) (.of rfl) oq rfl rfl (dZ rfl) (bE rfl) ak ?_;refine Jx<|Jj<|Jt<|Jg<|JB rfl (by omega)<|Jv rfl<|Jn ?_)
  apply aL (k+1,gx,cx) (by show k+1≤r.po.length;omega) (by show r.po.length-(k+1)<r.po.length-k;omega)
  case hs1=>exact cn
  case ht=>
   show bj _ [row 180 3 (.slice gx (k+1) cx) (k+1) (iW (r.po.take (k+1))),row 122 3 (.slice g3 r.ti.length FG) r.ti.length (pz r.ti),row 88 3 (.slice g2 r.de.length vX) r.de.length (lq r.de),row 118 2 (.slice g1 r.sr.length qV) r.sr.length (nw r.sr),JQ b3 r (.slice g1 r.sr.length qV) (.slice g2 r.de.length vX) (.slice g3 r.ti.length FG) (.slice gx (k+1) cx),bD b2 (.cells #[.int .i64 0,.int .i64 0,.slice none 0 0,.slice none 0 0,.slice none 0 0,.slice none 0 0] 27 (0,0)),JP b1 r (.slice a1 r.sr.length eh) (.slice a2 r.de.length dx) (.slice a3 r.ti.length dV) (.slice a4 r.po.length fP)] _
   rw [a7]
   exact .cons (.there .here) (.cons cY (.cons cY (.cons cY (.cons .here (.cons bI (.cons bI .nil))))))
 obtain rfl:k=r.po.length:=by omega
 rw [List.take_length]
 clear hk aN
 (refine Jr<|JA rfl<|Jn<|Jq<|Jc rfl fun aq=>Jp<|Jl<|Jo<|Jt<|Jr<|ab (cr ei) rfl ?_;refine ao (.of rfl) (.of rfl) eC rfl rfl (ib rfl rfl rfl rfl rfl rfl) (bE rfl) ak ?_;refine Jn<|Je ?_)
 first | with_reducible apply aO | with_reducible apply aP
 case he=>exact ke rfl inferInstance rfl .here ak (by rfl)
 case hR=>
  intro w' az
  exact aB (.slice g1 r.sr.length qV,.slice g2 r.de.length vX,.slice g3 r.ti.length FG,.slice g4 r.po.length S5) trivial (by exact .cons ei (.cons cY (.cons bI (.cons (.there .here) .nil)))) az rfl
end Go.Proofs.A1
namespace Go.Proofs.A1
open Go Go.SL
theorem jt {α:Type} {l m:List α} {k:Nat} (hl:k<l.length) (hm:k<m.length) (h:l[k]=m[k]):(l.drop k=m.drop k)↔l.drop (k+1)=m.drop (k+1):=by
 rw [List.drop_eq_getElem_cons hl,List.drop_eq_getElem_cons hm,h]
 exact ⟨fun e=>(List.cons.inj e).2,fun e=>by rw [e]⟩
theorem yB {v1 v2:Value} {l m:List ByteArray} {w:World} (h1:Rd w v1 1 (fg l)) (h2:Rd w v2 1 (fg m)) :
  aj Tryz.prog 58 [v1,v2] w (.bool (decide (l=m))):=by
 obtain ⟨a1,Tj,b1,o1,rfl,pg,iE,lo,jY⟩:=h1
 obtain ⟨a2,nn,b2,o2,rfl,jX,eW,je,jH⟩:=h2
 rw [bV] at *
 rw [bV] at *
 unfold maxLen at iE eW
 refine ah Tryz.func58 rfl rfl ?_
 (refine Jr<|Ja rfl<|Jn<|Jq<|Jr<|Jv rfl<|JI rfl<|Jv rfl<|JI rfl<|JD rfl<|Jn<|fY rfl (fun aq=>?_) fun aq=>?_;refine Jr<|Ja rfl<|Jn<|Ju<|JT ?_;rotate_left;refine Jk<|Jq<|Jr<|Ja rfl<|Jn<|J0 ?_;rotate_right)
 ·rw [decide_eq_false fun e=>aq (by rw [e])]
 have Sq:l.length=m.length:=by omega
 refine aX (ι:=Nat) (fun k=>k≤l.length∧(l=m↔l.drop k=m.drop k)) (fun k=>[(5,.int .i64 (k:Int)),(0,.slice a1 l.length Tj),(1,.slice a2 m.length nn)]) (fun _=>[]) (fun k=>l.length-k) ?_ ?_
 ·apply aK (0:Nat) ⟨Nat.zero_le _,Iff.rfl⟩
  case hs1=>exact cn
  case ht=>(try simp only [List.take_zero,List.map_nil,List.nil_append]);exact .nil
 rintro k ⟨hk,hf⟩
 by_cases aN:k<l.length
 ·have fA:k<m.length:=by omega
  have FD:=lo (mw aN)
  have sS:=je (mw fA)
  have kF:=(jY k _ (jz aN)).2
  have eL:=(jH k _ (jz fA)).2
  have hd:=jt (l:=l) (m:=m) aN fA
  have fy:l[k]≠m[k]→l.drop k≠m.drop k:=fun hne e=>hne (by
   rw [List.drop_eq_getElem_cons aN,List.drop_eq_getElem_cons fA] at e
   exact (List.cons.inj e).1)
  generalize l[k]=x at kF hd fy
  generalize m[k]=y at eL hd fy
  have c1:w.cell? ⟨b1,o1+k*1,none⟩=some (.string x):=kF 0 _ rfl
  have c2:w.cell? ⟨b2,o2+k*1,none⟩=some (.string y):=eL 0 _ rfl
  refine Jq<|Jr<|Jv rfl<|Jv rfl<|JI rfl<|JA rfl<|Jn<|Jd rfl fun aq=>Jk<|Jq<|J0<|Jq ?_
  with_reducible refine dN 9 (by kernel_rfl) ?_
  (refine kZ rfl rfl ?_;refine kZ rfl rfl ?_;refine aH (fM FD aq) rfl ?_;refine aH (ai (.of rfl) (At.base c1 rfl)) rfl ?_;refine kZ rfl rfl ?_;refine kZ rfl rfl ?_;refine aH (aC (.of rfl) (.of rfl) sS (by omega) (by omega) bo) rfl ?_;refine aH (ai (.of rfl) (At.base c2 rfl)) rfl ?_;refine aH (iI (.of rfl) (.of rfl)) rfl ?_)
  with_reducible refine dW ?_
  (refine Jn<|fY rfl (fun aq=>?_) fun aq=>?_;refine Jr<|Ja rfl<|Jn<|Je<|Jm<|Jh<|Jh<|Jm<|Jh<|JT ?_;rotate_left;refine Jw<|Jj<|Jt<|Jg<|Jv rfl<|JB rfl (by omega)<|Ja rfl<|Jn ?_;rotate_right)
  ·have hne:x≠y:=aq
   rw [decide_eq_false fun e=>fy hne (hf.1 e)]
  ·have he:x=y:=Decidable.not_not.1 aq
   clear aq
   apply aL (k+1) ⟨(show k+1≤l.length from aN),hf.trans (hd he)⟩ (show l.length-(k+1)<l.length-k by omega)
   case hs1=>exact cn
   case ht=>(try simp only [List.take_zero,List.map_nil,List.nil_append]);exact .nil
 ·obtain rfl:k=l.length:=by omega
  have:l=m:=hf.2 (by rw [List.drop_length,Sq,List.drop_length])
  refine Jq<|Jr<|Jv rfl<|Jv rfl<|JI rfl<|JA rfl<|Jn<|Jc rfl fun aq=>Jp<|Jl<|Jo<|Jt<|Jr<|Ja rfl<|Jn<|Je<|JT ?_
  rw [decide_eq_true this]
theorem K3 {v1 v2:Value} {l m:List Int} {w:World} (h1:Rd w v1 1 (ints l)) (h2:Rd w v2 1 (ints m)) :
  aj Tryz.prog 109 [v1,v2] w (.bool (decide (l=m))):=by
 obtain ⟨a1,Tj,b1,o1,rfl,pg,iE,lo,jY⟩:=h1
 obtain ⟨a2,nn,b2,o2,rfl,jX,eW,je,jH⟩:=h2
 rw [cZ] at *
 rw [cZ] at *
 unfold maxLen at iE eW
 refine ah Tryz.func109 rfl rfl ?_
 (refine Jr<|Ja rfl<|Jn<|Jq<|Jr<|Jv rfl<|JI rfl<|Jv rfl<|JI rfl<|JD rfl<|Jn<|fY rfl (fun aq=>?_) fun aq=>?_;refine Jr<|Ja rfl<|Jn<|Ju<|JT ?_;rotate_left;refine Jk<|Jq<|Jr<|Ja rfl<|Jn<|J0 ?_;rotate_right)
 ·rw [decide_eq_false fun e=>aq (by rw [e])]
 have Sq:l.length=m.length:=by omega
 refine aX (ι:=Nat) (fun k=>k≤l.length∧(l=m↔l.drop k=m.drop k)) (fun k=>[(5,.int .i64 (k:Int)),(0,.slice a1 l.length Tj),(1,.slice a2 m.length nn)]) (fun _=>[]) (fun k=>l.length-k) ?_ ?_
 ·apply aK (0:Nat) ⟨Nat.zero_le _,Iff.rfl⟩
  case hs1=>exact cn
  case ht=>(try simp only [List.take_zero,List.map_nil,List.nil_append]);exact .nil
 rintro k ⟨hk,hf⟩
 by_cases aN:k<l.length
 ·have fA:k<m.length:=by omega
  have FD:=lo (jc aN)
  have sS:=je (jc fA)
  have kF:=(jY k _ (gM aN)).2
  have eL:=(jH k _ (gM fA)).2
  have hd:=jt (l:=l) (m:=m) aN fA
  have fy:l[k]≠m[k]→l.drop k≠m.drop k:=fun hne e=>hne (by
   rw [List.drop_eq_getElem_cons aN,List.drop_eq_getElem_cons fA] at e
   exact (List.cons.inj e).1)
  generalize l[k]=x at kF hd fy
  generalize m[k]=y at eL hd fy
  have c1:w.cell? ⟨b1,o1+k*1,none⟩=some (.int .i64 x):=kF 0 _ rfl
  have c2:w.cell? ⟨b2,o2+k*1,none⟩=some (.int .i64 y):=eL 0 _ rfl
  refine Jq<|Jr<|Jv rfl<|Jv rfl<|JI rfl<|JA rfl<|Jn<|Jd rfl fun aq=>Jk<|Jq<|J0<|Jq ?_
  with_reducible refine dN 9 (by kernel_rfl) ?_
  (refine kZ rfl rfl ?_;refine kZ rfl rfl ?_;refine aH (fM FD aq) rfl ?_;refine aH (ai (.of rfl) (At.base c1 rfl)) rfl ?_;refine kZ rfl rfl ?_;refine kZ rfl rfl ?_;refine aH (aC (.of rfl) (.of rfl) sS (by omega) (by omega) bo) rfl ?_;refine aH (ai (.of rfl) (At.base c2 rfl)) rfl ?_;refine aH (jr (.of rfl) (.of rfl)) rfl ?_)
  with_reducible refine dW ?_
  (refine Jn<|fY rfl (fun aq=>?_) fun aq=>?_;refine Jr<|Ja rfl<|Jn<|Je<|Jm<|Jh<|Jh<|Jm<|Jh<|JT ?_;rotate_left;refine Jw<|Jj<|Jt<|Jg<|Jv rfl<|JB rfl (by omega)<|Ja rfl<|Jn ?_;rotate_right)
  ·have hne:x≠y:=aq
   rw [decide_eq_false fun e=>fy hne (hf.1 e)]
  ·have he:x=y:=Decidable.not_not.1 aq
   clear aq
   apply aL (k+1) ⟨(show k+1≤l.length from aN),hf.trans (hd he)⟩ (show l.length-(k+1)<l.length-k by omega)
   case hs1=>exact cn
   case ht=>(try simp only [List.take_zero,List.map_nil,List.nil_append]);exact .nil
 ·obtain rfl:k=l.length:=by omega
  have:l=m:=hf.2 (by rw [List.drop_length,Sq,List.drop_length])
  refine Jq<|Jr<|Jv rfl<|Jv rfl<|JI rfl<|JA rfl<|Jn<|Jc rfl fun aq=>Jp<|Jl<|Jo<|Jt<|Jr<|Ja rfl<|Jn<|Je<|JT ?_
  rw [decide_eq_true this]
theorem Kw {lv:Value} {l:List ByteArray} {w:World} (h:Rd w lv 1 (fg l)) (hl:l.length≤1000000) :
  bd Tryz.prog 72 [lv] w [] (fun _:Value=>True) id (fun v=>[row 9 1 v l.length (aM l)]):=by
 refine aR Tryz.func72 rfl rfl ?_
 (refine Jr<|Ja rfl<|Ji<|bb (aA .nil rfl rfl rfl rfl) rfl fun _ _=>?_;refine Jv rfl ?_)
 rename_i bq mT
 refine bQ (g:=bq) (E:=9) (ys:=[]) 0 1 (by exact .here) rfl rfl rfl ?_
 skip
 with_reducible apply gF
 case hx=>exact Is.of rfl
 case hy=>exact Is.of rfl
 case ht=>exact .here
 case hsrc=>exact fun w' az=>h.keeps az.keeps
 case h1=>exact yw l
 case hz=>exact rfl
 case hsz=>exact rfl
 case hb0=>exact rfl
 case hb=>rw [bV];omega
 case hd=>rfl
 intro v'
 rw [bV,Nat.zero_add,List.nil_append,← qm]
 refine Ja rfl<|Jn<|Je ?_
 first | with_reducible apply aO | with_reducible apply aP
 case he=>exact dj rfl rfl
 case hR=>
  intro w' az
  exact aB v' trivial (by exact .cons .here .nil) az rfl
end Go.Proofs.A1
namespace Go.Proofs.A1
open Go Go.SL
theorem Rf {r q:Ro}:r=q↔(((((r.lv=q.lv∧r.ma=q.ma)∧r.sr=q.sr)∧r.de=q.de)∧r.ti=q.ti)∧r.po=q.po):=by
 cases r;cases q;simp [and_assoc]
theorem Qu {r q:Ro} {s d t p s' d' t' p':Value} {w:World} (h:RR w r s d t p) (h':RR w q s' d' t' p'):aj Tryz.prog 84 [RA r s d t p,RA q s' d' t' p'] w (.bool (decide (r=q))):=by
 have h1:=Rd.one h.sr
 have h2:=Rd.one h.de
 have h3:=Rd.one h.ti
 have h4:=Rd.one h.po
 have g1:=Rd.one h'.sr
 have g2:=Rd.one h'.de
 have g3:=Rd.one h'.ti
 have g4:=Rd.one h'.po
 have Fs:=h.sr
 have FA:=h.de
 have Bh:=h.ti
 have HX:=h.po
 have gs_:=h'.sr
 have gd_:=h'.de
 have gt_:=h'.ti
 have gp_:=h'.po
 obtain ⟨a1,eh,NW,M6,rfl,pg,iE,lo,jY⟩:=Fs
 obtain ⟨x1,Ks,xs1,xo1,rfl,XG,S4,ga1,qV⟩:=gs_
 obtain ⟨a2,dx,NV,M5,rfl,jX,eW,je,jH⟩:=FA
 obtain ⟨x2,Kr,xs2,xo2,rfl,XF,S3,ga2,vX⟩:=gd_
 obtain ⟨a3,dV,IX,Hg,rfl,mS,fX,sR,pL⟩:=Bh
 obtain ⟨x3,Kq,xs3,xo3,rfl,XE,S2,ga3,FG⟩:=gt_
 obtain ⟨a4,fP,Ts,OQ,rfl,xF,l5,F2,zo⟩:=HX
 obtain ⟨x4,Kp,xs4,xo4,rfl,XD,S1,ga4,S5⟩:=gp_
 rw [cC] at *
 rw [cC] at *
 rw [bX] at *
 rw [bX] at *
 rw [bN] at *
 rw [bN] at *
 rw [cU] at *
 rw [cU] at *
 unfold maxLen at iE eW fX l5 S4 S3 S2 S1
 unfold RA
 refine ah Tryz.func84 rfl rfl ?_
 (refine Jr<|Jy rfl rfl fun _ _=>Jy rfl rfl fun _ _=>Ja rfl<|Jn<|Jq<|Jr<|bF rfl rfl ae ?_;refine JL rfl (.there .here) rfl<|bF rfl rfl ae ?_;refine JL rfl .here rfl<|JD rfl<|Jv rfl<|aI rfl rfl inferInstance (fun hg bL=>(ar (.of rfl) ae)) rfl ?_;refine aI rfl rfl inferInstance (fun hg bL=>(ai (.cA hg rfl) (At.lit (.there .here) rfl))) rfl ?_;refine aI rfl rfl inferInstance (fun hg bL=>(ar (.of rfl) ae)) rfl ?_;refine aI rfl rfl inferInstance (fun hg bL=>(ai (.cA hg rfl) (At.lit .here rfl))) rfl ?_;refine aI rfl rfl inferInstance (fun hg bL=>(jr (.cA hg rfl) (.cA hg rfl))) rfl ?_;refine ab (bW (.of rfl) rfl) rfl ?_;refine Jv rfl<|aI rfl rfl inferInstance (fun hg bL=>(ar (.of rfl) ae)) rfl ?_;refine aI rfl rfl inferInstance (fun hg bL=>(ai (.cA hg rfl) (At.lit (.there .here) rfl))) rfl ?_;refine aI rfl rfl inferInstance (fun hg bL=>(ct (.cA hg rfl))) rfl ?_;refine aI rfl rfl inferInstance (fun hg bL=>(ar (.of rfl) ae)) rfl ?_;refine aI rfl rfl inferInstance (fun hg bL=>(ai (.cA hg rfl) (At.lit .here rfl))) rfl ?_;refine aI rfl rfl inferInstance (fun hg bL=>(ct (.cA hg rfl))) rfl ?_;refine aI rfl rfl inferInstance (fun hg bL=>(jr (.cA hg rfl) (.cA hg rfl))) rfl ?_;refine ab (bW (.of rfl) rfl) rfl ?_;refine Jv rfl<|aI rfl rfl inferInstance (fun hg bL=>(ar (.of rfl) ae)) rfl ?_;refine aI rfl rfl inferInstance (fun hg bL=>(ai (.cA hg rfl) (At.lit (.there .here) rfl))) rfl ?_;refine aI rfl rfl inferInstance (fun hg bL=>(ct (.cA hg rfl))) rfl ?_;refine aI rfl rfl inferInstance (fun hg bL=>(ar (.of rfl) ae)) rfl ?_;refine aI rfl rfl inferInstance (fun hg bL=>(ai (.cA hg rfl) (At.lit .here rfl))) rfl ?_;refine aI rfl rfl inferInstance (fun hg bL=>(ct (.cA hg rfl))) rfl ?_;refine aI rfl rfl inferInstance (fun hg bL=>(jr (.cA hg rfl) (.cA hg rfl))) rfl ?_;refine ab (bW (.of rfl) rfl) rfl ?_;refine Jv rfl<|aI rfl rfl inferInstance (fun hg bL=>(ar (.of rfl) ae)) rfl ?_;refine aI rfl rfl inferInstance (fun hg bL=>(ai (.cA hg rfl) (At.lit (.there .here) rfl))) rfl ?_;refine aI rfl rfl inferInstance (fun hg bL=>(ct (.cA hg rfl))) rfl ?_;refine aI rfl rfl inferInstance (fun hg bL=>(ar (.of rfl) ae)) rfl ?_;refine aI rfl rfl inferInstance (fun hg bL=>(ai (.cA hg rfl) (At.lit .here rfl))) rfl ?_;refine aI rfl rfl inferInstance (fun hg bL=>(ct (.cA hg rfl))) rfl ?_;refine aI rfl rfl inferInstance (fun hg bL=>(jr (.cA hg rfl) (.cA hg rfl))) rfl ?_;refine ab (bW (.of rfl) rfl) rfl ?_;refine Jv rfl<|aI rfl rfl inferInstance (fun hg bL=>(ar (.of rfl) ae)) rfl ?_;refine aI rfl rfl inferInstance (fun hg bL=>(ai (.cA hg rfl) (At.lit (.there .here) rfl))) rfl ?_;refine aI rfl rfl inferInstance (fun hg bL=>(ct (.cA hg rfl))) rfl ?_;refine aI rfl rfl inferInstance (fun hg bL=>(ar (.of rfl) ae)) rfl ?_;refine aI rfl rfl inferInstance (fun hg bL=>(ai (.cA hg rfl) (At.lit .here rfl))) rfl ?_;refine aI rfl rfl inferInstance (fun hg bL=>(ct (.cA hg rfl))) rfl ?_;refine aI rfl rfl inferInstance (fun hg bL=>(jr (.cA hg rfl) (.cA hg rfl))) rfl ?_;refine ab (bW (.of rfl) rfl) rfl ?_;refine Jn<|pV rfl (fun aq=>?_) fun aq=>?_;refine Jr<|Ja rfl<|Jn<|Ju<|JT ?_;rotate_left;refine Jk<|Jq<|Jr<|Ja rfl<|Jn<|J0 ?_;rotate_right)
 ·rw [decide_eq_false fun e=>by subst e;simp at aq]
 simp only [not_or,ne_eq,Decidable.not_not] at aq
 obtain ⟨⟨⟨⟨⟨e1,e2⟩,e3⟩,e4⟩,e5⟩,e6⟩:=aq
 rename_i b1 sy b2 sQ
 refine aX (ι:=Nat) (fun k=>k≤r.sr.length∧(r.sr=q.sr↔r.sr.drop k=q.sr.drop k)) (fun k=>[(5,.int .i64 (k:Nat)),(3,.pointer (some ⟨b2,0,none⟩)),(2,.pointer (some ⟨b1,0,none⟩))]) (fun _=>[bD b2 (.cells #[.int .i64 q.lv,.int .i64 q.ma,.slice x1 q.sr.length Ks,.slice x2 q.de.length Kr,.slice x3 q.ti.length Kq,.slice x4 q.po.length Kp] 27 (0,0)),JQ b1 r (.slice a1 r.sr.length eh) (.slice a2 r.de.length dx) (.slice a3 r.ti.length dV) (.slice a4 r.po.length fP)]) (fun k=>r.sr.length-k) ?_ ?_
 ·apply aK (0:Nat) ⟨Nat.zero_le _,Iff.rfl⟩
  case hs1=>exact cn
  case ht=>
   exact .cons .here (.cons .here .nil)
 rintro k ⟨hk,hf⟩
 have el:r.sr.length=q.sr.length:=by omega
 by_cases aN:k<r.sr.length
 ·have fA:k<q.sr.length:=by omega
  have cM:=lo (im aN)
  have P4:=ga1 (im fA)
  have aD:=(jY k _ (fD aN)).2
  have kG:=(qV k _ (fD fA)).2
  have hd:=jt (l:=r.sr) (m:=q.sr) aN fA
  have fy:r.sr[k]≠q.sr[k]→r.sr.drop k≠q.sr.drop k:=fun hne e=>hne (by
   rw [List.drop_eq_getElem_cons aN,List.drop_eq_getElem_cons fA] at e
   exact (List.cons.inj e).1)
  generalize r.sr[k]=x at aD hd fy
  generalize q.sr[k]=y at kG hd fy
  unfold Sr.cells at aD kG
  (refine Jq<|Jr<|Jv rfl<|bF rfl rfl ae ?_;refine JL rfl (.there .here) rfl<|JI rfl<|JA rfl<|Jn<|Jd rfl fun aq=>Jk<|Jq<|J0<|Jq ?_)
  with_reducible refine dN 10 (by kernel_rfl) ?_
  (refine np rfl rfl ae ?_;refine aH (gp (.there .here)) rfl ?_;refine kZ rfl rfl ?_;refine aH (fM cM aq) rfl ?_;refine aH (iz (eG.base aD rfl)) rfl ?_;refine np rfl rfl ae ?_;refine aH (gp .here) rfl ?_;refine kZ rfl rfl ?_;refine aH (aC (.of rfl) (.of rfl) P4 (by omega) (by omega) bo) rfl ?_;refine aH (iz (eG.base kG rfl)) rfl ?_)
  with_reducible refine dW ?_
  (refine ab (tj (.of rfl) (.of rfl) (eU (jA lj)) rfl) rfl ?_;refine Jn<|pV rfl (fun aq=>?_) fun aq=>?_;refine Jr<|Ja rfl<|Jn<|Je<|Jm<|Jh<|Jh<|Jm<|Jh<|JT ?_;rotate_left;refine Jw<|Jj<|Jt<|Jg<|Jv rfl<|JB rfl (by omega)<|Ja rfl<|Jn ?_;rotate_right)
  ·have hne:x≠y:=by
    intro e
    subst e
    simp at aq
   rw [decide_eq_false fun e=>fy hne (hf.1 (by rw [e]))]
  ·have he:x=y:=by
    obtain ⟨q1,q2,_⟩:=aq
    cases x;cases y
    dsimp only at q1 q2
    subst q1;subst q2
    rfl
   clear aq
   apply aL (k+1) ⟨(show k+1≤r.sr.length from aN),hf.trans (hd he)⟩ (show r.sr.length-(k+1)<r.sr.length-k by omega)
   case hs1=>exact cn
   case ht=>
    exact .cons .here (.cons .here .nil)
 have z1:r.sr=q.sr:=by
  obtain rfl:k=r.sr.length:=by omega
  exact hf.2 (by rw [List.drop_length,el,List.drop_length])
 obtain rfl:k=r.sr.length:=by omega
 clear hk hf aN
 (refine Jq<|Jr<|Jv rfl<|bF rfl rfl ae ?_;refine JL rfl (.there .here) rfl<|JI rfl<|JA rfl<|Jn<|Jc rfl fun aq=>Jp<|Jl<|Jo<|Jt<|Jq<|Jr<|Ja rfl<|Jn<|J0 ?_)
 refine aX (ι:=Nat) (fun k=>k≤r.de.length∧(r.de=q.de↔r.de.drop k=q.de.drop k)) (fun k=>[(6,.int .i64 (k:Nat)),(3,.pointer (some ⟨b2,0,none⟩)),(2,.pointer (some ⟨b1,0,none⟩))]) (fun _=>[bD b2 (.cells #[.int .i64 q.lv,.int .i64 q.ma,.slice x1 q.sr.length Ks,.slice x2 q.de.length Kr,.slice x3 q.ti.length Kq,.slice x4 q.po.length Kp] 27 (0,0)),JQ b1 r (.slice a1 r.sr.length eh) (.slice a2 r.de.length dx) (.slice a3 r.ti.length dV) (.slice a4 r.po.length fP)]) (fun k=>r.de.length-k) ?_ ?_
 ·apply aK (0:Nat) ⟨Nat.zero_le _,Iff.rfl⟩
  case hs1=>exact cn
  case ht=>
   exact .cons .here (.cons .here .nil)
 rintro k ⟨hk,hf⟩
 have el:r.de.length=q.de.length:=by omega
 by_cases aN:k<r.de.length
 ·have fA:k<q.de.length:=by omega
  have cM:=je (gm aN)
  have P4:=ga2 (gm fA)
  have aD:=(jH k _ (fa aN)).2
  have kG:=(vX k _ (fa fA)).2
  have hd:=jt (l:=r.de) (m:=q.de) aN fA
  have fy:r.de[k]≠q.de[k]→r.de.drop k≠q.de.drop k:=fun hne e=>hne (by
   rw [List.drop_eq_getElem_cons aN,List.drop_eq_getElem_cons fA] at e
   exact (List.cons.inj e).1)
  generalize r.de[k]=x at aD hd fy
  generalize q.de[k]=y at kG hd fy
  unfold De.cells at aD kG
  (refine Jq<|Jr<|Jv rfl<|bF rfl rfl ae ?_;refine JL rfl (.there .here) rfl<|JI rfl<|JA rfl<|Jn<|Jd rfl fun aq=>Jk<|Jq<|J0<|Jq ?_)
  with_reducible refine dN 10 (by kernel_rfl) ?_
  (refine np rfl rfl ae ?_;refine aH (gp (.there .here)) rfl ?_;refine kZ rfl rfl ?_;refine aH (fM cM aq) rfl ?_;refine aH (iz (eG.base aD rfl)) rfl ?_;refine np rfl rfl ae ?_;refine aH (gp .here) rfl ?_;refine kZ rfl rfl ?_;refine aH (aC (.of rfl) (.of rfl) P4 (by omega) (by omega) bo) rfl ?_;refine aH (iz (eG.base kG rfl)) rfl ?_)
  with_reducible refine dW ?_
  (refine ab (tj (.of rfl) (.of rfl) (eU (jA (Hn lj))) rfl) rfl ?_;refine Jn<|pV rfl (fun aq=>?_) fun aq=>?_;refine Jr<|Ja rfl<|Jn<|Je<|Jm<|Jh<|Jh<|Jm<|Jh<|JT ?_;rotate_left;refine Jw<|Jj<|Jt<|Jg<|Jv rfl<|JB rfl (by omega)<|Ja rfl<|Jn ?_;rotate_right)
  ·have hne:x≠y:=by
    intro e
    subst e
    simp at aq
   rw [decide_eq_false fun e=>fy hne (hf.1 (by rw [e]))]
  ·have he:x=y:=by
    obtain ⟨q1,q2,q3,_⟩:=aq
    cases x;cases y
    dsimp only at q1 q2 q3
    have q3:=eq_of_beq q3;subst q1;subst q2;subst q3
    rfl
   clear aq
   apply aL (k+1) ⟨(show k+1≤r.de.length from aN),hf.trans (hd he)⟩ (show r.de.length-(k+1)<r.de.length-k by omega)
   case hs1=>exact cn
   case ht=>
    exact .cons .here (.cons .here .nil)
 have z2:r.de=q.de:=by
  obtain rfl:k=r.de.length:=by omega
  exact hf.2 (by rw [List.drop_length,el,List.drop_length])
 obtain rfl:k=r.de.length:=by omega
 clear hk hf aN
 (refine Jq<|Jr<|Jv rfl<|bF rfl rfl ae ?_;refine JL rfl (.there .here) rfl<|JI rfl<|JA rfl<|Jn<|Jc rfl fun aq=>Jp<|Jl<|Jo<|Jt<|Jq<|Jr<|Ja rfl<|Jn<|J0 ?_)
 refine aX (ι:=Nat) (fun k=>k≤r.ti.length∧(r.ti=q.ti↔r.ti.drop k=q.ti.drop k)) (fun k=>[(7,.int .i64 (k:Nat)),(3,.pointer (some ⟨b2,0,none⟩)),(2,.pointer (some ⟨b1,0,none⟩))]) (fun _=>[bD b2 (.cells #[.int .i64 q.lv,.int .i64 q.ma,.slice x1 q.sr.length Ks,.slice x2 q.de.length Kr,.slice x3 q.ti.length Kq,.slice x4 q.po.length Kp] 27 (0,0)),JQ b1 r (.slice a1 r.sr.length eh) (.slice a2 r.de.length dx) (.slice a3 r.ti.length dV) (.slice a4 r.po.length fP)]) (fun k=>r.ti.length-k) ?_ ?_
 ·apply aK (0:Nat) ⟨Nat.zero_le _,Iff.rfl⟩
  case hs1=>exact cn
  case ht=>
   exact .cons .here (.cons .here .nil)
 rintro k ⟨hk,hf⟩
 have el:r.ti.length=q.ti.length:=by omega
 by_cases aN:k<r.ti.length
 ·have fA:k<q.ti.length:=by omega
  have cM:=sR (eT aN)
  have P4:=ga3 (eT fA)
  have aD:=(pL k _ (ed aN)).2
  have kG:=(FG k _ (ed fA)).2
  have hd:=jt (l:=r.ti) (m:=q.ti) aN fA
  have fy:r.ti[k]≠q.ti[k]→r.ti.drop k≠q.ti.drop k:=fun hne e=>hne (by
   rw [List.drop_eq_getElem_cons aN,List.drop_eq_getElem_cons fA] at e
   exact (List.cons.inj e).1)
  generalize r.ti[k]=x at aD hd fy
  generalize q.ti[k]=y at kG hd fy
  unfold Ti.cells at aD kG
  (refine Jq<|Jr<|Jv rfl<|bF rfl rfl ae ?_;refine JL rfl (.there .here) rfl<|JI rfl<|JA rfl<|Jn<|Jd rfl fun aq=>Jk<|Jq<|J0<|Jq ?_)
  with_reducible refine dN 10 (by kernel_rfl) ?_
  (refine np rfl rfl ae ?_;refine aH (gp (.there .here)) rfl ?_;refine kZ rfl rfl ?_;refine aH (fM cM aq) rfl ?_;refine aH (iz (eG.base aD rfl)) rfl ?_;refine np rfl rfl ae ?_;refine aH (gp .here) rfl ?_;refine kZ rfl rfl ?_;refine aH (aC (.of rfl) (.of rfl) P4 (by omega) (by omega) bo) rfl ?_;refine aH (iz (eG.base kG rfl)) rfl ?_)
  with_reducible refine dW ?_
  (refine ab (tj (.of rfl) (.of rfl) (eU (jA (jA lj))) rfl) rfl ?_;refine Jn<|pV rfl (fun aq=>?_) fun aq=>?_;refine Jr<|Ja rfl<|Jn<|Je<|Jm<|Jh<|Jh<|Jm<|Jh<|JT ?_;rotate_left;refine Jw<|Jj<|Jt<|Jg<|Jv rfl<|JB rfl (by omega)<|Ja rfl<|Jn ?_;rotate_right)
  ·have hne:x≠y:=by
    intro e
    subst e
    simp at aq
   rw [decide_eq_false fun e=>fy hne (hf.1 (by rw [e]))]
  ·have he:x=y:=by
    obtain ⟨q1,q2,q3,_⟩:=aq
    cases x;cases y
    dsimp only at q1 q2 q3
    subst q1;subst q2;subst q3
    rfl
   clear aq
   apply aL (k+1) ⟨(show k+1≤r.ti.length from aN),hf.trans (hd he)⟩ (show r.ti.length-(k+1)<r.ti.length-k by omega)
   case hs1=>exact cn
   case ht=>
    exact .cons .here (.cons .here .nil)
 have z3:r.ti=q.ti:=by
  obtain rfl:k=r.ti.length:=by omega
  exact hf.2 (by rw [List.drop_length,el,List.drop_length])
 obtain rfl:k=r.ti.length:=by omega
 clear hk hf aN
 (refine Jq<|Jr<|Jv rfl<|bF rfl rfl ae ?_;refine JL rfl (.there .here) rfl<|JI rfl<|JA rfl<|Jn<|Jc rfl fun aq=>Jp<|Jl<|Jo<|Jt<|Jq<|Jr<|Ja rfl<|Jn<|J0 ?_)
 refine aX (ι:=Nat) (fun k=>k≤r.po.length∧(r.po=q.po↔r.po.drop k=q.po.drop k)) (fun k=>[(8,.int .i64 (k:Nat)),(3,.pointer (some ⟨b2,0,none⟩)),(2,.pointer (some ⟨b1,0,none⟩))]) (fun _=>[bD b2 (.cells #[.int .i64 q.lv,.int .i64 q.ma,.slice x1 q.sr.length Ks,.slice x2 q.de.length Kr,.slice x3 q.ti.length Kq,.slice x4 q.po.length Kp] 27 (0,0)),JQ b1 r (.slice a1 r.sr.length eh) (.slice a2 r.de.length dx) (.slice a3 r.ti.length dV) (.slice a4 r.po.length fP)]) (fun k=>r.po.length-k) ?_ ?_
 ·apply aK (0:Nat) ⟨Nat.zero_le _,Iff.rfl⟩
  case hs1=>exact cn
  case ht=>
   exact .cons .here (.cons .here .nil)
 rintro k ⟨hk,hf⟩
 have el:r.po.length=q.po.length:=by omega
 by_cases aN:k<r.po.length
 ·have fA:k<q.po.length:=by omega
  have cM:=F2 (jO aN)
  have P4:=ga4 (jO fA)
  have aD:=(zo k _ (gY aN)).2
  have kG:=(S5 k _ (gY fA)).2
  have hd:=jt (l:=r.po) (m:=q.po) aN fA
  have fy:r.po[k]≠q.po[k]→r.po.drop k≠q.po.drop k:=fun hne e=>hne (by
   rw [List.drop_eq_getElem_cons aN,List.drop_eq_getElem_cons fA] at e
   exact (List.cons.inj e).1)
  generalize r.po[k]=x at aD hd fy
  generalize q.po[k]=y at kG hd fy
  unfold Po.cells at aD kG
  (refine Jq<|Jr<|Jv rfl<|bF rfl rfl ae ?_;refine JL rfl (.there .here) rfl<|JI rfl<|JA rfl<|Jn<|Jd rfl fun aq=>Jk<|Jq<|J0<|Jq ?_)
  with_reducible refine dN 10 (by kernel_rfl) ?_
  (refine np rfl rfl ae ?_;refine aH (gp (.there .here)) rfl ?_;refine kZ rfl rfl ?_;refine aH (fM cM aq) rfl ?_;refine aH (iz (eG.base aD rfl)) rfl ?_;refine np rfl rfl ae ?_;refine aH (gp .here) rfl ?_;refine kZ rfl rfl ?_;refine aH (aC (.of rfl) (.of rfl) P4 (by omega) (by omega) bo) rfl ?_;refine aH (iz (eG.base kG rfl)) rfl ?_)
  with_reducible refine dW ?_
  (refine ab (tj (.of rfl) (.of rfl) (jA (eU (eU lj))) rfl) rfl ?_;refine Jn<|pV rfl (fun aq=>?_) fun aq=>?_;refine Jr<|Ja rfl<|Jn<|Je<|Jm<|Jh<|Jh<|Jm<|Jh<|JT ?_;rotate_left;refine Jw<|Jj<|Jt<|Jg<|Jv rfl<|JB rfl (by omega)<|Ja rfl<|Jn ?_;rotate_right)
  ·have hne:x≠y:=by
    intro e
    subst e
    simp at aq
   rw [decide_eq_false fun e=>fy hne (hf.1 (by rw [e]))]
  ·have he:x=y:=by
    obtain ⟨q1,q2,q3,_⟩:=aq
    cases x;cases y
    dsimp only at q1 q2 q3
    subst q1;subst q2;subst q3
    rfl
   clear aq
   apply aL (k+1) ⟨(show k+1≤r.po.length from aN),hf.trans (hd he)⟩ (show r.po.length-(k+1)<r.po.length-k by omega)
   case hs1=>exact cn
   case ht=>
    exact .cons .here (.cons .here .nil)
 have z4:r.po=q.po:=by
  obtain rfl:k=r.po.length:=by omega
  exact hf.2 (by rw [List.drop_length,el,List.drop_length])
 obtain rfl:k=r.po.length:=by omega
 clear hk hf aN
 (refine Jq<|Jr<|Jv rfl<|bF rfl rfl ae ?_;refine JL rfl (.there .here) rfl<|JI rfl<|JA rfl<|Jn<|Jc rfl fun aq=>Jp<|Jl<|Jo<|Jt<|Jr<|Ja rfl<|Jn<|Je<|JT ?_)
 rw [decide_eq_true (Rf.2 ⟨⟨⟨⟨⟨e1,e2⟩,z1⟩,z2⟩,z3⟩,z4⟩)]
end Go.Proofs.A1
namespace Go.Proofs.A1
open Go Go.SL
theorem bd.GG {P:Program} {f:FuncId} {args:List Value} {w:World} {md:List Nat} {E:TypeId} {sz n:Nat} {xs:List Value} {val:Value→Value} (h:bd P f args w md (fun _:Value=>True) val (fun v=>[row E sz v n xs])) :
  bd P f args w md (fun _:Option Addr×Nat=>True) (fun x=>val (.slice x.1 n x.2)) (fun x=>[row E sz (.slice x.1 n x.2) n xs]):=
 Calls.mono h fun e w' ⟨v,he,_,hk,fp,hn,hs,hf⟩=>by
  have hv:∃ x:Option Addr×Nat,v=.slice x.1 n x.2:=by
   obtain ⟨f1,f2,_,⟨_,_,⟨e1,e2⟩ | ⟨g,cap,cur,e1,_⟩⟩,_⟩:=hs
   ·exact ⟨(none,0),by rw [e1,e2]⟩
   ·exact ⟨(_,cap),e1⟩
  obtain ⟨x,rfl⟩:=hv
  exact ⟨x,he,trivial,hk,fp,hn,hs,hf⟩
def S0:Value→Option Addr×Nat
 | .slice a _ c=>(a,c)
 | _=>(none,0)
theorem Io (x:Option Addr×Nat):∃ v,S0 v=x:=⟨.slice x.1 0 x.2,rfl⟩
theorem KM {kv:Value} {l:List fZ} {w:World} (h:Rd w kv 2 (ji l)) (hM:vF w l) (hn:l.length≤1000) (hs:∀ x∈l,x.tk.so.length≤1000) :
  bd Tryz.prog 54 [kv] w [] (fun x:Value×List fZ=>dd x.2=dd l) (fun x=>x.1) (fun x=>[row 69 2 x.1 x.2.length (ji x.2).flatten,KC x.2]):=by
 obtain ⟨a,cp,b,o,rfl,df,bO,ha,hc⟩:=h
 rw [eH] at *
 unfold maxLen at bO
 refine aR Tryz.func54 rfl rfl ?_
 refine Jr<|Ja rfl<|Ji<|Ja rfl<|Jn<|Jq<|Jr<|Jv rfl<|JI rfl<|Jv rfl<|Jn<|J0 ?_
 refine aQ 69 2 ?_
 refine kz 9 ?_
 refine aX (ι:=Nat×Value×List fZ) (fun x=>x.1≤l.length∧dd x.2.2=dd (l.take x.1)) (fun x=>[(8,.int .i64 (x.1:Nat)),(7,.int .i64 (l.length:Nat)),(6,.slice a l.length cp),(3,x.2.1)])
  (fun x=>[row 69 2 x.2.1 x.2.2.length (ji x.2.2).flatten,mz 9 (x.2.2.map fZ.v) (x.2.2.map fun y=>aM y.tk.so)]) (fun x=>l.length-x.1) ?_ ?_
 ·apply aK (0,.slice none 0 0,[]) ⟨Nat.zero_le _,rfl⟩
  case hs1=>exact cn
  case ht=>
   exact .cons (.there .here) (.cons .here .nil)
 rintro ⟨k,v,W⟩ ⟨hk,hW⟩
 dsimp only at hk hW ⊢
 have QP:W.length=k:=by
  have:=congrArg List.length hW
  unfold dd at this
  rw [List.length_map,List.length_map,List.length_take] at this
  omega
 by_cases aN:k<l.length
 ·have cM:=ha (mr aN)
  have aD:=(hc k _ (j4 aN)).2
  have hx:=hM _ (List.getElem_mem aN)
  have WT:=hs _ (List.getElem_mem aN)
  have htk:dd (l.take (k+1))=dd (l.take k)++[l[k].tk]:=by
   unfold dd
   rw [List.take_succ_eq_append_getElem aN,List.map_append];rfl
  have sx:(ji W).flatten.length=W.length*2:=by rw [fK (Ck W),eH]
  have iD:=Rd.one hx
  unfold fZ.cells at aD
  generalize l[k]=x at aD hx WT htk iD
  obtain ⟨⟨xd,xs⟩,xv⟩:=x
  dsimp only at aD hx WT htk iD
  have hwc:∀ w',aF [] w w'→bd Tryz.prog 72 [xv] w' [] (fun _:Option Addr×Nat=>True) (fun z=>.slice z.1 xs.length z.2) (fun z=>[row 9 1 (.slice z.1 xs.length z.2) xs.length (aM xs)]):=fun w' hk=>bd.GG (val:=id) (Kw (hx.keeps hk) (by omega))
  refine aW (E:=69) (sz:=2) (v:=v) (by exact .here) fun va vc e=>?_
  subst e
  (refine Jr<|JA rfl<|Jn<|Jq<|Jd rfl fun aq=>Jk<|Jq<|J0<|Jr<|ab (fM cM aq) rfl ?_;refine ab (iz (eG.base aD rfl)) rfl ?_;refine Jz rfl rfl fun _ _=>ao (.of rfl) (.of rfl) .here rfl rfl (gn rfl iD) (bE rfl) ak ?_;refine Jn ?_)
  with_reducible refine dM 8 (by kernel_rfl) ?_
  (refine au (fun β=>(aY (.of rfl))) bB rfl ?_;refine au (fun β=>(ar (.of rfl) ae)) bB rfl ?_;refine au (fun β=>(ai (.of rfl) (At.lit .here rfl))) bB rfl ?_;refine au (fun β=>(ar (.of rfl) ae)) bB rfl ?_;refine au (fun β=>(ai (.of rfl) (At.lit .here rfl))) bB rfl ?_)
  dsimp only [Nat.zero_add,Nat.reduceAdd]
  with_reducible apply fb (ι:=Option Addr×Nat) (Φ:=fun _=>True) (val:=fun z=>.slice z.1 xs.length z.2) (own:=fun z=>[row 9 1 (.slice z.1 xs.length z.2) xs.length (aM xs)]) (g:=S0) (B:=[]) (args:=fun _=>[xv])
  case hg=>exact Io
  case hB=>rfl
  case hr=>exact fun β=>bh (.of rfl) (.cons (.of rfl) .nil) inferInstance rfl
  case hd=>rfl
  case hc=>exact fun β w' hb=>hwc w' hb.mem.keeps
  dsimp only [Nat.reduceAdd]
  with_reducible apply au
  case hr=>(intro β;exact aS (.cons (.of rfl) (.cons (.of rfl) .nil)) ak)
  case hi=>exact fun β β' h=>by simp only [h 5 (by kernel_rfl)]
  case hd=>rfl
  dsimp only [Nat.reduceAdd]
  with_reducible apply kP
  case hr=>(intro β;exact bu (.cons (.of rfl) .nil) rfl rfl bM bM ak)
  case hi=>exact fun β β' h=>by simp only [h 5 (by decide) (by kernel_rfl)]
  case hd=>rfl
  dsimp only [Nat.reduceAdd]
  refine fC fun β=>?_
  dsimp only [eI,List.nil_append,List.cons_append,List.append_eq,Nat.reduceAdd]
  generalize eQ (β 7)=b7
  generalize S0 (β 5)=y
  obtain ⟨ya,yc⟩:=y
  clear β
  dsimp only
  refine cV (rs:=[8]) (by kernel_rfl) (by simp) (List.forall_mem_cons.2 ⟨?_,fun _ h=>absurd h List.not_mem_nil⟩)
  refine c6 rfl ?_
  refine bz (.of rfl) (.of rfl) cY (.there .here) ak (by rfl) (gn rfl rfl) (by rfl) (by rfl) (by rfl) ep (by rfl) ?_
  intro v'
  refine Jn ?_
  refine cV (rs:=[9]) (by kernel_rfl) (by simp) (List.forall_mem_cons.2 ⟨?_,fun _ h=>absurd h List.not_mem_nil⟩)
  refine c6 rfl ?_
  refine Ja rfl<|Jn ?_
  with_reducible refine cW (by kernel_rfl) ?_
  refine Jj<|Jt<|Jg<|JB rfl (by omega)<|Jv rfl<|Jn ?_
  have Vh:(aM xs).length=xs.length:=cS xs
  with_reducible apply mn (E:=9) (vs:=W.map fZ.v) (xs:=W.map fun y=>aM y.tk.so) (v:=.slice ya xs.length yc) (x:=aM xs) (n:=xs.length)
  case ht=>exact ei
  case ht2=>exact Take.there .here
  case hn=>exact Vh.symm
  case hl=>rw [List.length_map,List.length_map]
  case k=>
   apply aL (k+1,v',W++[⟨⟨xd,xs⟩,.slice ya xs.length yc⟩]) ⟨by show k+1≤_;omega,by
    show dd (W++[_])=_
    unfold dd at hW htk ⊢
    rw [List.map_append,hW];exact htk.symm⟩ (by show l.length-(k+1)<l.length-k;omega)
   case hs1=>exact cn
   case ht=>
    dsimp only
    rw [DK,List.length_append,List.map_append,List.map_append]
    simp only [List.map_cons,List.map_nil,List.length_cons,List.length_nil,Nat.zero_add]
    exact .cons (.there .here) (.cons .here .nil)
 ·have e:k=l.length:=by omega
  rw [e,List.take_length] at hW
  refine aW (E:=69) (sz:=2) (v:=v) (by exact .here) fun va vc e=>?_
  subst e
  refine Jr<|JA rfl<|Jn<|Jq<|Jc rfl fun aq=>Jp<|Jl<|Jo<|Jt<|Jr<|Jv rfl<|Ja rfl<|Jn<|Je ?_
  first | with_reducible apply aO | with_reducible apply aP
  case he=>exact dj rfl rfl
  case hR=>
   intro w' az
   exact aB (.slice va W.length vc,W) hW (by exact .cons .here (.cons .here .nil)) az rfl
end Go.Proofs.A1
namespace Go.Proofs.A1
open Go Go.SL
def cL:ByteArray:=⟨#[99,97,109]⟩
def jP:ByteArray:=⟨#[118,116,114]⟩
def mY:ByteArray:=⟨#[109,111,110]⟩
def dC:ByteArray:=⟨#[97,105,114]⟩
def iM:ByteArray:=⟨#[114,101,99]⟩
def nT:ByteArray:=⟨#[116]⟩
def nU:ByteArray:=⟨#[117]⟩
def lD:Ro:=⟨2,2,[⟨cL,0⟩,⟨jP,1⟩],[⟨mY,0,false⟩,⟨dC,1,false⟩,⟨iM,1,false⟩],[⟨nT,0,1⟩,⟨nU,0,1⟩],[]⟩
def ni:Tk:=⟨dC,[cL,cL]⟩
def Qz:Tk:=⟨iM,[cL,⟨#[]⟩]⟩
def nh:Tk:=⟨dC,[jP,jP]⟩
def UF:List Po:=[⟨0,dC,nT⟩,⟨0,nT,cL⟩,⟨1,dC,nT⟩,⟨1,nT,cL⟩]
def UE:List Po:=[⟨0,dC,nT⟩,⟨0,iM,nT⟩,⟨0,nT,cL⟩,⟨1,dC,nT⟩,⟨1,nT,cL⟩]
def UD:List Po:=[⟨0,dC,jP⟩,⟨0,iM,nT⟩,⟨0,nT,cL⟩,⟨1,dC,jP⟩]
def fO:Ro:={ lD with po:=UF }
def gz:Ro:={ lD with po:=UE }
def vu:Ro:={ lD with po:=UD }
def Ct:Ro:=fO.G6 mY true
theorem Te:fN lD=0:=by kernel_rfl
theorem NG:EO lD 0 cL dC=0∧Cd lD 0 cL dC=[nT]:=⟨by kernel_rfl,by kernel_rfl⟩
theorem Tc:iV lD [ni]=(fO,0,0):=by kernel_rfl
theorem Tb:iV fO [Qz]=(gz,0,0):=by kernel_rfl
theorem NM:iV gz [nh]=(vu,0,0):=by kernel_rfl
theorem S9:KA gz [nh]=[ni]:=by kernel_rfl
theorem NF:EO lD 0 jP mY=18∧Cd lD 0 jP mY=[]:=⟨by kernel_rfl,by kernel_rfl⟩
theorem NO:IF lD 0 jP mY=0∧FL lD 0 jP mY=[1]:=⟨by kernel_rfl,by kernel_rfl⟩
theorem Tf:Uk lD 0 jP mY [0]=19:=by kernel_rfl
theorem Td:sP gz iM=0∧kE gz iM=[cL,⟨#[]⟩]:=⟨by kernel_rfl,by kernel_rfl⟩
theorem NI:nq fO 0 dC=0∧kS fO 0 dC=[cL,nT,dC]:=⟨by kernel_rfl,by kernel_rfl⟩
theorem NQ:sX fO 0=0∧lL fO 0=[nT]:=⟨by kernel_rfl,by kernel_rfl⟩
theorem NH:lA gz 0 cL=0∧lR gz 0 cL=[dC,iM]:=⟨by kernel_rfl,by kernel_rfl⟩
theorem NN:w9 fO mY=0∧w8 fO mY true=Ct:=⟨by kernel_rfl,by kernel_rfl⟩
theorem Ta:(iV Ct [⟨iM,[⟨#[45]⟩,⟨#[]⟩]⟩,⟨mY,[cL,cL]⟩]).2=(1,31):=by kernel_rfl
theorem NL:qu lD [⟨10,[ni]⟩,⟨12,[nh]⟩] dC 9=0∧sM lD [⟨10,[ni]⟩,⟨12,[nh]⟩] dC 9=[⟨#[]⟩,⟨#[]⟩]:=⟨by kernel_rfl,by kernel_rfl⟩
theorem NK:qu lD [⟨10,[ni]⟩,⟨12,[nh]⟩] dC 11=0∧sM lD [⟨10,[ni]⟩,⟨12,[nh]⟩] dC 11=[cL,cL]:=⟨by kernel_rfl,by kernel_rfl⟩
theorem NJ:qu lD [⟨10,[ni]⟩,⟨12,[nh]⟩] dC 12=0∧sM lD [⟨10,[ni]⟩,⟨12,[nh]⟩] dC 12=[jP,jP]:=⟨by kernel_rfl,by kernel_rfl⟩
theorem P5:G5 lD=⟨#[114,111,117,116,101,114,32,50,32,50,10,115,111,117,114,99,101,32,99,97,109,32,48,10,115,111,117,114,99,101,32,118,116,114,32,49,10,100,101,115,116,105,110,97,116,105,111,110,32,109,111,110,32,48,32,102,114,101,101,10,100,101,115,116,105,110,97,116,105,111,110,32,97,105,114,32,49,32,102,114,101,101,10,100,101,115,116,105,110,97,116,105,111,110,32,114,101,99,32,49,32,102,114,101,101,10,116,105,101,32,116,32,48,32,49,10,116,105,101,32,117,32,48,32,49,10]⟩:=by kernel_rfl
end Go.Proofs.A1
namespace Go.Proofs.A1
open Go Go.SL
theorem Mr (w:World):bd Tryz.prog 105 [] w [] (fun _:Value×Value×Value×Value=>True) (fun x=>RA lD x.1 x.2.1 x.2.2.1 x.2.2.2) (fun x=>rb lD x):=by
 unfold RA
 refine aR Tryz.func105 rfl rfl ?_
 (refine Jr<|Jz rfl rfl fun _ _=>Ji<|ab (aS (.cons (.of rfl) .nil) ak) rfl ?_;refine ab (aS (.cons (.of rfl) (.cons (.of rfl) .nil)) ak) rfl ?_;refine bb (bu (.cons (.of rfl) (.cons (.of rfl) .nil)) rfl rfl bM bM ak) rfl fun _ _=>?_;refine ab (aS (.cons (.of rfl) .nil) ak) rfl ?_;refine ab (aS (.cons (.of rfl) (.cons (.of rfl) .nil)) ak) rfl ?_;refine ab (aS (.cons (.of rfl) (.cons (.of rfl) .nil)) ak) rfl ?_;refine bb (bu (.cons (.of rfl) (.cons (.of rfl) (.cons (.of rfl) .nil))) rfl rfl bM bM ak) rfl fun _ _=>?_;refine ab (aS (.cons (.of rfl) (.cons (.of rfl) .nil)) ak) rfl ?_;refine ab (aS (.cons (.of rfl) (.cons (.of rfl) .nil)) ak) rfl ?_;refine bb (bu (.cons (.of rfl) (.cons (.of rfl) .nil)) rfl rfl bM bM ak) rfl fun _ _=>?_;refine ab (aS (.cons (.of rfl) (.cons (.of rfl) (.cons (.of rfl) (.cons (.of rfl) (.cons (.of rfl) .nil))))) ak) rfl ?_;refine ao (.of rfl) (.of rfl) cY rfl rfl (ib rfl rfl rfl rfl rfl rfl) (bE rfl) ak ?_;refine Jn<|Je ?_)
 rename_i b0 hb0 b1 sy b2 sQ b3 rG
 refine bQ (g:=b1) (E:=186) (ys:=nw lD.sr) 2 2 cY (by exact rfl) rfl rfl ?_
 refine bQ (g:=b2) (E:=90) (ys:=lq lD.de) 3 3 cY (by exact rfl) rfl rfl ?_
 refine bQ (g:=b3) (E:=187) (ys:=pz lD.ti) 2 3 cY (by exact rfl) rfl rfl ?_
 refine aQ 188 3 ?_
 first | with_reducible apply aO | with_reducible apply aP
 case he=>exact ke rfl inferInstance rfl ei ak (by rfl)
 case hR=>
  intro w' az
  exact aB (.slice (some ⟨b1,0,none⟩) 2 2,.slice (some ⟨b2,0,none⟩) 3 3,.slice (some ⟨b3,0,none⟩) 2 2,.slice none 0 0) trivial (by exact .cons cY (.cons bI (.cons (.there .here) (.cons .here .nil)))) az rfl
theorem P8 (w:World):bd Tryz.prog 106 [] w [] (fun _:Option Addr×Nat=>True) (fun x=>.agg (fZ.cells ⟨ni,.slice x.1 2 x.2⟩).toArray) (fun x=>[row 9 1 (.slice x.1 2 x.2) 2 (aM ni.so)]):=by
 unfold fZ.cells
 refine aR Tryz.func106 rfl rfl ?_
 (refine Jr<|Jz rfl rfl fun _ _=>Ji<|bb (aA (.cons (.of rfl) (.cons (.of rfl) .nil)) rfl rfl rfl rfl) rfl fun _ _=>?_;refine ab (aS (.cons (.of rfl) (.cons (.of rfl) .nil)) ak) rfl ?_;refine ao (.of rfl) (.of rfl) (.there .here) rfl rfl (gn rfl rfl) (bE rfl) ak ?_;refine Jn<|Je ?_)
 rename_i b0 hb0 b1 sy
 refine bQ (g:=b1) (E:=9) (ys:=aM ni.so) 2 1 (by exact Take.there .here) (by exact rfl) rfl rfl ?_
 first | with_reducible apply aO | with_reducible apply aP
 case he=>exact ke rfl inferInstance rfl (.there .here) ak (by rfl)
 case hR=>
  intro w' az
  exact aB (some ⟨b1,0,none⟩,2) trivial (by exact .cons .here .nil) az rfl
theorem P7 (w:World):bd Tryz.prog 107 [] w [] (fun _:Option Addr×Nat=>True) (fun x=>.agg (fZ.cells ⟨Qz,.slice x.1 2 x.2⟩).toArray) (fun x=>[row 9 1 (.slice x.1 2 x.2) 2 (aM Qz.so)]):=by
 unfold fZ.cells
 refine aR Tryz.func107 rfl rfl ?_
 (refine Jr<|Jz rfl rfl fun _ _=>Ji<|bb (aA (.cons (.of rfl) (.cons (.of rfl) .nil)) rfl rfl rfl rfl) rfl fun _ _=>?_;refine ab (aS (.cons (.of rfl) (.cons (.of rfl) .nil)) ak) rfl ?_;refine ao (.of rfl) (.of rfl) (.there .here) rfl rfl (gn rfl rfl) (bE rfl) ak ?_;refine Jn<|Je ?_)
 rename_i b0 hb0 b1 sy
 refine bQ (g:=b1) (E:=9) (ys:=aM Qz.so) 2 1 (by exact Take.there .here) (by exact rfl) rfl rfl ?_
 first | with_reducible apply aO | with_reducible apply aP
 case he=>exact ke rfl inferInstance rfl (.there .here) ak (by rfl)
 case hR=>
  intro w' az
  exact aB (some ⟨b1,0,none⟩,2) trivial (by exact .cons .here .nil) az rfl
theorem P6 (w:World):bd Tryz.prog 108 [] w [] (fun _:Option Addr×Nat=>True) (fun x=>.agg (fZ.cells ⟨nh,.slice x.1 2 x.2⟩).toArray) (fun x=>[row 9 1 (.slice x.1 2 x.2) 2 (aM nh.so)]):=by
 unfold fZ.cells
 refine aR Tryz.func108 rfl rfl ?_
 (refine Jr<|Jz rfl rfl fun _ _=>Ji<|bb (aA (.cons (.of rfl) (.cons (.of rfl) .nil)) rfl rfl rfl rfl) rfl fun _ _=>?_;refine ab (aS (.cons (.of rfl) (.cons (.of rfl) .nil)) ak) rfl ?_;refine ao (.of rfl) (.of rfl) (.there .here) rfl rfl (gn rfl rfl) (bE rfl) ak ?_;refine Jn<|Je ?_)
 rename_i b0 hb0 b1 sy
 refine bQ (g:=b1) (E:=9) (ys:=aM nh.so) 2 1 (by exact Take.there .here) (by exact rfl) rfl rfl ?_
 first | with_reducible apply aO | with_reducible apply aP
 case he=>exact ke rfl inferInstance rfl (.there .here) ak (by rfl)
 case hR=>
  intro w' az
  exact aB (some ⟨b1,0,none⟩,2) trivial (by exact .cons .here .nil) az rfl
instance :DecidableEq Tk:=fun a b=>decidable_of_iff (a.de=b.de∧a.so=b.so) (by cases a;cases b;simp)
theorem DT {c:Cx} {hs hs':List ba} {w:World} {r:Ro} {x:Value×Value×Value×Value} (hm:Mem c hs w) (ht:bj hs (rb r x) hs'):RR w r x.1 x.2.1 x.2.2.1 x.2.2.2:=by
 have lH:=hm.iQ ht
 exact ⟨cE lH .here rfl,cG lH (.there .here) rfl,cD lH bI rfl,cy lH cY rfl⟩
theorem Ra {c:Cx} {hs hs':List ba} {w:World} {r:Ro} {x:Value×Value×Value×Value} (hm:Mem c hs w) (ht:bj hs (Oo r x) hs'):RR w r x.1 x.2.1 x.2.2.1 x.2.2.2:=by
 have lH:=hm.iQ ht
 exact ⟨cE lH .here rfl,cG lH (.there .here) rfl,cD lH bI rfl,cy lH cY rfl⟩
theorem lB {c:Cx} {D:List Nat} {sl:aG} {hs hs':List ba} {X:Act→World→Prop} {r:Ro} {s d t p:Value} (ht:bj hs (Oo r (s,d,t,p)) hs')
  (k:s.oneCell'=true→d.oneCell'=true→t.oneCell'=true→p.oneCell'=true→Tr c D sl (row 118 2 s r.sr.length (nw r.sr)::row 88 3 d r.de.length (lq r.de)::row 122 3 t r.ti.length (pz r.ti)::row 180 3 p r.po.length (iW r.po)::hs') X):Tr c D sl hs X:=by
 intro a w a7
 have hm:=a7.mem.iQ (ht.append (lX D))
 have k2:Tr c D sl (row 118 2 s r.sr.length (nw r.sr)::row 88 3 d r.de.length (lq r.de)::row 122 3 t r.ti.length (pz r.ti)::row 180 3 p r.po.length (iW r.po)::hs') X:=by
  refine aW (E:=118) (sz:=2) (v:=s) .here fun _ _ e=>?_
  have k1:s.oneCell'=true:=by rw [e];rfl
  clear e
  refine aW (E:=88) (sz:=3) (v:=d) (.there .here) fun _ _ e=>?_
  have k2:d.oneCell'=true:=by rw [e];rfl
  clear e
  refine aW (E:=122) (sz:=3) (v:=t) bI fun _ _ e=>?_
  have k3:t.oneCell'=true:=by rw [e];rfl
  clear e
  refine aW (E:=180) (sz:=3) (v:=p) cY fun _ _ e=>?_
  have k4:p.oneCell'=true:=by rw [e];rfl
  clear e
  exact k k1 k2 k3 k4
 exact k2 a w (a7.heap hm)
theorem BV {v1 v2:Value} {l m:List fZ} {w:World} (h1:Rd w v1 2 (ji l)) (Wl:vF w l) (h2:Rd w v2 2 (ji m)) (Wk:vF w m) :
  aj Tryz.prog 53 [v1,v2] w (.bool (decide (dd l=dd m))):=by
 obtain ⟨a1,Tj,b1,o1,rfl,pg,iE,lo,jY⟩:=h1
 obtain ⟨a2,nn,b2,o2,rfl,jX,eW,je,jH⟩:=h2
 rw [eH] at *
 rw [eH] at *
 unfold maxLen at iE eW
 refine ah Tryz.func53 rfl rfl ?_
 (refine Jr<|Ja rfl<|Jn<|Jq<|Jr<|Jv rfl<|JI rfl<|Jv rfl<|JI rfl<|JD rfl<|Jn<|fY rfl (fun aq=>?_) fun aq=>?_;refine Jr<|Ja rfl<|Jn<|Ju<|JT ?_;rotate_left;refine Jk<|Jq<|Jr<|Ja rfl<|Jn<|J0 ?_;rotate_right)
 ·rw [decide_eq_false fun e=>aq (by have:=congrArg List.length e;unfold dd at this;rw [List.length_map,List.length_map] at this;rw [this])]
 have Sq:l.length=m.length:=by omega
 refine aX (ι:=Nat) (fun k=>k≤l.length∧(dd l=dd m↔dd (l.drop k)=dd (m.drop k))) (fun k=>[(5,.int .i64 (k:Int)),(0,.slice a1 l.length Tj),(1,.slice a2 m.length nn)]) (fun _=>[]) (fun k=>l.length-k) ?_ ?_
 ·apply aK (0:Nat) ⟨Nat.zero_le _,Iff.rfl⟩
  case hs1=>exact cn
  case ht=>(try simp only [List.take_zero,List.map_nil,List.nil_append]);exact .nil
 rintro k ⟨hk,hf⟩
 by_cases aN:k<l.length
 ·have fA:k<m.length:=by omega
  have FD:=lo (mr aN)
  have sS:=je (mr fA)
  have kF:=(jY k _ (j4 aN)).2
  have eL:=(jH k _ (j4 fA)).2
  have x1:=Wl _ (List.getElem_mem aN)
  have x2:=Wk _ (List.getElem_mem fA)
  have hd:dd (l.drop k)=dd (m.drop k)↔(l[k].tk=m[k].tk∧dd (l.drop (k+1))=dd (m.drop (k+1))):=by
   rw [List.drop_eq_getElem_cons aN,List.drop_eq_getElem_cons fA]
   unfold dd
   rw [List.map_cons,List.map_cons]
   exact List.cons_eq_cons
  rw [hd] at hf
  clear hd
  unfold fZ.cells at kF eL
  generalize l[k]=x at kF x1 hf
  generalize m[k]=y at eL x2 hf
  obtain ⟨⟨xd,xs⟩,xv⟩:=x
  obtain ⟨⟨yd,ys⟩,yv⟩:=y
  dsimp only at kF eL x1 x2 hf
  have c1:w.cell? ⟨b1,o1+k*2,none⟩=some (.string xd):=kF 0 _ rfl
  have c2:w.cell? ⟨b2,o2+k*2,none⟩=some (.string yd):=eL 0 _ rfl
  have c3:w.cell? ⟨b1,o1+k*2+1,none⟩=some xv:=kF 1 _ rfl
  have c4:w.cell? ⟨b2,o2+k*2+1,none⟩=some yv:=eL 1 _ rfl
  have WX:∀ w',aF [] w w'→aj Tryz.prog 58 [xv,yv] w' (.bool (decide (xs=ys))):=fun w' hk=>yB (x1.keeps hk) (x2.keeps hk)
  refine Jq<|Jr<|Jv rfl<|Jv rfl<|JI rfl<|JA rfl<|Jn<|Jd rfl fun aq=>Jk<|Jq<|J0<|Jq ?_
  with_reducible refine dN 25 (by kernel_rfl) ?_
  (refine kZ rfl rfl ?_;refine kZ rfl rfl ?_;refine aH (fM FD aq) rfl ?_;refine np rfl rfl ae ?_;refine aH (ai (.of rfl) (At.base c1 rfl)) rfl ?_;refine kZ rfl rfl ?_;refine kZ rfl rfl ?_;refine aH (aC (.of rfl) (.of rfl) sS (by omega) (by omega) bo) rfl ?_;refine np rfl rfl ae ?_;refine aH (ai (.of rfl) (At.base c2 rfl)) rfl ?_;refine aH (iI (.of rfl) (.of rfl)) rfl ?_;refine kZ rfl rfl ?_;refine dA rfl rfl inferInstance (fun hg bL=>(aY (.of rfl))) rfl ?_;refine dA rfl rfl inferInstance (fun hg bL=>(aY (.of rfl))) rfl ?_;refine dA rfl rfl inferInstance (fun hg bL=>(aC (.cA hg rfl) (.cA hg rfl) FD (by omega) aq bo)) rfl ?_;refine dA rfl rfl inferInstance (fun hg bL=>(ar (.cA hg rfl) ae)) rfl ?_;refine dA rfl rfl inferInstance (fun hg bL=>(ai (.cA hg rfl) (At.base c3 rfl))) rfl ?_;refine dA rfl rfl inferInstance (fun hg bL=>(aY (.of rfl))) rfl ?_;refine dA rfl rfl inferInstance (fun hg bL=>(aY (.of rfl))) rfl ?_;refine dA rfl rfl inferInstance (fun hg bL=>(aC (.cA hg rfl) (.cA hg rfl) sS (by omega) (by omega) bo)) rfl ?_;refine dA rfl rfl inferInstance (fun hg bL=>(ar (.cA hg rfl) ae)) rfl ?_;refine dA rfl rfl inferInstance (fun hg bL=>(ai (.cA hg rfl) (At.base c4 rfl))) rfl ?_;refine vj rfl rfl (fun hg=>(bh (.of rfl) (.cons (.cA hg rfl) (.cons (.cA hg rfl) .nil)) inferInstance gJ)) rfl (fun hg w' az=>(WX w' (Mem.keeps az))) ?_;refine dA rfl rfl inferInstance (fun hg bL=>(fG (.cA hg rfl))) rfl ?_;refine aH (bW (.of rfl) rfl) rfl ?_)
  with_reducible refine dW ?_
  (refine Jn<|pV rfl (fun aq=>?_) fun aq=>?_;refine Jr<|Ja rfl<|Jn<|Je<|Jm<|Jh<|Jh<|Jm<|Jh<|JT ?_;rotate_left;refine Jw<|Jj<|Jt<|Jg<|Jv rfl<|JB rfl (by omega)<|Ja rfl<|Jn ?_;rotate_right)
  ·have hne:¬ dd l=dd m:=fun e=>by
    obtain ⟨e1,_⟩:=hf.1 e
    injection e1 with e2 e3
    rcases aq with h | h
    ·exact h e2
    ·exact h e3
   rw [decide_eq_false hne]
  ·obtain ⟨q1,q2⟩:=aq
   have q1:=Decidable.not_not.1 q1
   subst q1;subst q2
   clear WX
   apply aL (k+1) ⟨(show k+1≤l.length from aN),hf.trans ⟨fun e=>e.2,fun e=>⟨rfl,e⟩⟩⟩ (show l.length-(k+1)<l.length-k by omega)
   case hs1=>exact cn
   case ht=>(try simp only [List.take_zero,List.map_nil,List.nil_append]);exact .nil
 ·obtain rfl:k=l.length:=by omega
  have:dd l=dd m:=hf.2 (by rw [List.drop_length,Sq,List.drop_length])
  refine Jq<|Jr<|Jv rfl<|Jv rfl<|JI rfl<|JA rfl<|Jn<|Jc rfl fun aq=>Jp<|Jl<|Jo<|Jt<|Jr<|Ja rfl<|Jn<|Je<|JT ?_
  rw [decide_eq_true this]
theorem Ha {r:Ro} {s d t p v:Value} {q:List Po} {w:World} (h:RR w r s d t p) (cJ:mi r) (hv:Rd w v 3 (sN q)):aj Tryz.prog 110 [RA r s d t p,v] w (.bool (decide (r.po=q))):=by
 have h1:=Rd.one h.sr
 have h2:=Rd.one h.de
 have h3:=Rd.one h.ti
 have h4:=Rd.one h.po
 have hv2:=hv
 obtain ⟨av,cv,bv,ov,rfl,_,_,_,_⟩:=hv2
 rw [cU] at *
 have ht:∀ w',aF [] w w'→bd Tryz.prog 57 [.agg #[.int .i64 r.lv,.int .i64 r.ma,s,d,t,p]] w' [] (fun _:Value×Value×Value×Value=>True) (fun x=>RA r x.1 x.2.1 x.2.2.1 x.2.2.2) (fun x=>Oo r x):=fun w' hk=>Gs (h.keeps hk) cJ
 unfold RA at ht ⊢
 refine ah Tryz.func110 rfl rfl ?_
 refine Jr<|Jy rfl rfl fun _ _=>Ja rfl<|Ji<|ab (cr .here) rfl ?_
 refine JN bC rfl (fun w1 aJ=>ht w1 aJ.keeps) ?_
 rintro ⟨s1,d1,t1,p1⟩ _
 dsimp only
 try unfold RA
 refine lB (r:=r) (s:=s1) (d:=d1) (t:=t1) (p:=p1) (a8 _ _) fun k1 k2 k3 k4=>?_
 (refine Jz rfl rfl fun _ _=>ao (.of rfl) (.of rfl) .here rfl rfl (ib rfl rfl k1 k2 k3 k4) (bE rfl) ak ?_;refine Ji<|Jv rfl<|bF rfl rfl ae ?_;refine ao (.of rfl) (.of rfl) .here rfl rfl (dZ rfl) (bE rfl) ak ?_;refine Jn<|Jq ?_)
 with_reducible refine dM 5 (by kernel_rfl) ?_
 refine au (fun β=>(cF (.of rfl) eC ak (by rfl))) bB rfl ?_
 dsimp only [Nat.zero_add,Nat.reduceAdd]
 with_reducible apply fb (ι:=Value×Value×Value×Value) (Φ:=fun _=>True) (val:=fun x=>.agg #[.int .i64 r.lv,.int .i64 r.ma,x.1,x.2.1,x.2.2.1,x.2.2.2]) (own:=fun x=>Oo r x) (g:=g4) (B:=[]) (args:=fun _=>[.agg #[.int .i64 r.lv,.int .i64 r.ma,s,d,t,p]])
 case hg=>exact uX
 case hB=>rfl
 case hr=>exact fun β=>bh (.of rfl) (.cons (.of rfl) .nil) inferInstance rfl
 case hd=>rfl
 case hc=>exact fun β w' hb=>ht w' hb.mem.keeps
 dsimp only [Nat.reduceAdd]
 refine au (fun β=>(cF (.of rfl) .here ak (by rfl))) bB rfl ?_
 dsimp only [Nat.reduceAdd]
 with_reducible apply cH (B:=[1]) (F:=fun _=>.bool (decide (r={ r with po:=q }))) (args:=fun β=>[.agg #[.int .i64 r.lv,.int .i64 r.ma,(g4 (β 1)).1,(g4 (β 1)).2.1,(g4 (β 1)).2.2.1,(g4 (β 1)).2.2.2],.agg #[.int .i64 r.lv,.int .i64 r.ma,s1,d1,t1,.slice av q.length cv]])
 case hB=>kernel_rfl
 case hr=>exact fun β=>bh (.of rfl) (.cons (.of rfl) (.cons (.of rfl) .nil)) inferInstance rfl
 case hi=>exact bB
 case hd=>rfl
 case hc=>
  intro β w' dw
  have m1:=dw.at 1 List.mem_cons_self (s:=⟨fun β=>.agg #[.int .i64 r.lv,.int .i64 r.ma,(g4 (β 1)).1,(g4 (β 1)).2.1,(g4 (β 1)).2.2.1,(g4 (β 1)).2.2.2],fun β=>Oo r (g4 (β 1))⟩) (by kernel_rfl)
  dsimp only at m1
  have hk:=dw.mem.keeps
  have r1:=Ra m1 (a8 _ _)
  have m2:=dw.mem
  have r2:RR w' { r with po:=q } s1 d1 t1 (.slice av q.length cv):=⟨cE m2 (by exact Take.there .here) rfl,cG m2 bI rfl,cD m2 cY rfl,hv.keeps hk⟩
  exact Qu r1 r2
 refine au (fun β=>(cq (.of rfl))) bB rfl ?_
 refine fC fun β=>?_
 dsimp only [eI,List.nil_append,List.cons_append,List.append_eq,Nat.reduceAdd]
 with_reducible refine cW (by kernel_rfl) ?_
 refine Jt<|Je<|JT ?_
 have e:(r={ r with po:=q })↔r.po=q:=⟨fun e=>congrArg Ro.po e,fun e=>by cases r;subst e;rfl⟩
 rw [decide_eq_decide.2 e]
end Go.Proofs.A1
