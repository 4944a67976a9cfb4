/- Parts of the proof: LI LJ LK LL LM LN LO. -/
import Derived.Test.YteonnodafmegaaaGreatDoorBM11
import Derived.Test.YteonnodafmegaaaGreatDoorBM04
import Derived.Test.YteonnodafmegaaaGreatDoorBM10
import Derived.Lib.AppendIntMem
import Derived.KernelRfl
set_option linter.unusedSectionVars false
set_option linter.unusedVariables false
set_option linter.unusedSimpArgs false
namespace Go.Proofs.A1
open Go Go.SL
def ny (n:Int):ByteArray:=⟨#[UInt8.ofNat (48+n.toNat)]⟩
theorem T5:∀ i,i≤9→(⟨(Lib.decDigits i).toArray⟩:ByteArray)=⟨#[UInt8.ofNat (48+i)]⟩:=by
 intro i h
 match i,h with
 | 0,_=>simp [Lib.decDigits]
 | 1,_=>simp [Lib.decDigits]
 | 2,_=>simp [Lib.decDigits]
 | 3,_=>simp [Lib.decDigits]
 | 4,_=>simp [Lib.decDigits]
 | 5,_=>simp [Lib.decDigits]
 | 6,_=>simp [Lib.decDigits]
 | 7,_=>simp [Lib.decDigits]
 | 8,_=>simp [Lib.decDigits]
 | 9,_=>simp [Lib.decDigits]
theorem Ma (n:Int) (h0:0≤n) (h1:n≤9) (w:World):aj Tryz.prog 279 [.int .i64 n] w (.string (ny n)):=by
 obtain ⟨i,rfl⟩:∃ i:Nat,n=(i:Nat):=⟨n.toNat,by omega⟩
 refine Calls.mono (Tryz.internal_strconv_Itoa_small i (by omega) w) fun e w' ⟨he,hw⟩=>⟨?_,by rw [hw];exact .refl _ _⟩
 rw [he,T5 i (by omega)]
 unfold ny
 rw [Int.toNat_natCast]
theorem nW (n:Int) (h0:0≤n) (h1:n≤9) (w:World):aj Tryz.prog 193 [.int .i64 n] w (.string (ny n)):=by
 refine ah Tryz.func193 rfl rfl ?_
 (refine Jr<|Ja rfl<|Ji<|Jv rfl<|ai bI rfl (fun w' au=>(Ma n h0 h1 w')) ?_;refine Ja rfl<|Jn<|Je<|JT ?_)
 rfl
theorem HQ (n:Int):(ny n).size=1:=rfl
def xy (l:List ByteArray) (sep:ByteArray):ByteArray:=⟨(Lib.join (l.map (·.data.toList)) sep.data.toList).toArray⟩
theorem PQ {lv:Value} {l:List ByteArray} (sep:ByteArray) {w:World} (h:Rd w lv 1 (iT l)) (hl:l.length≤1000) (hlen:(Lib.join (l.map (·.data.toList)) sep.data.toList).length≤140737488355328) :
  aj Tryz.prog 278 [lv,.string sep] w (.string (xy l sep)):=by
 obtain ⟨a,cap,b,o,rfl,db,bT,ha,hc⟩:=h
 rw [cg] at *
 cases l with
 | nil=>exact Calls.mono (Tryz.strings_Join_none a cap sep w) fun e w' ⟨he,hw⟩=>⟨he,by rw [hw];exact .refl _ _⟩
 | cons x r =>
  have:=ha (by simp [iT])
  subst this
  have aC:∀ (j:Nat) y,(x::r)[j]? = some y→w.cell? ⟨b,o+j,none⟩=some (.string y):=fun j y hj=>by
   have:=(hc j [.string y] (by unfold iT;rw [List.getElem?_map,hj];rfl)).2 0 _ rfl
   simpa using this
  refine Calls.mono (Calls.up (Tryz.strings_Join b o cap (x::r) sep w aC ?_ (by omega) db hlen)) fun e w' ⟨he,hw,hd⟩=>⟨he,aG.Hz hw hd⟩
  exact World.block_lt_of_cell? w _ (aC 0 x rfl)
theorem HP (l:List (List UInt8)) (sep:List UInt8) (n:Nat) (h:∀ x∈l,x.length≤n):(Lib.join l sep).length≤l.length*(n+sep.length):=by
 cases l with
 | nil=>simp [Lib.join]
 | cons x r =>
  have key:∀ (r:List (List UInt8)),(∀ y∈r,y.length≤n)→(Lib.joinTail sep r).length≤r.length*(n+sep.length):=by
   intro r
   induction r with
   | nil=>intro _;simp [Lib.joinTail]
   | cons y r ih =>
    intro hy
    have h1:=hy y (by simp)
    have h2:=ih fun z hz=>hy z (by simp [hz])
    simp only [Lib.joinTail,List.map_cons,List.flatten_cons,Zg,List.length_cons,Nat.succ_mul] at h2 ⊢
    omega
  rw [Lib.join_cons,Zg,List.length_cons,Nat.succ_mul]
  have h1:=h x (by simp)
  have h2:=key r fun z hz=>h z (by simp [hz])
  omega
def NS (l:List ByteArray):ByteArray:=xy l ⟨#[32]⟩++⟨#[10]⟩
theorem xx {l:List ByteArray} (h4:l.length≤4) (h:∀ x∈l,x.size≤24):(Lib.join (l.map (·.data.toList)) [32]).length≤100:=by
 have:=HP (l.map (·.data.toList)) [32] 24 (by
  intro x hx
  obtain ⟨y,hy,rfl⟩:=List.mem_map.1 hx
  have:=h y hy
  rw [Array.length_toList];exact this)
 rw [Zd] at this
 have h2:([32]:List UInt8).length=1:=rfl
 rw [h2] at this
 omega
theorem uP {l:List ByteArray} (h4:l.length≤4) (h:∀ x∈l,x.size≤24):(xy l ⟨#[32]⟩).size≤100:=by
 have:=xx h4 h
 unfold xy
 show Array.size _≤100
 rw [List.size_toArray];exact this
theorem gq {l:List ByteArray} (h4:l.length≤4) (h:∀ x∈l,x.size≤24):(NS l).size≤101:=by
 have:=uP h4 h
 unfold NS
 rw [ByteArray.size_append]
 have:ByteArray.size ⟨#[10]⟩=1:=rfl
 omega
theorem rK {v:Value} {l:List ByteArray} {w:World} (h:Rd w v 1 (iT l)) (h4:l.length≤4) (hs:∀ x∈l,x.size≤24):aj Tryz.prog 192 [v] w (.string (NS l)):=by
 have hj:∀ w',aG [] w w'→aj Tryz.prog 278 [v,.string ⟨#[32]⟩] w' (.string (xy l ⟨#[32]⟩)):=fun w' hk=>PQ (l:=l) ⟨#[32]⟩ (h.keeps hk) (by omega) (Nat.le_trans (xx h4 hs) (by decide))
 have hz:=uP h4 hs
 have h1:ByteArray.size ⟨#[10]⟩=1:=rfl
 have hb:(xy l ⟨#[32]⟩).size+ByteArray.size ⟨#[10]⟩≤9223372036854775807:=by omega
 refine ah Tryz.func192 rfl rfl ?_
 (refine Jr<|Ja rfl<|Ji<|Jv rfl<|ai aZ rfl (fun w' au=>(hj w' (Mem.keeps au))) ?_;refine ab (rE (.of rfl) (.of rfl) hb) rfl ?_;refine Ja rfl<|Jn<|Je<|JT ?_)
 rfl
def CZ:List Value:=[.string ⟨#[114,111,117,116,101,114]⟩,.func (.func 271) #[] #[],.string ⟨#[115,111,117,114,99,101]⟩,.func (.func 273) #[] #[],.string ⟨#[100,101,115,116,105,110,97,116,105,111,110]⟩,.func (.func 275) #[] #[],.string ⟨#[116,105,101]⟩,.func (.func 276) #[] #[],.string ⟨#[112,111,105,110,116]⟩,.func (.func 277) #[] #[]]
theorem MK (w:World):aj Tryz.prog 191 [] w (.agg CZ.toArray):=by
 unfold CZ
 refine ah Tryz.func191 rfl rfl ?_
 (refine Jr<|Jz rfl rfl fun _ _=>Ji<|ab (aU (.cons (.of rfl) (.cons (.of rfl) .nil)) an) rfl ?_;refine ab (aU (.cons (.of rfl) (.cons (.of rfl) .nil)) an) rfl ?_;refine ab (aU (.cons (.of rfl) (.cons (.of rfl) .nil)) an) rfl ?_;refine ab (aU (.cons (.of rfl) (.cons (.of rfl) .nil)) an) rfl ?_;refine ab (aU (.cons (.of rfl) (.cons (.of rfl) .nil)) an) rfl ?_;refine ab (aU (.cons (.of rfl) (.cons (.of rfl) (.cons (.of rfl) (.cons (.of rfl) (.cons (.of rfl) .nil))))) an) rfl ?_;refine aq (.of rfl) (.of rfl) .here rfl rfl (bD rfl (bD rfl (Ur rfl rfl rfl rfl rfl rfl rfl rfl))) (bC rfl) an ?_;refine Jn<|Je<|oJ rfl (kq rfl inferInstance rfl .here an (by rfl)) ?_)
 rfl
def wR:ByteArray:=⟨#[114,111,117,116,101,114]⟩
def wS:ByteArray:=⟨#[115,111,117,114,99,101]⟩
def wD:ByteArray:=⟨#[100,101,115,116,105,110,97,116,105,111,110]⟩
def wT:ByteArray:=⟨#[116,105,101]⟩
def wP:ByteArray:=⟨#[112,111,105,110,116]⟩
def Gm:ByteArray:=⟨#[102,114,101,101]⟩
def Gl:ByteArray:=⟨#[112,114,111,116,101,99,116,101,100]⟩
def UB (r:Ro):ByteArray:=NS [wR,ny r.lv,ny r.ma]
def L7 (x:Sr):ByteArray:=NS [wS,x.nm,ny x.mx]
def XK (b:Bool):ByteArray:=if b=true then Gl else Gm
def Kz (x:De):ByteArray:=NS [wD,x.nm,ny x.mx,XK x.pr]
def L6 (x:Ti):ByteArray:=NS [wT,x.nm,ny x.fr,ny x.to]
def Ru (x:Po):ByteArray:=NS [wP,ny x.lv,x.ou,x.ip]
def ml (a:ByteArray) (l:List ByteArray):ByteArray:=l.foldl (fun a b=>a++b) a
theorem oW {a:ByteArray} {α:Type} {f:α→ByteArray} {l:List α} {k:Nat} (h:k<l.length):ml a ((l.take (k+1)).map f)=ml a ((l.take k).map f)++f l[k]:=by
 unfold ml
 rw [List.take_succ_eq_append_getElem h,List.map_append,List.foldl_append];rfl
theorem mj {n:Nat}:∀ {l:List ByteArray} {a:ByteArray},(∀ x∈l,x.size≤n)→(ml a l).size≤a.size+n*l.length
 | [],a,_=>Nat.le_refl _
 | x :: l, a, h => by
  have:=mj (l:=l) (a:=a++x) fun y hy=>h y (List.mem_cons_of_mem _ hy)
  rw [ByteArray.size_append] at this
  have h1:=h x List.mem_cons_self
  show (ml (a++x) l).size≤_
  rw [List.length_cons,Nat.mul_succ]
  omega
theorem oX {n:Nat} {a:ByteArray} {α:Type} {f:α→ByteArray} {l:List α} {k:Nat} (hn:∀ x∈l,(f x).size≤n):(ml a ((l.take k).map f)).size≤a.size+n*l.length:=by
 have:=mj (n:=n) (a:=a) (l:=(l.take k).map f) (by
  intro x hx
  obtain ⟨y,hy,rfl⟩:=List.mem_map.1 hx
  exact hn y (List.mem_of_mem_take hy))
 rw [Zd,List.length_take] at this
 have:n*min k l.length≤n*l.length:=Nat.mul_le_mul_left _ (Nat.min_le_right _ _)
 omega
def Vm (r:Ro):ByteArray:=ml (ml (ml (ml (UB r) (r.sr.map L7)) (r.de.map Kz)) (r.ti.map L6)) (r.po.map Ru)
def Hh (r:Ro):ByteArray:=if fU r=0 then Vm r else ⟨#[]⟩
theorem LR {s:ByteArray} (h:jO s=true):s.size≤24:=by
 unfold jO at h
 simp only [Bool.and_eq_true,decide_eq_true_eq] at h
 exact h.1.1.2
structure Prn (r:Ro):Prop where
 n0:(0≤r.lv∧r.lv≤9)∧0≤r.ma∧r.ma≤9
 sr:∀ x∈r.sr,x.nm.size≤24∧0≤x.mx∧x.mx≤9
 de:∀ x∈r.de,x.nm.size≤24∧0≤x.mx∧x.mx≤9
 ti:∀ x∈r.ti,x.nm.size≤24∧(0≤x.fr∧x.fr≤9)∧0≤x.to∧x.to≤9
 po:∀ x∈r.po,(x.ou.size≤24∧x.ip.size≤24)∧0≤x.lv∧x.lv≤9
 len:(r.sr.length≤8∧r.de.length≤8∧r.ti.length≤6)∧r.po.length≤42
theorem Zs {r:Ro} (h:fU r=0):Prn r:=by
 have ho:=DZ h
 have hp:=prt (r6 h).2.1
 have hl:=ho.lim
 have na:∀ s∈dZ r,s.size≤24:=fun s hs=>LR (hp.nm s hs)
 have n1:∀ s∈cm r,s.size≤24:=fun s hs=>na s (List.mem_append_left _ (List.mem_append_left _ hs))
 have n2:∀ s∈ct r,s.size≤24:=fun s hs=>na s (List.mem_append_left _ (List.mem_append_right _ hs))
 have n3:∀ s∈cQ r,s.size≤24:=fun s hs=>na s (List.mem_append_right _ hs)
 refine ⟨by omega,fun x hx=>?_,fun x hx=>?_,fun x hx=>?_,fun x hx=>?_,hp.len,oI ho ho.val⟩
 ·have:=ho.sm x hx
  exact ⟨n1 _ (List.mem_map_of_mem hx),by omega,by omega⟩
 ·have:=ho.dm x hx
  exact ⟨n2 _ (List.mem_map_of_mem hx),by omega,by omega⟩
 ·have:=ho.tm x hx
  exact ⟨n3 _ (List.mem_map_of_mem hx),by omega,by omega⟩
 ·have:=ho.val.KA x hx
  exact ⟨⟨(ho.val.out x hx).elim (n2 _) (n3 _),(ho.val.v8 x hx).elim (n1 _) (n3 _)⟩,by omega,by omega⟩
theorem rJ {a b c:ByteArray} (ha:a.size≤24) (hb:b.size≤24) (hc:c.size≤24):∀ x∈[a,b,c],x.size≤24:=by
 intro x hx
 simp only [List.mem_cons,List.not_mem_nil,or_false] at hx
 rcases hx with rfl | rfl | rfl <;> assumption
theorem iO {a b c d:ByteArray} (ha:a.size≤24) (hb:b.size≤24) (hc:c.size≤24) (hd:d.size≤24):∀ x∈[a,b,c,d],x.size≤24:=by
 intro x hx
 simp only [List.mem_cons,List.not_mem_nil,or_false] at hx
 rcases hx with rfl | rfl | rfl | rfl <;> assumption
theorem eW (n:Int):(ny n).size≤24:=by rw [HQ];decide
theorem Cj (b:Bool):(XK b).size≤24:=by cases b <;> decide
theorem Nt {r:Ro} {s d t p:Value} {w:World} (h:RR w r s d t p) (cG:mY r):aj Tryz.prog 85 [RA r s d t p] w (.tuple #[.string (Hh r),.int .i64 (fU r)]):=by
 have h1:=Rd.one h.sr
 have h2:=Rd.one h.de
 have h3:=Rd.one h.ti
 have h4:=Rd.one h.po
 have iQ:∀ w',aG [] w w'→aj Tryz.prog 34 [.agg #[.int .i64 r.lv,.int .i64 r.ma,s,d,t,p]] w' (.int .i64 (fU r)):=fun w' hk=>eu (h.keeps hk) cG
 have A8:=h.sr
 have Bg:=h.de
 have wa:=h.ti
 have Ib:=h.po
 obtain ⟨a1,dJ,Gd,F6,rfl,ng,gr,kF,jJ⟩:=A8
 obtain ⟨a2,cU,Gc,F5,rfl,jt,eA,iW,jq⟩:=Bg
 obtain ⟨a3,dC,FY,Fg,rfl,lC,fD,qY,oe⟩:=wa
 obtain ⟨a4,fS,Uf,Pw,rfl,xF,mc,Gb,zg⟩:=Ib
 rw [cu] at *
 rw [bU] at *
 rw [bJ] at *
 rw [cN] at *
 unfold maxLen at gr eA fD mc
 unfold RA
 refine ah Tryz.func85 rfl rfl ?_
 (refine Jr<|Jy rfl rfl fun _ _=>Ja rfl<|Ja rfl<|Jn<|Jq<|Jr<|ab (cz .here) rfl ?_;refine ai bI rfl (fun w' au=>(iQ w' (Mem.keeps au))) ?_;refine Ja rfl<|Ji<|Jv rfl<|JD rfl<|Jn<|gm rfl (fun ar=>?_) fun ar=>?_;refine Jr<|Jv rfl<|Ja rfl<|Ja rfl<|Jn<|Ju<|oJ rfl (fF rfl rfl rfl) ?_;rotate_left;refine Jk<|Jr<|ai ns rfl (fun w' au=>(MK w')) ?_;refine Jz rfl rfl fun _ _=>aq (.of rfl) (.of rfl) .here rfl rfl (bD rfl (bD rfl (Ur rfl rfl rfl rfl rfl rfl rfl rfl))) (bC rfl) an ?_;refine Jn<|Jq ?_;rotate_right)
 ·unfold Hh;rw [if_neg ar]
 have h0:fU r=0:=Decidable.not_not.1 ar
 have hN:=Zs h0
 have e0:Hh r=Vm r:=if_pos h0
 rw [e0,h0]
 unfold CZ
 skip
 try simp only [setCells,List.set_cons_zero,List.set_cons_succ]
 have q1:=hN.n0
 with_reducible refine eN 12 (by kernel_rfl) ?_
 (refine aD (fun β=>(gA (.of rfl) (.of rfl) (by omega) (by omega) ba)) bG rfl ?_;refine aD (fun β=>(ao (.of rfl) ae)) bG rfl ?_;refine aD (fun β=>(ag (.of rfl) (At.lit .here rfl))) bG rfl ?_;refine aD (fun β=>(ao (.of rfl) ae)) bG rfl ?_;refine aD (fun β=>(ag (.of rfl) (At.lit (.there .here) rfl))) bG rfl ?_)
 dsimp only [Nat.zero_add,Nat.reduceAdd]
 with_reducible apply cP (B:=[]) (F:=fun _=>.string (ny r.lv)) (args:=fun _=>[.int .i64 r.lv])
 case hB=>rfl
 case hr=>exact fun β=>bh (.of rfl) (.cons (.of rfl) .nil) inferInstance rfl
 case hi=>exact bG
 case hd=>rfl
 case hc=>exact fun β w' dy=>nW _ (by omega) (by omega) _
 dsimp only [Nat.reduceAdd]
 (refine aD (fun β=>(ao (.of rfl) ae)) bG rfl ?_;refine aD (fun β=>(ag (.of rfl) (At.lit (.there .here) rfl))) bG rfl ?_)
 dsimp only [Nat.zero_add,Nat.reduceAdd]
 with_reducible apply cP (B:=[]) (F:=fun _=>.string (ny r.ma)) (args:=fun _=>[.int .i64 r.ma])
 case hB=>rfl
 case hr=>exact fun β=>bh (.of rfl) (.cons (.of rfl) .nil) inferInstance rfl
 case hi=>exact bG
 case hd=>rfl
 case hc=>exact fun β w' dy=>nW _ (by omega) (by omega) _
 dsimp only [Nat.reduceAdd]
 skip
 refine mW (fun β=>(aA (.cons (.of rfl) (.cons (.of rfl) (.cons (.of rfl) .nil))) rfl rfl rfl rfl)) (fun _ _ _=>rfl) rfl ?_
 dsimp only [Nat.zero_add,Nat.reduceAdd]
 with_reducible apply cP (B:=[9]) (F:=fun _=>.string (UB r)) (args:=fun β=>[.slice (some ⟨fP (β 9),0,none⟩) 3 3])
 case hB=>kernel_rfl
 case hr=>exact fun β=>bh (.of rfl) (.cons (.of rfl) .nil) inferInstance rfl
 case hi=>exact bG
 case hd=>rfl
 case hc=>
  intro β w' dy
  have mK:=dy.at 9 List.mem_cons_self (s:=⟨fun β=>.slice (some ⟨fP (β 9),0,none⟩) 3 3,fun β=>[bA (fP (β 9)) (.cells #[.string wR,.string (ny r.lv),.string (ny r.ma)] 9)]⟩) (by kernel_rfl)
  dsimp only [Zb,Za] at mK
  exact rK (l:=[wR,ny r.lv,ny r.ma]) (Mem.dh mK (by exact .here) rfl rfl) (by simp) (rJ (by decide) (eW _) (eW _))
 dsimp only [Nat.reduceAdd]
 refine aD (fun β=>(dw (.of rfl))) bG rfl ?_
 refine gE fun β=>?_
 dsimp only [fq,Za,Zb,List.append_eq,Nat.reduceAdd]
 with_reducible refine dj (by kernel_rfl) ?_
 (refine Jt<|Jq<|Jr<|bF rfl rfl ae ?_;refine JL rfl bN rfl<|JI rfl<|Jv rfl<|Jn<|J0 ?_)
 rename_i b1 sH b5 KF
 generalize fP (β 9)=b9
 clear β
 have hA:(UB r).size≤101:=gq (by simp) (rJ (by decide) (eW _) (eW _))
 unfold Vm
 generalize UB r=A at hA ⊢
 refine aX (ι:=Nat×ByteArray) (fun y=>y.1≤r.sr.length∧y.2=ml A ((r.sr.take y.1).map L7)) (fun y=>[(36,.int .i64 (y.1:Nat)),(35,.int .i64 r.sr.length),(34,.slice a1 r.sr.length dJ),(6,.string y.2),(5,.pointer (some ⟨b5,0,none⟩)),(1,.pointer (some ⟨b1,0,none⟩))]) (fun _=>[bA b5 (.cells #[.string ⟨#[114,111,117,116,101,114]⟩,.func (.func 271) #[] #[],.string ⟨#[115,111,117,114,99,101]⟩,.func (.func 273) #[] #[],.string ⟨#[100,101,115,116,105,110,97,116,105,111,110]⟩,.func (.func 275) #[] #[],.string ⟨#[116,105,101]⟩,.func (.func 276) #[] #[],.string ⟨#[112,111,105,110,116]⟩,.func (.func 277) #[] #[]] 265 (0,0)),JP b1 r (.slice a1 r.sr.length dJ) (.slice a2 r.de.length cU) (.slice a3 r.ti.length dC) (.slice a4 r.po.length fS)]) (fun y=>r.sr.length-y.1) ?_ ?_
 ·apply aJ (0,A) ⟨Zi _,rfl⟩
  case hs1=>exact cd
  case ht=>
   exact .cons (.there .here) (.cons (.there .here) .nil)
 rintro ⟨k,S⟩ ⟨hk,hS⟩
 dsimp only at hk hS ⊢
 by_cases aL:k<r.sr.length
 ·have cE:=kF (gB aL)
  have aC:=(jJ k _ (fm aL)).2
  have hx:=hN.sr _ (Zj aL)
  have ko:=oW (a:=A) (f:=L7) aL
  rw [← hS] at ko
  unfold Sr.cells at aC
  generalize r.sr[k]=x at aC hx ko
  have hz:(L7 x).size≤101:=gq (by simp) (rJ (by decide) hx.1 (eW _))
  have QG:S.size≤A.size+101*r.sr.length:=by rw [hS];exact oX fun y hy=>gq (by simp) (rJ (by decide) (hN.sr y hy).1 (eW _))
  have UP:=hN.len
  have hb:S.size+(L7 x).size≤9223372036854775807:=by omega
  (refine Jr<|JA rfl<|Jn<|Jq<|Jd rfl fun ar=>Jk<|Jq<|J0<|Jr<|ab (fH cE ar) rfl ?_;refine ab (iv (eF.base aC rfl)) rfl ?_;refine Jz rfl rfl fun _ _=>aq (.of rfl) (.of rfl) .here rfl rfl (gF rfl rfl) (bC rfl) an ?_;refine Jn ?_)
  with_reducible refine eN 13 (by kernel_rfl) ?_
  (refine aD (fun β=>(aR (.of rfl))) bG rfl ?_;refine aD (fun β=>(gA (.of rfl) (.of rfl) (by omega) (by omega) ba)) bG rfl ?_;refine aD (fun β=>(ao (.of rfl) ae)) bG rfl ?_;refine aD (fun β=>(ag (.of rfl) (At.lit (.there .here) rfl))) bG rfl ?_;refine aD (fun β=>(ao (.of rfl) ae)) bG rfl ?_;refine aD (fun β=>(ag (.of rfl) (At.lit .here rfl))) bG rfl ?_;refine aD (fun β=>(ao (.of rfl) ae)) bG rfl ?_;refine aD (fun β=>(ag (.of rfl) (At.lit .here rfl))) bG rfl ?_)
  dsimp only [Nat.zero_add,Nat.reduceAdd]
  with_reducible apply cP (B:=[]) (F:=fun _=>.string (ny x.mx)) (args:=fun _=>[.int .i64 x.mx])
  case hB=>rfl
  case hr=>exact fun β=>bh (.of rfl) (.cons (.of rfl) .nil) inferInstance rfl
  case hi=>exact bG
  case hd=>rfl
  case hc=>exact fun β w' dy=>nW _ (by omega) (by omega) _
  dsimp only [Nat.reduceAdd]
  skip
  refine mW (fun β=>(aA (.cons (.of rfl) (.cons (.of rfl) (.cons (.of rfl) .nil))) rfl rfl rfl rfl)) (fun _ _ _=>rfl) rfl ?_
  dsimp only [Nat.zero_add,Nat.reduceAdd]
  with_reducible apply cP (B:=[9]) (F:=fun _=>.string (L7 x)) (args:=fun β=>[.slice (some ⟨fP (β 9),0,none⟩) 3 3])
  case hB=>kernel_rfl
  case hr=>exact fun β=>bh (.of rfl) (.cons (.of rfl) .nil) inferInstance rfl
  case hi=>exact bG
  case hd=>rfl
  case hc=>
   intro β w' dy
   have mK:=dy.at 9 List.mem_cons_self (s:=⟨fun β=>.slice (some ⟨fP (β 9),0,none⟩) 3 3,fun β=>[bA (fP (β 9)) (.cells #[.string wS,.string x.nm,.string (ny x.mx)] 9)]⟩) (by kernel_rfl)
   dsimp only [Zb,Za] at mK
   exact rK (l:=[wS,x.nm,ny x.mx]) (Mem.dh mK (by exact .here) rfl rfl) (by simp) (rJ (by decide) hx.1 (eW _))
  dsimp only [Nat.reduceAdd]
  (refine aD (fun β=>(rE (.of rfl) (.of rfl) hb)) bG rfl ?_;refine aD (fun β=>(dw (.of rfl))) bG rfl ?_)
  refine gE fun β=>?_
  dsimp only [fq,Za,Zb,List.append_eq,Nat.reduceAdd]
  with_reducible refine dj (by kernel_rfl) ?_
  refine Jj<|Jt<|Jg<|JB rfl (by omega)<|Jv rfl<|Jn ?_
  apply aK (k+1,_) (show _∧_ from ⟨by omega,ko.symm⟩) (show r.sr.length-(k+1)<r.sr.length-k by omega)
  case hs1=>exact cd
  case ht=>
   exact .cons bN (.cons bN .nil)
 obtain rfl:k=r.sr.length:=by omega
 rw [List.take_length] at hS
 subst hS
 have hA:(ml A (r.sr.map L7)).size≤909:=by
  have:=mj (n:=101) (a:=A) (l:=r.sr.map L7) (by
   intro x hx
   obtain ⟨y,hy,rfl⟩:=List.mem_map.1 hx
   exact gq (by simp) (rJ (by decide) (hN.sr y hy).1 (eW _)))
  rw [Zd] at this
  have:=hN.len
  omega
 generalize ml A (r.sr.map L7)=A at hA ⊢
 clear aL hk
 (refine Jr<|JA rfl<|Jn<|Jq<|Jc rfl fun ar=>Jp<|Jl<|Jo<|Jt<|Jq<|Jr<|bF rfl rfl ae ?_;refine JL rfl (.there .here) rfl<|JI rfl<|Jv rfl<|Jn<|J0 ?_)
 refine aX (ι:=Nat×ByteArray) (fun y=>y.1≤r.de.length∧y.2=ml A ((r.de.take y.1).map Kz)) (fun y=>[(56,.int .i64 (y.1:Nat)),(55,.int .i64 r.de.length),(54,.slice a2 r.de.length cU),(6,.string y.2),(5,.pointer (some ⟨b5,0,none⟩)),(1,.pointer (some ⟨b1,0,none⟩))]) (fun _=>[bA b5 (.cells #[.string ⟨#[114,111,117,116,101,114]⟩,.func (.func 271) #[] #[],.string ⟨#[115,111,117,114,99,101]⟩,.func (.func 273) #[] #[],.string ⟨#[100,101,115,116,105,110,97,116,105,111,110]⟩,.func (.func 275) #[] #[],.string ⟨#[116,105,101]⟩,.func (.func 276) #[] #[],.string ⟨#[112,111,105,110,116]⟩,.func (.func 277) #[] #[]] 265 (0,0)),JP b1 r (.slice a1 r.sr.length dJ) (.slice a2 r.de.length cU) (.slice a3 r.ti.length dC) (.slice a4 r.po.length fS)]) (fun y=>r.de.length-y.1) ?_ ?_
 ·apply aJ (0,A) ⟨Zi _,rfl⟩
  case hs1=>exact cd
  case ht=>
   exact .cons .here (.cons .here .nil)
 rintro ⟨k,S⟩ ⟨hk,hS⟩
 dsimp only at hk hS ⊢
 by_cases aL:k<r.de.length
 ·have cE:=iW (gl aL)
  have aC:=(jq k _ (eX aL)).2
  have hx:=hN.de _ (Zj aL)
  have ko:=oW (a:=A) (f:=Kz) aL
  rw [← hS] at ko
  unfold De.cells at aC
  generalize r.de[k]=x at aC hx ko
  have hz:(Kz x).size≤101:=gq (by simp) (iO (by decide) hx.1 (eW _) (Cj _))
  have QG:S.size≤A.size+101*r.de.length:=by rw [hS];exact oX fun y hy=>gq (by simp) (iO (by decide) (hN.de y hy).1 (eW _) (Cj _))
  have UP:=hN.len
  have hb:S.size+(Kz x).size≤9223372036854775807:=by omega
  clear hz QG UP
  obtain ⟨xn,xm,xp⟩:=x
  dsimp only at aC hx ko hb ⊢
  cases xp
  ·(refine Jr<|JA rfl<|Jn<|Jq<|Jd rfl fun ar=>Jk<|Jq<|J0<|Jr<|ab (fH cE ar) rfl ?_;refine ab (iv (eF.base aC rfl)) rfl ?_;refine Jz rfl rfl fun _ _=>aq (.of rfl) (.of rfl) .here rfl rfl (fh rfl rfl rfl) (bC rfl) an ?_;refine Ji<|Ja rfl<|Jn<|Jq<|Jr<|bF rfl rfl ae ?_;refine JL rfl .here rfl<|Jn<|bL (.of rfl) ?_;refine Jk ?_)
   with_reducible refine eN 14 (by kernel_rfl) ?_
   (refine aD (fun β=>(aR (.of rfl))) bG rfl ?_;refine aD (fun β=>(gA (.of rfl) (.of rfl) (by omega) (by omega) ba)) bG rfl ?_;refine aD (fun β=>(ao (.of rfl) ae)) bG rfl ?_;refine aD (fun β=>(ag (.of rfl) (At.lit (.there .here) rfl))) bG rfl ?_;refine aD (fun β=>(ao (.of rfl) ae)) bG rfl ?_;refine aD (fun β=>(ag (.of rfl) (At.lit .here rfl))) bG rfl ?_;refine aD (fun β=>(ao (.of rfl) ae)) bG rfl ?_;refine aD (fun β=>(ag (.of rfl) (At.lit .here rfl))) bG rfl ?_)
   dsimp only [Nat.zero_add,Nat.reduceAdd]
   with_reducible apply cP (B:=[]) (F:=fun _=>.string (ny xm)) (args:=fun _=>[.int .i64 xm])
   case hB=>rfl
   case hr=>exact fun β=>bh (.of rfl) (.cons (.of rfl) .nil) inferInstance rfl
   case hi=>exact bG
   case hd=>rfl
   case hc=>exact fun β w' dy=>nW _ (by omega) (by omega) _
   dsimp only [Nat.reduceAdd]
   refine aD (fun β=>(aR (.of rfl))) bG rfl ?_
   refine mW (fun β=>(aA (.cons (.of rfl) (.cons (.of rfl) (.cons (.of rfl) (.cons (.of rfl) .nil)))) rfl rfl rfl rfl)) (fun _ _ _=>rfl) rfl ?_
   dsimp only [Nat.zero_add,Nat.reduceAdd]
   with_reducible apply cP (B:=[10]) (F:=fun _=>.string (Kz ⟨xn,xm,false⟩)) (args:=fun β=>[.slice (some ⟨fP (β 10),0,none⟩) 4 4])
   case hB=>kernel_rfl
   case hr=>exact fun β=>bh (.of rfl) (.cons (.of rfl) .nil) inferInstance rfl
   case hi=>exact bG
   case hd=>rfl
   case hc=>
    intro β w' dy
    have mK:=dy.at 10 List.mem_cons_self (s:=⟨fun β=>.slice (some ⟨fP (β 10),0,none⟩) 4 4,fun β=>[bA (fP (β 10)) (.cells #[.string wD,.string xn,.string (ny xm),.string Gm] 9)]⟩) (by kernel_rfl)
    dsimp only [Zb,Za] at mK
    exact rK (l:=[wD,xn,ny xm,Gm]) (Mem.dh mK (by exact .here) rfl rfl) (by simp) (iO (by decide) hx.1 (eW _) (by decide))
   dsimp only [Nat.reduceAdd]
   (refine aD (fun β=>(rE (.of rfl) (.of rfl) hb)) bG rfl ?_;refine aD (fun β=>(dw (.of rfl))) bG rfl ?_)
   refine gE fun β=>?_
   dsimp only [fq,Za,Zb,List.append_eq,Nat.reduceAdd]
   with_reducible refine dj (by kernel_rfl) ?_
   refine Jj<|Jt<|Jg<|JB rfl (by omega)<|Jv rfl<|Jn ?_
   apply aK (k+1,_) (show _∧_ from ⟨by omega,ko.symm⟩) (show r.de.length-(k+1)<r.de.length-k by omega)
   case hs1=>exact cd
   case ht=>
    exact .cons bN (.cons bN .nil)
  ·(refine Jr<|JA rfl<|Jn<|Jq<|Jd rfl fun ar=>Jk<|Jq<|J0<|Jr<|ab (fH cE ar) rfl ?_;refine ab (iv (eF.base aC rfl)) rfl ?_;refine Jz rfl rfl fun _ _=>aq (.of rfl) (.of rfl) .here rfl rfl (fh rfl rfl rfl) (bC rfl) an ?_;refine Ji<|Ja rfl<|Jn<|Jq<|Jr<|bF rfl rfl ae ?_;refine JL rfl .here rfl<|Jn<|cB (.of rfl) ?_;refine Jg<|Ja rfl<|Jn ?_)
   with_reducible refine eN 14 (by kernel_rfl) ?_
   (refine aD (fun β=>(aR (.of rfl))) bG rfl ?_;refine aD (fun β=>(gA (.of rfl) (.of rfl) (by omega) (by omega) ba)) bG rfl ?_;refine aD (fun β=>(ao (.of rfl) ae)) bG rfl ?_;refine aD (fun β=>(ag (.of rfl) (At.lit (.there .here) rfl))) bG rfl ?_;refine aD (fun β=>(ao (.of rfl) ae)) bG rfl ?_;refine aD (fun β=>(ag (.of rfl) (At.lit .here rfl))) bG rfl ?_;refine aD (fun β=>(ao (.of rfl) ae)) bG rfl ?_;refine aD (fun β=>(ag (.of rfl) (At.lit .here rfl))) bG rfl ?_)
   dsimp only [Nat.zero_add,Nat.reduceAdd]
   with_reducible apply cP (B:=[]) (F:=fun _=>.string (ny xm)) (args:=fun _=>[.int .i64 xm])
   case hB=>rfl
   case hr=>exact fun β=>bh (.of rfl) (.cons (.of rfl) .nil) inferInstance rfl
   case hi=>exact bG
   case hd=>rfl
   case hc=>exact fun β w' dy=>nW _ (by omega) (by omega) _
   dsimp only [Nat.reduceAdd]
   refine aD (fun β=>(aR (.of rfl))) bG rfl ?_
   refine mW (fun β=>(aA (.cons (.of rfl) (.cons (.of rfl) (.cons (.of rfl) (.cons (.of rfl) .nil)))) rfl rfl rfl rfl)) (fun _ _ _=>rfl) rfl ?_
   dsimp only [Nat.zero_add,Nat.reduceAdd]
   with_reducible apply cP (B:=[10]) (F:=fun _=>.string (Kz ⟨xn,xm,true⟩)) (args:=fun β=>[.slice (some ⟨fP (β 10),0,none⟩) 4 4])
   case hB=>kernel_rfl
   case hr=>exact fun β=>bh (.of rfl) (.cons (.of rfl) .nil) inferInstance rfl
   case hi=>exact bG
   case hd=>rfl
   case hc=>
    intro β w' dy
    have mK:=dy.at 10 List.mem_cons_self (s:=⟨fun β=>.slice (some ⟨fP (β 10),0,none⟩) 4 4,fun β=>[bA (fP (β 10)) (.cells #[.string wD,.string xn,.string (ny xm),.string Gl] 9)]⟩) (by kernel_rfl)
    dsimp only [Zb,Za] at mK
    exact rK (l:=[wD,xn,ny xm,Gl]) (Mem.dh mK (by exact .here) rfl rfl) (by simp) (iO (by decide) hx.1 (eW _) (by decide))
   dsimp only [Nat.reduceAdd]
   (refine aD (fun β=>(rE (.of rfl) (.of rfl) hb)) bG rfl ?_;refine aD (fun β=>(dw (.of rfl))) bG rfl ?_)
   refine gE fun β=>?_
   dsimp only [fq,Za,Zb,List.append_eq,Nat.reduceAdd]
   with_reducible refine dj (by kernel_rfl) ?_
   refine Jj<|Jt<|Jg<|JB rfl (by omega)<|Jv rfl<|Jn ?_
   apply aK (k+1,_) (show _∧_ from ⟨by omega,ko.symm⟩) (show r.de.length-(k+1)<r.de.length-k by omega)
   case hs1=>exact cd
   case ht=>
    exact .cons bN (.cons bN .nil)
 obtain rfl:k=r.de.length:=by omega
 rw [List.take_length] at hS
 subst hS
 have hA:(ml A (r.de.map Kz)).size≤1717:=by
  have:=mj (n:=101) (a:=A) (l:=r.de.map Kz) (by
   intro x hx
   obtain ⟨y,hy,rfl⟩:=List.mem_map.1 hx
   exact gq (by simp) (iO (by decide) (hN.de y hy).1 (eW _) (Cj _)))
  rw [Zd] at this
  have:=hN.len
  omega
 generalize ml A (r.de.map Kz)=A at hA ⊢
 clear aL hk
 (refine Jr<|JA rfl<|Jn<|Jq<|Jc rfl fun ar=>Jp<|Jl<|Jo<|Jt<|Jq<|Jr<|bF rfl rfl ae ?_;refine JL rfl (.there .here) rfl<|JI rfl<|Jv rfl<|Jn<|J0 ?_)
 refine aX (ι:=Nat×ByteArray) (fun y=>y.1≤r.ti.length∧y.2=ml A ((r.ti.take y.1).map L6)) (fun y=>[(79,.int .i64 (y.1:Nat)),(78,.int .i64 r.ti.length),(77,.slice a3 r.ti.length dC),(6,.string y.2),(5,.pointer (some ⟨b5,0,none⟩)),(1,.pointer (some ⟨b1,0,none⟩))]) (fun _=>[bA b5 (.cells #[.string ⟨#[114,111,117,116,101,114]⟩,.func (.func 271) #[] #[],.string ⟨#[115,111,117,114,99,101]⟩,.func (.func 273) #[] #[],.string ⟨#[100,101,115,116,105,110,97,116,105,111,110]⟩,.func (.func 275) #[] #[],.string ⟨#[116,105,101]⟩,.func (.func 276) #[] #[],.string ⟨#[112,111,105,110,116]⟩,.func (.func 277) #[] #[]] 265 (0,0)),JP b1 r (.slice a1 r.sr.length dJ) (.slice a2 r.de.length cU) (.slice a3 r.ti.length dC) (.slice a4 r.po.length fS)]) (fun y=>r.ti.length-y.1) ?_ ?_
 ·apply aJ (0,A) ⟨Zi _,rfl⟩
  case hs1=>exact cd
  case ht=>
   exact .cons .here (.cons .here .nil)
 rintro ⟨k,S⟩ ⟨hk,hS⟩
 dsimp only at hk hS ⊢
 by_cases aL:k<r.ti.length
 ·have cE:=qY (eT aL)
  have aC:=(oe k _ (dQ aL)).2
  have hx:=hN.ti _ (Zj aL)
  have ko:=oW (a:=A) (f:=L6) aL
  rw [← hS] at ko
  unfold Ti.cells at aC
  generalize r.ti[k]=x at aC hx ko
  have hz:(L6 x).size≤101:=gq (by simp) (iO (by decide) hx.1 (eW _) (eW _))
  have QG:S.size≤A.size+101*r.ti.length:=by rw [hS];exact oX fun y hy=>gq (by simp) (iO (by decide) (hN.ti y hy).1 (eW _) (eW _))
  have UP:=hN.len
  have hb:S.size+(L6 x).size≤9223372036854775807:=by omega
  (refine Jr<|JA rfl<|Jn<|Jq<|Jd rfl fun ar=>Jk<|Jq<|J0<|Jr<|ab (fH cE ar) rfl ?_;refine ab (iv (eF.base aC rfl)) rfl ?_;refine Jz rfl rfl fun _ _=>aq (.of rfl) (.of rfl) .here rfl rfl (fh rfl rfl rfl) (bC rfl) an ?_;refine Jn ?_)
  with_reducible refine eN 16 (by kernel_rfl) ?_
  (refine aD (fun β=>(aR (.of rfl))) bG rfl ?_;refine aD (fun β=>(gA (.of rfl) (.of rfl) (by omega) (by omega) ba)) bG rfl ?_;refine aD (fun β=>(ao (.of rfl) ae)) bG rfl ?_;refine aD (fun β=>(ag (.of rfl) (At.lit (.there .here) rfl))) bG rfl ?_;refine aD (fun β=>(ao (.of rfl) ae)) bG rfl ?_;refine aD (fun β=>(ag (.of rfl) (At.lit .here rfl))) bG rfl ?_;refine aD (fun β=>(ao (.of rfl) ae)) bG rfl ?_;refine aD (fun β=>(ag (.of rfl) (At.lit .here rfl))) bG rfl ?_)
  dsimp only [Nat.zero_add,Nat.reduceAdd]
  with_reducible apply cP (B:=[]) (F:=fun _=>.string (ny x.fr)) (args:=fun _=>[.int .i64 x.fr])
  case hB=>rfl
  case hr=>exact fun β=>bh (.of rfl) (.cons (.of rfl) .nil) inferInstance rfl
  case hi=>exact bG
  case hd=>rfl
  case hc=>exact fun β w' dy=>nW _ (by omega) (by omega) _
  dsimp only [Nat.reduceAdd]
  (refine aD (fun β=>(ao (.of rfl) ae)) bG rfl ?_;refine aD (fun β=>(ag (.of rfl) (At.lit .here rfl))) bG rfl ?_)
  dsimp only [Nat.zero_add,Nat.reduceAdd]
  with_reducible apply cP (B:=[]) (F:=fun _=>.string (ny x.to)) (args:=fun _=>[.int .i64 x.to])
  case hB=>rfl
  case hr=>exact fun β=>bh (.of rfl) (.cons (.of rfl) .nil) inferInstance rfl
  case hi=>exact bG
  case hd=>rfl
  case hc=>exact fun β w' dy=>nW _ (by omega) (by omega) _
  dsimp only [Nat.reduceAdd]
  skip
  refine mW (fun β=>(aA (.cons (.of rfl) (.cons (.of rfl) (.cons (.of rfl) (.cons (.of rfl) .nil)))) rfl rfl rfl rfl)) (fun _ _ _=>rfl) rfl ?_
  dsimp only [Nat.zero_add,Nat.reduceAdd]
  with_reducible apply cP (B:=[12]) (F:=fun _=>.string (L6 x)) (args:=fun β=>[.slice (some ⟨fP (β 12),0,none⟩) 4 4])
  case hB=>kernel_rfl
  case hr=>exact fun β=>bh (.of rfl) (.cons (.of rfl) .nil) inferInstance rfl
  case hi=>exact bG
  case hd=>rfl
  case hc=>
   intro β w' dy
   have mK:=dy.at 12 List.mem_cons_self (s:=⟨fun β=>.slice (some ⟨fP (β 12),0,none⟩) 4 4,fun β=>[bA (fP (β 12)) (.cells #[.string wT,.string x.nm,.string (ny x.fr),.string (ny x.to)] 9)]⟩) (by kernel_rfl)
   dsimp only [Zb,Za] at mK
   exact rK (l:=[wT,x.nm,ny x.fr,ny x.to]) (Mem.dh mK (by exact .here) rfl rfl) (by simp) (iO (by decide) hx.1 (eW _) (eW _))
  dsimp only [Nat.reduceAdd]
  (refine aD (fun β=>(rE (.of rfl) (.of rfl) hb)) bG rfl ?_;refine aD (fun β=>(dw (.of rfl))) bG rfl ?_)
  refine gE fun β=>?_
  dsimp only [fq,Za,Zb,List.append_eq,Nat.reduceAdd]
  with_reducible refine dj (by kernel_rfl) ?_
  refine Jj<|Jt<|Jg<|JB rfl (by omega)<|Jv rfl<|Jn ?_
  apply aK (k+1,_) (show _∧_ from ⟨by omega,ko.symm⟩) (show r.ti.length-(k+1)<r.ti.length-k by omega)
  case hs1=>exact cd
  case ht=>
   exact .cons bN (.cons bN .nil)
 obtain rfl:k=r.ti.length:=by omega
 rw [List.take_length] at hS
 subst hS
 have hA:(ml A (r.ti.map L6)).size≤2323:=by
  have:=mj (n:=101) (a:=A) (l:=r.ti.map L6) (by
   intro x hx
   obtain ⟨y,hy,rfl⟩:=List.mem_map.1 hx
   exact gq (by simp) (iO (by decide) (hN.ti y hy).1 (eW _) (eW _)))
  rw [Zd] at this
  have:=hN.len
  omega
 generalize ml A (r.ti.map L6)=A at hA ⊢
 clear aL hk
 (refine Jr<|JA rfl<|Jn<|Jq<|Jc rfl fun ar=>Jp<|Jl<|Jo<|Jt<|Jq<|Jr<|bF rfl rfl ae ?_;refine JL rfl (.there .here) rfl<|JI rfl<|Jv rfl<|Jn<|J0 ?_)
 refine aX (ι:=Nat×ByteArray) (fun y=>y.1≤r.po.length∧y.2=ml A ((r.po.take y.1).map Ru)) (fun y=>[(102,.int .i64 (y.1:Nat)),(101,.int .i64 r.po.length),(100,.slice a4 r.po.length fS),(6,.string y.2),(5,.pointer (some ⟨b5,0,none⟩)),(1,.pointer (some ⟨b1,0,none⟩))]) (fun _=>[bA b5 (.cells #[.string ⟨#[114,111,117,116,101,114]⟩,.func (.func 271) #[] #[],.string ⟨#[115,111,117,114,99,101]⟩,.func (.func 273) #[] #[],.string ⟨#[100,101,115,116,105,110,97,116,105,111,110]⟩,.func (.func 275) #[] #[],.string ⟨#[116,105,101]⟩,.func (.func 276) #[] #[],.string ⟨#[112,111,105,110,116]⟩,.func (.func 277) #[] #[]] 265 (0,0)),JP b1 r (.slice a1 r.sr.length dJ) (.slice a2 r.de.length cU) (.slice a3 r.ti.length dC) (.slice a4 r.po.length fS)]) (fun y=>r.po.length-y.1) ?_ ?_
 ·apply aJ (0,A) ⟨Zi _,rfl⟩
  case hs1=>exact cd
  case ht=>
   exact .cons .here (.cons .here .nil)
 rintro ⟨k,S⟩ ⟨hk,hS⟩
 dsimp only at hk hS ⊢
 by_cases aL:k<r.po.length
 ·have cE:=Gb (jZ aL)
  have aC:=(zg k _ (ib aL)).2
  have hx:=hN.po _ (Zj aL)
  have ko:=oW (a:=A) (f:=Ru) aL
  rw [← hS] at ko
  unfold Po.cells at aC
  generalize r.po[k]=x at aC hx ko
  have hz:(Ru x).size≤101:=gq (by simp) (iO (by decide) (eW _) hx.1.1 hx.1.2)
  have QG:S.size≤A.size+101*r.po.length:=by rw [hS];exact oX fun y hy=>gq (by simp) (iO (by decide) (eW _) (hN.po y hy).1.1 (hN.po y hy).1.2)
  have UP:=hN.len
  have hb:S.size+(Ru x).size≤9223372036854775807:=by omega
  (refine Jr<|JA rfl<|Jn<|Jq<|Jd rfl fun ar=>Jk<|Jq<|J0<|Jr<|ab (fH cE ar) rfl ?_;refine ab (iv (eF.base aC rfl)) rfl ?_;refine Jz rfl rfl fun _ _=>aq (.of rfl) (.of rfl) .here rfl rfl (fh rfl rfl rfl) (bC rfl) an ?_;refine Jn ?_)
  with_reducible refine eN 15 (by kernel_rfl) ?_
  (refine aD (fun β=>(aR (.of rfl))) bG rfl ?_;refine aD (fun β=>(gA (.of rfl) (.of rfl) (by omega) (by omega) ba)) bG rfl ?_;refine aD (fun β=>(ao (.of rfl) ae)) bG rfl ?_;refine aD (fun β=>(ag (.of rfl) (At.lit (.there .here) rfl))) bG rfl ?_;refine aD (fun β=>(ao (.of rfl) ae)) bG rfl ?_;refine aD (fun β=>(ag (.of rfl) (At.lit .here rfl))) bG rfl ?_)
  dsimp only [Nat.zero_add,Nat.reduceAdd]
  with_reducible apply cP (B:=[]) (F:=fun _=>.string (ny x.lv)) (args:=fun _=>[.int .i64 x.lv])
  case hB=>rfl
  case hr=>exact fun β=>bh (.of rfl) (.cons (.of rfl) .nil) inferInstance rfl
  case hi=>exact bG
  case hd=>rfl
  case hc=>exact fun β w' dy=>nW _ (by omega) (by omega) _
  dsimp only [Nat.reduceAdd]
  (refine aD (fun β=>(ao (.of rfl) ae)) bG rfl ?_;refine aD (fun β=>(ag (.of rfl) (At.lit .here rfl))) bG rfl ?_;refine aD (fun β=>(ao (.of rfl) ae)) bG rfl ?_;refine aD (fun β=>(ag (.of rfl) (At.lit .here rfl))) bG rfl ?_)
  refine mW (fun β=>(aA (.cons (.of rfl) (.cons (.of rfl) (.cons (.of rfl) (.cons (.of rfl) .nil)))) rfl rfl rfl rfl)) (fun _ _ _=>rfl) rfl ?_
  dsimp only [Nat.zero_add,Nat.reduceAdd]
  with_reducible apply cP (B:=[11]) (F:=fun _=>.string (Ru x)) (args:=fun β=>[.slice (some ⟨fP (β 11),0,none⟩) 4 4])
  case hB=>kernel_rfl
  case hr=>exact fun β=>bh (.of rfl) (.cons (.of rfl) .nil) inferInstance rfl
  case hi=>exact bG
  case hd=>rfl
  case hc=>
   intro β w' dy
   have mK:=dy.at 11 List.mem_cons_self (s:=⟨fun β=>.slice (some ⟨fP (β 11),0,none⟩) 4 4,fun β=>[bA (fP (β 11)) (.cells #[.string wP,.string (ny x.lv),.string x.ou,.string x.ip] 9)]⟩) (by kernel_rfl)
   dsimp only [Zb,Za] at mK
   exact rK (l:=[wP,ny x.lv,x.ou,x.ip]) (Mem.dh mK (by exact .here) rfl rfl) (by simp) (iO (by decide) (eW _) hx.1.1 hx.1.2)
  dsimp only [Nat.reduceAdd]
  (refine aD (fun β=>(rE (.of rfl) (.of rfl) hb)) bG rfl ?_;refine aD (fun β=>(dw (.of rfl))) bG rfl ?_)
  refine gE fun β=>?_
  dsimp only [fq,Za,Zb,List.append_eq,Nat.reduceAdd]
  with_reducible refine dj (by kernel_rfl) ?_
  refine Jj<|Jt<|Jg<|JB rfl (by omega)<|Jv rfl<|Jn ?_
  apply aK (k+1,_) (show _∧_ from ⟨by omega,ko.symm⟩) (show r.po.length-(k+1)<r.po.length-k by omega)
  case hs1=>exact cd
  case ht=>
   exact .cons bN (.cons bN .nil)
 obtain rfl:k=r.po.length:=by omega
 rw [List.take_length] at hS
 rw [← hS]
 refine Jr<|JA rfl<|Jn<|Jq<|Jc rfl fun ar=>Jp<|Jl<|Jo<|Jt<|Jr<|Jv rfl<|Ja rfl<|Ja rfl<|Jn<|Je<|oJ rfl (fF rfl rfl rfl) ?_
 rfl
def O3 (r:Ro) (x:Value×Value×Value×Value):List a8:=[row 118 2 x.1 r.sr.length (nH r.sr),row 88 3 x.2.1 r.de.length (lE r.de),row 122 3 x.2.2.1 r.ti.length (pC r.ti),row 180 3 x.2.2.2 r.po.length (jf r.po)]
def mX (r:Ro):Prop:=r.sr.length≤1000000∧r.de.length≤1000000∧r.ti.length≤1000000∧r.po.length≤1000000
theorem Sn {r:Ro} {s d t p:Value} {w:World} (h:RR w r s d t p) (cG:mX r):bd Tryz.prog 21 [RA r s d t p] w [] (fun _:Value×Value×Value×Value=>True) (fun x=>RA r x.1 x.2.1 x.2.2.1 x.2.2.2) (fun x=>tt r x):=by
 have h1:=Rd.one h.sr
 have h2:=Rd.one h.de
 have h3:=Rd.one h.ti
 have h4:=Rd.one h.po
 have A8:=h.sr
 have Bg:=h.de
 have wa:=h.ti
 have Ib:=h.po
 obtain ⟨a1,dJ,Gd,F6,rfl,ng,gr,kF,jJ⟩:=A8
 obtain ⟨a2,cU,Gc,F5,rfl,jt,eA,iW,jq⟩:=Bg
 obtain ⟨a3,dC,FY,Fg,rfl,lC,fD,qY,oe⟩:=wa
 obtain ⟨a4,fS,Uf,Pw,rfl,xF,mc,Gb,zg⟩:=Ib
 rw [cu] at *
 rw [bU] at *
 rw [bJ] at *
 rw [cN] at *
 unfold maxLen at gr eA fD mc
 obtain ⟨f1,f2,f3,f4⟩:=cG
 unfold RA
 refine aQ Tryz.func21 rfl rfl ?_
 (refine Jr<|Jy rfl rfl fun _ _=>Jz rfl rfl fun _ _=>Ji<|bF rfl rfl ae ?_;refine JL rfl (.there .here) rfl<|bF rfl rfl ae ?_;refine JL rfl (.there .here) rfl<|ab (aU (.cons (.of rfl) (.cons (.of rfl) .nil)) an) rfl ?_;refine Jz rfl rfl fun _ _=>aq (.of rfl) (.of rfl) .here rfl rfl (iu rfl rfl rfl rfl rfl rfl) (bC rfl) an ?_;refine Jn<|Jq<|Jr<|bF rfl rfl ae ?_;refine JL rfl bN rfl<|JI rfl<|Jv rfl<|Jn<|J0 ?_)
 rename_i b1 sH b2 tb b3 sZ
 refine aP 186 2 ?_
 refine aX (ι:=Nat×Option Addr×Nat) (fun y=>y.1≤r.sr.length) (fun y=>[(20,.int .i64 (y.1:Nat)),(19,.int .i64 r.sr.length),(18,.slice a1 r.sr.length dJ),(3,.pointer (some ⟨b3,0,none⟩)),(2,.pointer (some ⟨b2,0,none⟩)),(1,.pointer (some ⟨b1,0,none⟩))]) (fun y=>[row 186 2 (.slice y.2.1 y.1 y.2.2) y.1 (nH (r.sr.take y.1)),JP b3 r (.slice y.2.1 y.1 y.2.2) (.slice none 0 0) (.slice none 0 0) (.slice none 0 0),bA b2 (.cells #[.int .i64 0,.int .i64 0,.slice none 0 0,.slice none 0 0,.slice none 0 0,.slice none 0 0] 41 (0,0)),JQ b1 r (.slice a1 r.sr.length dJ) (.slice a2 r.de.length cU) (.slice a3 r.ti.length dC) (.slice a4 r.po.length fS)]) (fun y=>r.sr.length-y.1) ?_ ?_
 ·apply aJ (0,none,0) (Zi _)
  case hs1=>exact cd
  case ht=>
   exact .cons .here (.cons .here (.cons .here (.cons .here .nil)))
 rintro ⟨k,g1,q6⟩ hk
 dsimp only at hk ⊢
 by_cases aL:k<r.sr.length
 ·have cE:=kF (gB aL)
  have aC:=(jJ k _ (fm aL)).2
  have a7:=Ah aL
  have hlen:(nH (r.sr.take k)).length=k*2:=by rw [DJ,List.length_take];omega
  unfold Sr.cells at aC a7
  generalize r.sr[k]=x at aC a7
  (refine Jr<|JA rfl<|Jn<|Jq<|Jd rfl fun ar=>Jk<|Jq<|J0<|Jr<|ab (fH cE ar) rfl ?_;refine ab (iv (eF.base aC rfl)) rfl ?_;refine Jz rfl rfl fun _ _=>aq (.of rfl) (.of rfl) .here rfl rfl (gF rfl rfl) (bC rfl) an ?_;refine Jn<|Jg<|bF rfl rfl ae ?_;refine JL rfl bN rfl<|ab (cz .here) rfl ?_;refine bb (br (.cons (.of rfl) .nil) rfl rfl bM bM an) rfl fun _ _=>?_)
  refine bB (.of rfl) (.of rfl) bN .here an (by rfl) (gF rfl rfl) (by rfl) (by rfl) (by rfl) eH (by rfl) ?_
  intro v'
  refine aY (v:=v') (by exact .here) fun gx cx e=>?_
  subst e
  (refine bF rfl rfl ae ?_;refine aq (.of rfl) (.of rfl) cX rfl rfl (ed rfl) (bC rfl) an ?_;refine Jx<|Jj<|Jt<|Jg<|JB rfl (by omega)<|Jv rfl<|Jn ?_)
  apply aK (k+1,gx,cx) (by show k+1≤r.sr.length;omega) (by show r.sr.length-(k+1)<r.sr.length-k;omega)
  case hs1=>exact cd
  case ht=>
   show bo _ [row 186 2 (.slice gx (k+1) cx) (k+1) (nH (r.sr.take (k+1))),JP b3 r (.slice gx (k+1) cx) (.slice none 0 0) (.slice none 0 0) (.slice none 0 0),bA b2 (.cells #[.int .i64 0,.int .i64 0,.slice none 0 0,.slice none 0 0,.slice none 0 0,.slice none 0 0] 41 (0,0)),JQ b1 r (.slice a1 r.sr.length dJ) (.slice a2 r.de.length cU) (.slice a3 r.ti.length dC) (.slice a4 r.po.length fS)] _
   rw [a7]
   exact .cons (.there .here) (.cons .here (.cons bN (.cons bN .nil)))
 obtain rfl:k=r.sr.length:=by omega
 rw [List.take_length]
 clear hk aL
 (refine Jr<|JA rfl<|Jn<|Jq<|Jc rfl fun ar=>Jp<|Jl<|Jo<|Jt<|Jq<|Jr<|bF rfl rfl ae ?_;refine JL rfl cX rfl<|JI rfl<|Jv rfl<|Jn<|J0 ?_)
 refine aP 90 3 ?_
 refine aX (ι:=Nat×Option Addr×Nat) (fun y=>y.1≤r.de.length) (fun y=>[(34,.int .i64 (y.1:Nat)),(33,.int .i64 r.de.length),(32,.slice a2 r.de.length cU),(3,.pointer (some ⟨b3,0,none⟩)),(2,.pointer (some ⟨b2,0,none⟩)),(1,.pointer (some ⟨b1,0,none⟩))]) (fun y=>[row 90 3 (.slice y.2.1 y.1 y.2.2) y.1 (lE (r.de.take y.1)),row 186 2 (.slice g1 r.sr.length q6) r.sr.length (nH r.sr),JP b3 r (.slice g1 r.sr.length q6) (.slice y.2.1 y.1 y.2.2) (.slice none 0 0) (.slice none 0 0),bA b2 (.cells #[.int .i64 0,.int .i64 0,.slice none 0 0,.slice none 0 0,.slice none 0 0,.slice none 0 0] 41 (0,0)),JQ b1 r (.slice a1 r.sr.length dJ) (.slice a2 r.de.length cU) (.slice a3 r.ti.length dC) (.slice a4 r.po.length fS)]) (fun y=>r.de.length-y.1) ?_ ?_
 ·apply aJ (0,none,0) (Zi _)
  case hs1=>exact cd
  case ht=>
   exact .cons .here (.cons .here (.cons .here (.cons .here (.cons .here .nil))))
 rintro ⟨k,g2,wi⟩ hk
 dsimp only at hk ⊢
 by_cases aL:k<r.de.length
 ·have cE:=iW (gl aL)
  have aC:=(jq k _ (eX aL)).2
  have a7:=Bv aL
  have hlen:(lE (r.de.take k)).length=k*3:=by rw [Ez,List.length_take];omega
  unfold De.cells at aC a7
  generalize r.de[k]=x at aC a7
  (refine Jr<|JA rfl<|Jn<|Jq<|Jd rfl fun ar=>Jk<|Jq<|J0<|Jr<|ab (fH cE ar) rfl ?_;refine ab (iv (eF.base aC rfl)) rfl ?_;refine Jz rfl rfl fun _ _=>aq (.of rfl) (.of rfl) .here rfl rfl (fh rfl rfl rfl) (bC rfl) an ?_;refine Jn<|Jg<|bF rfl rfl ae ?_;refine JL rfl cX rfl<|ab (cz .here) rfl ?_;refine bb (br (.cons (.of rfl) .nil) rfl rfl bM bM an) rfl fun _ _=>?_)
  refine bB (.of rfl) (.of rfl) bN .here an (by rfl) (fh rfl rfl rfl) (by rfl) (by rfl) (by rfl) eH (by rfl) ?_
  intro v'
  refine aY (v:=v') (by exact .here) fun gx cx e=>?_
  subst e
  (refine bF rfl rfl ae ?_;refine aq (.of rfl) (.of rfl) eR rfl rfl (ed rfl) (bC rfl) an ?_;refine Jx<|Jj<|Jt<|Jg<|JB rfl (by omega)<|Jv rfl<|Jn ?_)
  apply aK (k+1,gx,cx) (by show k+1≤r.de.length;omega) (by show r.de.length-(k+1)<r.de.length-k;omega)
  case hs1=>exact cd
  case ht=>
   show bo _ [row 90 3 (.slice gx (k+1) cx) (k+1) (lE (r.de.take (k+1))),row 186 2 (.slice g1 r.sr.length q6) r.sr.length (nH r.sr),JP b3 r (.slice g1 r.sr.length q6) (.slice gx (k+1) cx) (.slice none 0 0) (.slice none 0 0),bA b2 (.cells #[.int .i64 0,.int .i64 0,.slice none 0 0,.slice none 0 0,.slice none 0 0,.slice none 0 0] 41 (0,0)),JQ b1 r (.slice a1 r.sr.length dJ) (.slice a2 r.de.length cU) (.slice a3 r.ti.length dC) (.slice a4 r.po.length fS)] _
   rw [a7]
   exact .cons (.there .here) (.cons cX (.cons .here (.cons bN (.cons bN .nil))))
 obtain rfl:k=r.de.length:=by omega
 rw [List.take_length]
 clear hk aL
 (refine Jr<|JA rfl<|Jn<|Jq<|Jc rfl fun ar=>Jp<|Jl<|Jo<|Jt<|Jq<|Jr<|bF rfl rfl ae ?_;refine JL rfl eR rfl<|JI rfl<|Jv rfl<|Jn<|J0 ?_)
 refine aP 187 3 ?_
 refine aX (ι:=Nat×Option Addr×Nat) (fun y=>y.1≤r.ti.length) (fun y=>[(48,.int .i64 (y.1:Nat)),(47,.int .i64 r.ti.length),(46,.slice a3 r.ti.length dC),(3,.pointer (some ⟨b3,0,none⟩)),(2,.pointer (some ⟨b2,0,none⟩)),(1,.pointer (some ⟨b1,0,none⟩))]) (fun y=>[row 187 3 (.slice y.2.1 y.1 y.2.2) y.1 (pC (r.ti.take y.1)),row 90 3 (.slice g2 r.de.length wi) r.de.length (lE r.de),row 186 2 (.slice g1 r.sr.length q6) r.sr.length (nH r.sr),JP b3 r (.slice g1 r.sr.length q6) (.slice g2 r.de.length wi) (.slice y.2.1 y.1 y.2.2) (.slice none 0 0),bA b2 (.cells #[.int .i64 0,.int .i64 0,.slice none 0 0,.slice none 0 0,.slice none 0 0,.slice none 0 0] 41 (0,0)),JQ b1 r (.slice a1 r.sr.length dJ) (.slice a2 r.de.length cU) (.slice a3 r.ti.length dC) (.slice a4 r.po.length fS)]) (fun y=>r.ti.length-y.1) ?_ ?_
 ·apply aJ (0,none,0) (Zi _)
  case hs1=>exact cd
  case ht=>
   exact .cons .here (.cons .here (.cons .here (.cons .here (.cons .here (.cons .here .nil)))))
 rintro ⟨k,g3,FI⟩ hk
 dsimp only at hk ⊢
 by_cases aL:k<r.ti.length
 ·have cE:=qY (eT aL)
  have aC:=(oe k _ (dQ aL)).2
  have a7:=Af aL
  have hlen:(pC (r.ti.take k)).length=k*3:=by rw [DF,List.length_take];omega
  unfold Ti.cells at aC a7
  generalize r.ti[k]=x at aC a7
  (refine Jr<|JA rfl<|Jn<|Jq<|Jd rfl fun ar=>Jk<|Jq<|J0<|Jr<|ab (fH cE ar) rfl ?_;refine ab (iv (eF.base aC rfl)) rfl ?_;refine Jz rfl rfl fun _ _=>aq (.of rfl) (.of rfl) .here rfl rfl (fh rfl rfl rfl) (bC rfl) an ?_;refine Jn<|Jg<|bF rfl rfl ae ?_;refine JL rfl eR rfl<|ab (cz .here) rfl ?_;refine bb (br (.cons (.of rfl) .nil) rfl rfl bM bM an) rfl fun _ _=>?_)
  refine bB (.of rfl) (.of rfl) bN .here an (by rfl) (fh rfl rfl rfl) (by rfl) (by rfl) (by rfl) eH (by rfl) ?_
  intro v'
  refine aY (v:=v') (by exact .here) fun gx cx e=>?_
  subst e
  (refine bF rfl rfl ae ?_;refine aq (.of rfl) (.of rfl) fg rfl rfl (ed rfl) (bC rfl) an ?_;refine Jx<|Jj<|Jt<|Jg<|JB rfl (by omega)<|Jv rfl<|Jn ?_)
  apply aK (k+1,gx,cx) (by show k+1≤r.ti.length;omega) (by show r.ti.length-(k+1)<r.ti.length-k;omega)
  case hs1=>exact cd
  case ht=>
   show bo _ [row 187 3 (.slice gx (k+1) cx) (k+1) (pC (r.ti.take (k+1))),row 90 3 (.slice g2 r.de.length wi) r.de.length (lE r.de),row 186 2 (.slice g1 r.sr.length q6) r.sr.length (nH r.sr),JP b3 r (.slice g1 r.sr.length q6) (.slice g2 r.de.length wi) (.slice gx (k+1) cx) (.slice none 0 0),bA b2 (.cells #[.int .i64 0,.int .i64 0,.slice none 0 0,.slice none 0 0,.slice none 0 0,.slice none 0 0] 41 (0,0)),JQ b1 r (.slice a1 r.sr.length dJ) (.slice a2 r.de.length cU) (.slice a3 r.ti.length dC) (.slice a4 r.po.length fS)] _
   rw [a7]
   exact .cons (.there .here) (.cons cX (.cons cX (.cons .here (.cons bN (.cons bN .nil)))))
 obtain rfl:k=r.ti.length:=by omega
 rw [List.take_length]
 clear hk aL
 (refine Jr<|JA rfl<|Jn<|Jq<|Jc rfl fun ar=>Jp<|Jl<|Jo<|Jt<|Jq<|Jr<|bF rfl rfl ae ?_;refine JL rfl fg rfl<|JI rfl<|Jv rfl<|Jn<|J0 ?_)
 refine aP 188 3 ?_
 refine aX (ι:=Nat×Option Addr×Nat) (fun y=>y.1≤r.po.length) (fun y=>[(62,.int .i64 (y.1:Nat)),(61,.int .i64 r.po.length),(60,.slice a4 r.po.length fS),(3,.pointer (some ⟨b3,0,none⟩)),(2,.pointer (some ⟨b2,0,none⟩)),(1,.pointer (some ⟨b1,0,none⟩))]) (fun y=>[row 188 3 (.slice y.2.1 y.1 y.2.2) y.1 (jf (r.po.take y.1)),row 187 3 (.slice g3 r.ti.length FI) r.ti.length (pC r.ti),row 90 3 (.slice g2 r.de.length wi) r.de.length (lE r.de),row 186 2 (.slice g1 r.sr.length q6) r.sr.length (nH r.sr),JP b3 r (.slice g1 r.sr.length q6) (.slice g2 r.de.length wi) (.slice g3 r.ti.length FI) (.slice y.2.1 y.1 y.2.2),bA b2 (.cells #[.int .i64 0,.int .i64 0,.slice none 0 0,.slice none 0 0,.slice none 0 0,.slice none 0 0] 41 (0,0)),JQ b1 r (.slice a1 r.sr.length dJ) (.slice a2 r.de.length cU) (.slice a3 r.ti.length dC) (.slice a4 r.po.length fS)]) (fun y=>r.po.length-y.1) ?_ ?_
 ·apply aJ (0,none,0) (Zi _)
  case hs1=>exact cd
  case ht=>
   exact .cons .here (.cons .here (.cons .here (.cons .here (.cons .here (.cons .here (.cons .here .nil))))))
 rintro ⟨k,g4,TT⟩ hk
 dsimp only at hk ⊢
 by_cases aL:k<r.po.length
 ·have cE:=Gb (jZ aL)
  have aC:=(zg k _ (ib aL)).2
  have a7:=AL aL
  have hlen:(jf (r.po.take k)).length=k*3:=by rw [ji,List.length_take];omega
  unfold Po.cells at aC a7
  generalize r.po[k]=x at aC a7
  (refine Jr<|JA rfl<|Jn<|Jq<|Jd rfl fun ar=>Jk<|Jq<|J0<|Jr<|ab (fH cE ar) rfl ?_;refine ab (iv (eF.base aC rfl)) rfl ?_;refine Jz rfl rfl fun _ _=>aq (.of rfl) (.of rfl) .here rfl rfl (fh rfl rfl rfl) (bC rfl) an ?_;refine Jn<|Jg<|bF rfl rfl ae ?_;refine JL rfl fg rfl<|ab (cz .here) rfl ?_;refine bb (br (.cons (.of rfl) .nil) rfl rfl bM bM an) rfl fun _ _=>?_)
  refine bB (.of rfl) (.of rfl) bN .here an (by rfl) (fh rfl rfl rfl) (by rfl) (by rfl) (by rfl) eH (by rfl) ?_
  intro v'
  refine aY (v:=v') (by exact .here) fun gx cx e=>?_
  subst e
  (refine bF rfl rfl ae ?_;refine aq (.of rfl) (.of rfl) qm rfl rfl (ed rfl) (bC rfl) an ?_;refine Jx<|Jj<|Jt<|Jg<|JB rfl (by omega)<|Jv rfl<|Jn ?_)
  apply aK (k+1,gx,cx) (by show k+1≤r.po.length;omega) (by show r.po.length-(k+1)<r.po.length-k;omega)
  case hs1=>exact cd
  case ht=>
   show bo _ [row 188 3 (.slice gx (k+1) cx) (k+1) (jf (r.po.take (k+1))),row 187 3 (.slice g3 r.ti.length FI) r.ti.length (pC r.ti),row 90 3 (.slice g2 r.de.length wi) r.de.length (lE r.de),row 186 2 (.slice g1 r.sr.length q6) r.sr.length (nH r.sr),JP b3 r (.slice g1 r.sr.length q6) (.slice g2 r.de.length wi) (.slice g3 r.ti.length FI) (.slice gx (k+1) cx),bA b2 (.cells #[.int .i64 0,.int .i64 0,.slice none 0 0,.slice none 0 0,.slice none 0 0,.slice none 0 0] 41 (0,0)),JQ b1 r (.slice a1 r.sr.length dJ) (.slice a2 r.de.length cU) (.slice a3 r.ti.length dC) (.slice a4 r.po.length fS)] _
   rw [a7]
   exact .cons (.there .here) (.cons cX (.cons cX (.cons cX (.cons .here (.cons bN (.cons bN .nil))))))
 obtain rfl:k=r.po.length:=by omega
 rw [List.take_length]
 clear hk aL
 (refine Jr<|JA rfl<|Jn<|Jq<|Jc rfl fun ar=>Jp<|Jl<|Jo<|Jt<|Jr<|ab (cz eR) rfl ?_;refine aq (.of rfl) (.of rfl) fg rfl rfl (iu rfl rfl rfl rfl rfl rfl) (bC rfl) an ?_;refine Jn<|Je ?_)
 first | with_reducible apply aM | with_reducible apply aN
 case he=>exact kq rfl inferInstance rfl .here an (by rfl)
 case hR=>
  intro w' au
  exact aB (.slice g1 r.sr.length q6,.slice g2 r.de.length wi,.slice g3 r.ti.length FI,.slice g4 r.po.length TT) trivial (by exact .cons eR (.cons cX (.cons bN (.cons (.there .here) .nil)))) au rfl
theorem GG {r:Ro} {s d t p:Value} {w:World} (h:RR w r s d t p) (cG:mX r):bd Tryz.prog 57 [RA r s d t p] w [] (fun _:Value×Value×Value×Value=>True) (fun x=>RA r x.1 x.2.1 x.2.2.1 x.2.2.2) (fun x=>O3 r x):=by
 have h1:=Rd.one h.sr
 have h2:=Rd.one h.de
 have h3:=Rd.one h.ti
 have h4:=Rd.one h.po
 have A8:=h.sr
 have Bg:=h.de
 have wa:=h.ti
 have Ib:=h.po
 obtain ⟨a1,dJ,Gd,F6,rfl,ng,gr,kF,jJ⟩:=A8
 obtain ⟨a2,cU,Gc,F5,rfl,jt,eA,iW,jq⟩:=Bg
 obtain ⟨a3,dC,FY,Fg,rfl,lC,fD,qY,oe⟩:=wa
 obtain ⟨a4,fS,Uf,Pw,rfl,xF,mc,Gb,zg⟩:=Ib
 rw [cu] at *
 rw [bU] at *
 rw [bJ] at *
 rw [cN] at *
 unfold maxLen at gr eA fD mc
 obtain ⟨f1,f2,f3,f4⟩:=cG
 unfold RA
 refine aQ Tryz.func57 rfl rfl ?_
 (refine Jr<|Jy rfl rfl fun _ _=>Jz rfl rfl fun _ _=>Ji<|bF rfl rfl ae ?_;refine JL rfl (.there .here) rfl<|bF rfl rfl ae ?_;refine JL rfl (.there .here) rfl<|ab (aU (.cons (.of rfl) (.cons (.of rfl) .nil)) an) rfl ?_;refine Jz rfl rfl fun _ _=>aq (.of rfl) (.of rfl) .here rfl rfl (iu rfl rfl rfl rfl rfl rfl) (bC rfl) an ?_;refine Jn<|Jq<|Jr<|bF rfl rfl ae ?_;refine JL rfl bN rfl<|JI rfl<|Jv rfl<|Jn<|J0 ?_)
 rename_i b1 sH b2 tb b3 sZ
 refine aP 118 2 ?_
 refine aX (ι:=Nat×Option Addr×Nat) (fun y=>y.1≤r.sr.length) (fun y=>[(20,.int .i64 (y.1:Nat)),(19,.int .i64 r.sr.length),(18,.slice a1 r.sr.length dJ),(3,.pointer (some ⟨b3,0,none⟩)),(2,.pointer (some ⟨b2,0,none⟩)),(1,.pointer (some ⟨b1,0,none⟩))]) (fun y=>[row 118 2 (.slice y.2.1 y.1 y.2.2) y.1 (nH (r.sr.take y.1)),JQ b3 r (.slice y.2.1 y.1 y.2.2) (.slice none 0 0) (.slice none 0 0) (.slice none 0 0),bA b2 (.cells #[.int .i64 0,.int .i64 0,.slice none 0 0,.slice none 0 0,.slice none 0 0,.slice none 0 0] 27 (0,0)),JP b1 r (.slice a1 r.sr.length dJ) (.slice a2 r.de.length cU) (.slice a3 r.ti.length dC) (.slice a4 r.po.length fS)]) (fun y=>r.sr.length-y.1) ?_ ?_
 ·apply aJ (0,none,0) (Zi _)
  case hs1=>exact cd
  case ht=>
   exact .cons .here (.cons .here (.cons .here (.cons .here .nil)))
 rintro ⟨k,g1,q6⟩ hk
 dsimp only at hk ⊢
 by_cases aL:k<r.sr.length
 ·have cE:=kF (gB aL)
  have aC:=(jJ k _ (fm aL)).2
  have a7:=Ah aL
  have hlen:(nH (r.sr.take k)).length=k*2:=by rw [DJ,List.length_take];omega
  unfold Sr.cells at aC a7
  generalize r.sr[k]=x at aC a7
  (refine Jr<|JA rfl<|Jn<|Jq<|Jd rfl fun ar=>Jk<|Jq<|J0<|Jr<|ab (fH cE ar) rfl ?_;refine ab (iv (eF.base aC rfl)) rfl ?_;refine Jz rfl rfl fun _ _=>aq (.of rfl) (.of rfl) .here rfl rfl (gF rfl rfl) (bC rfl) an ?_;refine Jn<|Jg<|bF rfl rfl ae ?_;refine JL rfl bN rfl<|ab (cz .here) rfl ?_;refine bb (br (.cons (.of rfl) .nil) rfl rfl bM bM an) rfl fun _ _=>?_)
  refine bB (.of rfl) (.of rfl) bN .here an (by rfl) (gF rfl rfl) (by rfl) (by rfl) (by rfl) eH (by rfl) ?_
  intro v'
  refine aY (v:=v') (by exact .here) fun gx cx e=>?_
  subst e
  (refine bF rfl rfl ae ?_;refine aq (.of rfl) (.of rfl) cX rfl rfl (ed rfl) (bC rfl) an ?_;refine Jx<|Jj<|Jt<|Jg<|JB rfl (by omega)<|Jv rfl<|Jn ?_)
  apply aK (k+1,gx,cx) (by show k+1≤r.sr.length;omega) (by show r.sr.length-(k+1)<r.sr.length-k;omega)
  case hs1=>exact cd
  case ht=>
   show bo _ [row 118 2 (.slice gx (k+1) cx) (k+1) (nH (r.sr.take (k+1))),JQ b3 r (.slice gx (k+1) cx) (.slice none 0 0) (.slice none 0 0) (.slice none 0 0),bA b2 (.cells #[.int .i64 0,.int .i64 0,.slice none 0 0,.slice none 0 0,.slice none 0 0,.slice none 0 0] 27 (0,0)),JP b1 r (.slice a1 r.sr.length dJ) (.slice a2 r.de.length cU) (.slice a3 r.ti.length dC) (.slice a4 r.po.length fS)] _
   rw [a7]
   exact .cons (.there .here) (.cons .here (.cons bN (.cons bN .nil)))
 obtain rfl:k=r.sr.length:=by omega
 rw [List.take_length]
 clear hk aL
 (refine Jr<|JA rfl<|Jn<|Jq<|Jc rfl fun ar=>Jp<|Jl<|Jo<|Jt<|Jq<|Jr<|bF rfl rfl ae ?_;refine JL rfl cX rfl<|JI rfl<|Jv rfl<|Jn<|J0 ?_)
 refine aP 88 3 ?_
 refine aX (ι:=Nat×Option Addr×Nat) (fun y=>y.1≤r.de.length) (fun y=>[(34,.int .i64 (y.1:Nat)),(33,.int .i64 r.de.length),(32,.slice a2 r.de.length cU),(3,.pointer (some ⟨b3,0,none⟩)),(2,.pointer (some ⟨b2,0,none⟩)),(1,.pointer (some ⟨b1,0,none⟩))]) (fun y=>[row 88 3 (.slice y.2.1 y.1 y.2.2) y.1 (lE (r.de.take y.1)),row 118 2 (.slice g1 r.sr.length q6) r.sr.length (nH r.sr),JQ b3 r (.slice g1 r.sr.length q6) (.slice y.2.1 y.1 y.2.2) (.slice none 0 0) (.slice none 0 0),bA b2 (.cells #[.int .i64 0,.int .i64 0,.slice none 0 0,.slice none 0 0,.slice none 0 0,.slice none 0 0] 27 (0,0)),JP b1 r (.slice a1 r.sr.length dJ) (.slice a2 r.de.length cU) (.slice a3 r.ti.length dC) (.slice a4 r.po.length fS)]) (fun y=>r.de.length-y.1) ?_ ?_
 ·apply aJ (0,none,0) (Zi _)
  case hs1=>exact cd
  case ht=>
   exact .cons .here (.cons .here (.cons .here (.cons .here (.cons .here .nil))))
 rintro ⟨k,g2,wi⟩ hk
 dsimp only at hk ⊢
 by_cases aL:k<r.de.length
 ·have cE:=iW (gl aL)
  have aC:=(jq k _ (eX aL)).2
  have a7:=Bv aL
  have hlen:(lE (r.de.take k)).length=k*3:=by rw [Ez,List.length_take];omega
  unfold De.cells at aC a7
  generalize r.de[k]=x at aC a7
  (refine Jr<|JA rfl<|Jn<|Jq<|Jd rfl fun ar=>Jk<|Jq<|J0<|Jr<|ab (fH cE ar) rfl ?_;refine ab (iv (eF.base aC rfl)) rfl ?_;refine Jz rfl rfl fun _ _=>aq (.of rfl) (.of rfl) .here rfl rfl (fh rfl rfl rfl) (bC rfl) an ?_;refine Jn<|Jg<|bF rfl rfl ae ?_;refine JL rfl cX rfl<|ab (cz .here) rfl ?_;refine bb (br (.cons (.of rfl) .nil) rfl rfl bM bM an) rfl fun _ _=>?_)
  refine bB (.of rfl) (.of rfl) bN .here an (by rfl) (fh rfl rfl rfl) (by rfl) (by rfl) (by rfl) eH (by rfl) ?_
  intro v'
  refine aY (v:=v') (by exact .here) fun gx cx e=>?_
  subst e
  (refine bF rfl rfl ae ?_;refine aq (.of rfl) (.of rfl) eR rfl rfl (ed rfl) (bC rfl) an ?_;refine Jx<|Jj<|Jt<|Jg<|JB rfl (by omega)<|Jv rfl<|Jn ?_)
  apply aK (k+1,gx,cx) (by show k+1≤r.de.length;omega) (by show r.de.length-(k+1)<r.de.length-k;omega)
  case hs1=>exact cd
  case ht=>
   show bo _ [row 88 3 (.slice gx (k+1) cx) (k+1) (lE (r.de.take (k+1))),row 118 2 (.slice g1 r.sr.length q6) r.sr.length (nH r.sr),JQ b3 r (.slice g1 r.sr.length q6) (.slice gx (k+1) cx) (.slice none 0 0) (.slice none 0 0),bA b2 (.cells #[.int .i64 0,.int .i64 0,.slice none 0 0,.slice none 0 0,.slice none 0 0,.slice none 0 0] 27 (0,0)),JP b1 r (.slice a1 r.sr.length dJ) (.slice a2 r.de.length cU) (.slice a3 r.ti.length dC) (.slice a4 r.po.length fS)] _
   rw [a7]
   exact .cons (.there .here) (.cons cX (.cons .here (.cons bN (.cons bN .nil))))
 obtain rfl:k=r.de.length:=by omega
 rw [List.take_length]
 clear hk aL
 (refine Jr<|JA rfl<|Jn<|Jq<|Jc rfl fun ar=>Jp<|Jl<|Jo<|Jt<|Jq<|Jr<|bF rfl rfl ae ?_;refine JL rfl eR rfl<|JI rfl<|Jv rfl<|Jn<|J0 ?_)
 refine aP 122 3 ?_
 refine aX (ι:=Nat×Option Addr×Nat) (fun y=>y.1≤r.ti.length) (fun y=>[(48,.int .i64 (y.1:Nat)),(47,.int .i64 r.ti.length),(46,.slice a3 r.ti.length dC),(3,.pointer (some ⟨b3,0,none⟩)),(2,.pointer (some ⟨b2,0,none⟩)),(1,.pointer (some ⟨b1,0,none⟩))]) (fun y=>[row 122 3 (.slice y.2.1 y.1 y.2.2) y.1 (pC (r.ti.take y.1)),row 88 3 (.slice g2 r.de.length wi) r.de.length (lE r.de),row 118 2 (.slice g1 r.sr.length q6) r.sr.length (nH r.sr),JQ b3 r (.slice g1 r.sr.length q6) (.slice g2 r.de.length wi) (.slice y.2.1 y.1 y.2.2) (.slice none 0 0),bA b2 (.cells #[.int .i64 0,.int .i64 0,.slice none 0 0,.slice none 0 0,.slice none 0 0,.slice none 0 0] 27 (0,0)),JP b1 r (.slice a1 r.sr.length dJ) (.slice a2 r.de.length cU) (.slice a3 r.ti.length dC) (.slice a4 r.po.length fS)]) (fun y=>r.ti.length-y.1) ?_ ?_
 ·apply aJ (0,none,0) (Zi _)
  case hs1=>exact cd
  case ht=>
   exact .cons .here (.cons .here (.cons .here (.cons .here (.cons .here (.cons .here .nil)))))
 rintro ⟨k,g3,FI⟩ hk
 dsimp only at hk ⊢
 by_cases aL:k<r.ti.length
 ·have cE:=qY (eT aL)
  have aC:=(oe k _ (dQ aL)).2
  have a7:=Af aL
  have hlen:(pC (r.ti.take k)).length=k*3:=by rw [DF,List.length_take];omega
  unfold Ti.cells at aC a7
  generalize r.ti[k]=x at aC a7
  (refine Jr<|JA rfl<|Jn<|Jq<|Jd rfl fun ar=>Jk<|Jq<|J0<|Jr<|ab (fH cE ar) rfl ?_;refine ab (iv (eF.base aC rfl)) rfl ?_;refine Jz rfl rfl fun _ _=>aq (.of rfl) (.of rfl) .here rfl rfl (fh rfl rfl rfl) (bC rfl) an ?_;refine Jn<|Jg<|bF rfl rfl ae ?_;refine JL rfl eR rfl<|ab (cz .here) rfl ?_;refine bb (br (.cons (.of rfl) .nil) rfl rfl bM bM an) rfl fun _ _=>?_)
  refine bB (.of rfl) (.of rfl) bN .here an (by rfl) (fh rfl rfl rfl) (by rfl) (by rfl) (by rfl) eH (by rfl) ?_
  intro v'
  refine aY (v:=v') (by exact .here) fun gx cx e=>?_
  subst e
  (refine bF rfl rfl ae ?_;refine aq (.of rfl) (.of rfl) fg rfl rfl (ed rfl) (bC rfl) an ?_;refine Jx<|Jj<|Jt<|Jg<|JB rfl (by omega)<|Jv rfl<|Jn ?_)
  apply aK (k+1,gx,cx) (by show k+1≤r.ti.length;omega) (by show r.ti.length-(k+1)<r.ti.length-k;omega)
  case hs1=>exact cd
  case ht=>
   show bo _ [row 122 3 (.slice gx (k+1) cx) (k+1) (pC (r.ti.take (k+1))),row 88 3 (.slice g2 r.de.length wi) r.de.length (lE r.de),row 118 2 (.slice g1 r.sr.length q6) r.sr.length (nH r.sr),JQ b3 r (.slice g1 r.sr.length q6) (.slice g2 r.de.length wi) (.slice gx (k+1) cx) (.slice none 0 0),bA b2 (.cells #[.int .i64 0,.int .i64 0,.slice none 0 0,.slice none 0 0,.slice none 0 0,.slice none 0 0] 27 (0,0)),JP b1 r (.slice a1 r.sr.length dJ) (.slice a2 r.de.length cU) (.slice a3 r.ti.length dC) (.slice a4 r.po.length fS)] _
   rw [a7]
   exact .cons (.there .here) (.cons cX (.cons cX (.cons .here (.cons bN (.cons bN .nil)))))
 obtain rfl:k=r.ti.length:=by omega
 rw [List.take_length]
 clear hk aL
 (refine Jr<|JA rfl<|Jn<|Jq<|Jc rfl fun ar=>Jp<|Jl<|Jo<|Jt<|Jq<|Jr<|bF rfl rfl ae ?_;refine JL rfl fg rfl<|JI rfl<|Jv rfl<|Jn<|J0 ?_)
 refine aP 180 3 ?_
 refine aX (ι:=Nat×Option Addr×Nat) (fun y=>y.1≤r.po.length) (fun y=>[(62,.int .i64 (y.1:Nat)),(61,.int .i64 r.po.length),(60,.slice a4 r.po.length fS),(3,.pointer (some ⟨b3,0,none⟩)),(2,.pointer (some ⟨b2,0,none⟩)),(1,.pointer (some ⟨b1,0,none⟩))]) (fun y=>[row 180 3 (.slice y.2.1 y.1 y.2.2) y.1 (jf (r.po.take y.1)),row 122 3 (.slice g3 r.ti.length FI) r.ti.length (pC r.ti),row 88 3 (.slice g2 r.de.length wi) r.de.length (lE r.de),row 118 2 (.slice g1 r.sr.length q6) r.sr.length (nH r.sr),JQ b3 r (.slice g1 r.sr.length q6) (.slice g2 r.de.length wi) (.slice g3 r.ti.length FI) (.slice y.2.1 y.1 y.2.2),bA b2 (.cells #[.int .i64 0,.int .i64 0,.slice none 0 0,.slice none 0 0,.slice none 0 0,.slice none 0 0] 27 (0,0)),JP b1 r (.slice a1 r.sr.length dJ) (.slice a2 r.de.length cU) (.slice a3 r.ti.length dC) (.slice a4 r.po.length fS)]) (fun y=>r.po.length-y.1) ?_ ?_
 ·apply aJ (0,none,0) (Zi _)
  case hs1=>exact cd
  case ht=>
   exact .cons .here (.cons .here (.cons .here (.cons .here (.cons .here (.cons .here (.cons .here .nil))))))
 rintro ⟨k,g4,TT⟩ hk
 dsimp only at hk ⊢
 by_cases aL:k<r.po.length
 ·have cE:=Gb (jZ aL)
  have aC:=(zg k _ (ib aL)).2
  have a7:=AL aL
  have hlen:(jf (r.po.take k)).length=k*3:=by rw [ji,List.length_take];omega
  unfold Po.cells at aC a7
  generalize r.po[k]=x at aC a7
  (refine Jr<|JA rfl<|Jn<|Jq<|Jd rfl fun ar=>Jk<|Jq<|J0<|Jr<|ab (fH cE ar) rfl ?_;refine ab (iv (eF.base aC rfl)) rfl ?_;refine Jz rfl rfl fun _ _=>aq (.of rfl) (.of rfl) .here rfl rfl (fh rfl rfl rfl) (bC rfl) an ?_;refine Jn<|Jg<|bF rfl rfl ae ?_;refine JL rfl fg rfl<|ab (cz .here) rfl ?_;refine bb (br (.cons (.of rfl) .nil) rfl rfl bM bM an) rfl fun _ _=>?_)
  refine bB (.of rfl) (.of rfl) bN .here an (by rfl) (fh rfl rfl rfl) (by rfl) (by rfl) (by rfl) eH (by rfl) ?_
  intro v'
  refine aY (v:=v') (by exact .here) fun gx cx e=>?_
  subst e
  (refine bF rfl rfl ae ?_;refine aq (.of rfl) (.of rfl) qm rfl rfl (ed rfl) (bC rfl) an ?_;refine Jx<|Jj<|Jt<|Jg<|JB rfl (by omega)<|Jv rfl<|Jn ?_)
  apply aK (k+1,gx,cx) (by show k+1≤r.po.length;omega) (by show r.po.length-(k+1)<r.po.length-k;omega)
  case hs1=>exact cd
  case ht=>
   show bo _ [row 180 3 (.slice gx (k+1) cx) (k+1) (jf (r.po.take (k+1))),row 122 3 (.slice g3 r.ti.length FI) r.ti.length (pC r.ti),row 88 3 (.slice g2 r.de.length wi) r.de.length (lE r.de),row 118 2 (.slice g1 r.sr.length q6) r.sr.length (nH r.sr),JQ b3 r (.slice g1 r.sr.length q6) (.slice g2 r.de.length wi) (.slice g3 r.ti.length FI) (.slice gx (k+1) cx),bA b2 (.cells #[.int .i64 0,.int .i64 0,.slice none 0 0,.slice none 0 0,.slice none 0 0,.slice none 0 0] 27 (0,0)),JP b1 r (.slice a1 r.sr.length dJ) (.slice a2 r.de.length cU) (.slice a3 r.ti.length dC) (.slice a4 r.po.length fS)] _
   rw [a7]
   exact .cons (.there .here) (.cons cX (.cons cX (.cons cX (.cons .here (.cons bN (.cons bN .nil))))))
 obtain rfl:k=r.po.length:=by omega
 rw [List.take_length]
 clear hk aL
 (refine Jr<|JA rfl<|Jn<|Jq<|Jc rfl fun ar=>Jp<|Jl<|Jo<|Jt<|Jr<|ab (cz eR) rfl ?_;refine aq (.of rfl) (.of rfl) fg rfl rfl (iu rfl rfl rfl rfl rfl rfl) (bC rfl) an ?_;refine Jn<|Je ?_)
 first | with_reducible apply aM | with_reducible apply aN
 case he=>exact kq rfl inferInstance rfl .here an (by rfl)
 case hR=>
  intro w' au
  exact aB (.slice g1 r.sr.length q6,.slice g2 r.de.length wi,.slice g3 r.ti.length FI,.slice g4 r.po.length TT) trivial (by exact .cons eR (.cons cX (.cons bN (.cons (.there .here) .nil)))) au rfl
theorem jA {α:Type} {l m:List α} {k:Nat} (hl:k<l.length) (hm:k<m.length) (h:l[k]=m[k]):(l.drop k=m.drop k)↔l.drop (k+1)=m.drop (k+1):=by
 rw [List.drop_eq_getElem_cons hl,List.drop_eq_getElem_cons hm,h]
 exact ⟨fun e=>(List.cons.inj e).2,fun e=>by rw [e]⟩
theorem DK {v1 v2:Value} {l m:List ByteArray} {w:World} (h1:Rd w v1 1 (iT l)) (h2:Rd w v2 1 (iT m)) :
  aj Tryz.prog 58 [v1,v2] w (.bool (decide (l=m))):=by
 obtain ⟨a1,T8,b1,o1,rfl,ng,gr,kF,jJ⟩:=h1
 obtain ⟨a2,nA,b2,o2,rfl,jt,eA,iW,jq⟩:=h2
 rw [cg] at *
 rw [cg] at *
 unfold maxLen at gr eA
 refine ah Tryz.func58 rfl rfl ?_
 (refine Jr<|Ja rfl<|Jn<|Jq<|Jr<|Jv rfl<|JI rfl<|Jv rfl<|JI rfl<|JD rfl<|Jn<|gm rfl (fun ar=>?_) fun ar=>?_;refine Jr<|Ja rfl<|Jn<|Ju<|JT ?_;rotate_left;refine Jk<|Jq<|Jr<|Ja rfl<|Jn<|J0 ?_;rotate_right)
 ·rw [decide_eq_false fun e=>ar (by rw [e])]
 have RD:l.length=m.length:=by omega
 refine aX (ι:=Nat) (fun k=>k≤l.length∧(l=m↔l.drop k=m.drop k)) (fun k=>[(5,.int .i64 (k:Int)),(0,.slice a1 l.length T8),(1,.slice a2 m.length nA)]) (fun _=>[]) (fun k=>l.length-k) ?_ ?_
 ·apply aJ (0:Nat) ⟨Zi _,Iff.rfl⟩
  case hs1=>exact cd
  case ht=>(try simp only [Ze,Zf,Za]);exact .nil
 rintro k ⟨hk,hf⟩
 by_cases aL:k<l.length
 ·have fv:k<m.length:=by omega
  have vd:=kF (mC aL)
  have og:=iW (mC fv)
  have kR:=(jJ k _ (jG aL)).2
  have eM:=(jq k _ (jG fv)).2
  have hd:=jA (l:=l) (m:=m) aL fv
  have fw:l[k]≠m[k]→l.drop k≠m.drop k:=fun hne e=>hne (by
   rw [List.drop_eq_getElem_cons aL,List.drop_eq_getElem_cons fv] at e
   exact (List.cons.inj e).1)
  generalize l[k]=x at kR hd fw
  generalize m[k]=y at eM hd fw
  have c1:w.cell? ⟨b1,o1+k*1,none⟩=some (.string x):=kR 0 _ rfl
  have c2:w.cell? ⟨b2,o2+k*1,none⟩=some (.string y):=eM 0 _ rfl
  refine Jq<|Jr<|Jv rfl<|Jv rfl<|JI rfl<|JA rfl<|Jn<|Jd rfl fun ar=>Jk<|Jq<|J0<|Jq ?_
  with_reducible refine dP 9 (by kernel_rfl) ?_
  (refine k7 rfl rfl ?_;refine k7 rfl rfl ?_;refine aH (fH vd ar) rfl ?_;refine aH (ag (.of rfl) (At.base c1 rfl)) rfl ?_;refine k7 rfl rfl ?_;refine k7 rfl rfl ?_;refine aH (az (.of rfl) (.of rfl) og (by omega) (by omega) ba) rfl ?_;refine aH (ag (.of rfl) (At.base c2 rfl)) rfl ?_;refine aH (hY (.of rfl) (.of rfl)) rfl ?_)
  with_reducible refine dY ?_
  (refine Jn<|gm rfl (fun ar=>?_) fun ar=>?_;refine Jr<|Ja rfl<|Jn<|Je<|Jm<|Jh<|Jh<|Jm<|Jh<|JT ?_;rotate_left;refine Jw<|Jj<|Jt<|Jg<|Jv rfl<|JB rfl (by omega)<|Ja rfl<|Jn ?_;rotate_right)
  ·have hne:x≠y:=ar
   rw [decide_eq_false fun e=>fw hne (hf.1 e)]
  ·have he:x=y:=Decidable.not_not.1 ar
   clear ar
   apply aK (k+1) ⟨(show k+1≤l.length from aL),hf.trans (hd he)⟩ (show l.length-(k+1)<l.length-k by omega)
   case hs1=>exact cd
   case ht=>(try simp only [Ze,Zf,Za]);exact .nil
 ·obtain rfl:k=l.length:=by omega
  have:l=m:=hf.2 (by rw [List.drop_length,RD,List.drop_length])
  refine Jq<|Jr<|Jv rfl<|Jv rfl<|JI rfl<|JA rfl<|Jn<|Jc rfl fun ar=>Jp<|Jl<|Jo<|Jt<|Jr<|Ja rfl<|Jn<|Je<|JT ?_
  rw [decide_eq_true this]
theorem DL {v1 v2:Value} {l m:List Int} {w:World} (h1:Rd w v1 1 (ints l)) (h2:Rd w v2 1 (ints m)) :
  aj Tryz.prog 109 [v1,v2] w (.bool (decide (l=m))):=by
 obtain ⟨a1,T8,b1,o1,rfl,ng,gr,kF,jJ⟩:=h1
 obtain ⟨a2,nA,b2,o2,rfl,jt,eA,iW,jq⟩:=h2
 rw [bW] at *
 rw [bW] at *
 unfold maxLen at gr eA
 refine ah Tryz.func109 rfl rfl ?_
 (refine Jr<|Ja rfl<|Jn<|Jq<|Jr<|Jv rfl<|JI rfl<|Jv rfl<|JI rfl<|JD rfl<|Jn<|gm rfl (fun ar=>?_) fun ar=>?_;refine Jr<|Ja rfl<|Jn<|Ju<|JT ?_;rotate_left;refine Jk<|Jq<|Jr<|Ja rfl<|Jn<|J0 ?_;rotate_right)
 ·rw [decide_eq_false fun e=>ar (by rw [e])]
 have RD:l.length=m.length:=by omega
 refine aX (ι:=Nat) (fun k=>k≤l.length∧(l=m↔l.drop k=m.drop k)) (fun k=>[(5,.int .i64 (k:Int)),(0,.slice a1 l.length T8),(1,.slice a2 m.length nA)]) (fun _=>[]) (fun k=>l.length-k) ?_ ?_
 ·apply aJ (0:Nat) ⟨Zi _,Iff.rfl⟩
  case hs1=>exact cd
  case ht=>(try simp only [Ze,Zf,Za]);exact .nil
 rintro k ⟨hk,hf⟩
 by_cases aL:k<l.length
 ·have fv:k<m.length:=by omega
  have vd:=kF (ic aL)
  have og:=iW (ic fv)
  have kR:=(jJ k _ (fC aL)).2
  have eM:=(jq k _ (fC fv)).2
  have hd:=jA (l:=l) (m:=m) aL fv
  have fw:l[k]≠m[k]→l.drop k≠m.drop k:=fun hne e=>hne (by
   rw [List.drop_eq_getElem_cons aL,List.drop_eq_getElem_cons fv] at e
   exact (List.cons.inj e).1)
  generalize l[k]=x at kR hd fw
  generalize m[k]=y at eM hd fw
  have c1:w.cell? ⟨b1,o1+k*1,none⟩=some (.int .i64 x):=kR 0 _ rfl
  have c2:w.cell? ⟨b2,o2+k*1,none⟩=some (.int .i64 y):=eM 0 _ rfl
  refine Jq<|Jr<|Jv rfl<|Jv rfl<|JI rfl<|JA rfl<|Jn<|Jd rfl fun ar=>Jk<|Jq<|J0<|Jq ?_
  with_reducible refine dP 9 (by kernel_rfl) ?_
  (refine k7 rfl rfl ?_;refine k7 rfl rfl ?_;refine aH (fH vd ar) rfl ?_;refine aH (ag (.of rfl) (At.base c1 rfl)) rfl ?_;refine k7 rfl rfl ?_;refine k7 rfl rfl ?_;refine aH (az (.of rfl) (.of rfl) og (by omega) (by omega) ba) rfl ?_;refine aH (ag (.of rfl) (At.base c2 rfl)) rfl ?_;refine aH (jw (.of rfl) (.of rfl)) rfl ?_)
  with_reducible refine dY ?_
  (refine Jn<|gm rfl (fun ar=>?_) fun ar=>?_;refine Jr<|Ja rfl<|Jn<|Je<|Jm<|Jh<|Jh<|Jm<|Jh<|JT ?_;rotate_left;refine Jw<|Jj<|Jt<|Jg<|Jv rfl<|JB rfl (by omega)<|Ja rfl<|Jn ?_;rotate_right)
  ·have hne:x≠y:=ar
   rw [decide_eq_false fun e=>fw hne (hf.1 e)]
  ·have he:x=y:=Decidable.not_not.1 ar
   clear ar
   apply aK (k+1) ⟨(show k+1≤l.length from aL),hf.trans (hd he)⟩ (show l.length-(k+1)<l.length-k by omega)
   case hs1=>exact cd
   case ht=>(try simp only [Ze,Zf,Za]);exact .nil
 ·obtain rfl:k=l.length:=by omega
  have:l=m:=hf.2 (by rw [List.drop_length,RD,List.drop_length])
  refine Jq<|Jr<|Jv rfl<|Jv rfl<|JI rfl<|JA rfl<|Jn<|Jc rfl fun ar=>Jp<|Jl<|Jo<|Jt<|Jr<|Ja rfl<|Jn<|Je<|JT ?_
  rw [decide_eq_true this]
theorem KQ {lv:Value} {l:List ByteArray} {w:World} (h:Rd w lv 1 (iT l)) (hl:l.length≤1000000) :
  bd Tryz.prog 72 [lv] w [] (fun _:Value=>True) id (fun v=>[row 9 1 v l.length (aO l)]):=by
 refine aQ Tryz.func72 rfl rfl ?_
 (refine Jr<|Ja rfl<|Ji<|bb (aA .nil rfl rfl rfl rfl) rfl fun _ _=>?_;refine Jv rfl ?_)
 rename_i bq mg
 refine bQ (g:=bq) (E:=9) (ys:=[]) 0 1 (by exact .here) rfl rfl rfl ?_
 skip
 with_reducible apply fX
 case hx=>exact Is.of rfl
 case hy=>exact Is.of rfl
 case ht=>exact .here
 case hsrc=>exact fun w' au=>h.keeps au.keeps
 case h1=>exact yp l
 case hz=>exact rfl
 case hsz=>exact rfl
 case hb0=>exact rfl
 case hb=>rw [cg];omega
 case hd=>rfl
 intro v'
 rw [cg,Nat.zero_add,Za,← qt]
 refine Ja rfl<|Jn<|Je ?_
 first | with_reducible apply aM | with_reducible apply aN
 case he=>exact dp rfl rfl
 case hR=>
  intro w' au
  exact aB v' trivial (by exact .cons .here .nil) au rfl
theorem Me {lv:Value} {l:List Int} {w:World} (h:Rd w lv 1 (ints l)) (hl:l.length≤1000000) :
  bd Tryz.prog 38 [lv] w [] (fun _:Value=>True) id (fun v=>[row 3 1 v l.length (ints l).flatten]):=by
 refine aQ Tryz.func38 rfl rfl ?_
 (refine Jr<|Ja rfl<|Ji<|bb (aA .nil rfl rfl rfl rfl) rfl fun _ _=>?_;refine Jv rfl ?_)
 rename_i bq mg
 refine bQ (g:=bq) (E:=3) (ys:=[]) 0 1 (by exact .here) rfl rfl rfl ?_
 skip
 with_reducible apply fX
 case hx=>exact Is.of rfl
 case hy=>exact Is.of rfl
 case ht=>exact .here
 case hsrc=>exact fun w' au=>h.keeps au.keeps
 case h1=>exact A4 l
 case hz=>exact rfl
 case hsz=>exact rfl
 case hb0=>exact rfl
 case hb=>rw [bW];omega
 case hd=>rfl
 intro v'
 rw [bW,Nat.zero_add,Za]
 refine Ja rfl<|Jn<|Je ?_
 first | with_reducible apply aM | with_reducible apply aN
 case he=>exact dp rfl rfl
 case hR=>
  intro w' au
  exact aB v' trivial (by exact .cons .here .nil) au rfl
theorem Sa {r q:Ro}:r=q↔(((((r.lv=q.lv∧r.ma=q.ma)∧r.sr=q.sr)∧r.de=q.de)∧r.ti=q.ti)∧r.po=q.po):=by
 cases r;cases q;simp [and_assoc]
theorem Rg {r q:Ro} {s d t p s' d' t' p':Value} {w:World} (h:RR w r s d t p) (h':RR w q s' d' t' p'):aj Tryz.prog 84 [RA r s d t p,RA q s' d' t' p'] w (.bool (decide (r=q))):=by
 have h1:=Rd.one h.sr
 have h2:=Rd.one h.de
 have h3:=Rd.one h.ti
 have h4:=Rd.one h.po
 have g1:=Rd.one h'.sr
 have g2:=Rd.one h'.de
 have g3:=Rd.one h'.ti
 have g4:=Rd.one h'.po
 have A8:=h.sr
 have Bg:=h.de
 have wa:=h.ti
 have Ib:=h.po
 have gs_:=h'.sr
 have gd_:=h'.de
 have gt_:=h'.ti
 have gp_:=h'.po
 obtain ⟨a1,dJ,Gd,F6,rfl,ng,gr,kF,jJ⟩:=A8
 obtain ⟨x1,KM,xs1,xo1,rfl,YD,TS,ga1,q6⟩:=gs_
 obtain ⟨a2,cU,Gc,F5,rfl,jt,eA,iW,jq⟩:=Bg
 obtain ⟨x2,KL,xs2,xo2,rfl,YC,TR,ga2,wi⟩:=gd_
 obtain ⟨a3,dC,FY,Fg,rfl,lC,fD,qY,oe⟩:=wa
 obtain ⟨x3,KK,xs3,xo3,rfl,YB,TQ,ga3,FI⟩:=gt_
 obtain ⟨a4,fS,Uf,Pw,rfl,xF,mc,Gb,zg⟩:=Ib
 obtain ⟨x4,KJ,xs4,xo4,rfl,YA,TP,ga4,TT⟩:=gp_
 rw [cu] at *
 rw [cu] at *
 rw [bU] at *
 rw [bU] at *
 rw [bJ] at *
 rw [bJ] at *
 rw [cN] at *
 rw [cN] at *
 unfold maxLen at gr eA fD mc TS TR TQ TP
 unfold RA
 refine ah Tryz.func84 rfl rfl ?_
 (refine Jr<|Jy rfl rfl fun _ _=>Jy rfl rfl fun _ _=>Ja rfl<|Jn<|Jq<|Jr<|bF rfl rfl ae ?_;refine JL rfl (.there .here) rfl<|bF rfl rfl ae ?_;refine JL rfl .here rfl<|JD rfl<|Jv rfl<|aF rfl rfl inferInstance (fun hg bj=>(ao (.of rfl) ae)) rfl ?_;refine aF rfl rfl inferInstance (fun hg bj=>(ag (.bE hg rfl) (At.lit (.there .here) rfl))) rfl ?_;refine aF rfl rfl inferInstance (fun hg bj=>(ao (.of rfl) ae)) rfl ?_;refine aF rfl rfl inferInstance (fun hg bj=>(ag (.bE hg rfl) (At.lit .here rfl))) rfl ?_;refine aF rfl rfl inferInstance (fun hg bj=>(jw (.bE hg rfl) (.bE hg rfl))) rfl ?_;refine ab (bR (.of rfl) rfl) rfl ?_;refine Jv rfl<|aF rfl rfl inferInstance (fun hg bj=>(ao (.of rfl) ae)) rfl ?_;refine aF rfl rfl inferInstance (fun hg bj=>(ag (.bE hg rfl) (At.lit (.there .here) rfl))) rfl ?_;refine aF rfl rfl inferInstance (fun hg bj=>(bZ (.bE hg rfl))) rfl ?_;refine aF rfl rfl inferInstance (fun hg bj=>(ao (.of rfl) ae)) rfl ?_;refine aF rfl rfl inferInstance (fun hg bj=>(ag (.bE hg rfl) (At.lit .here rfl))) rfl ?_;refine aF rfl rfl inferInstance (fun hg bj=>(bZ (.bE hg rfl))) rfl ?_;refine aF rfl rfl inferInstance (fun hg bj=>(jw (.bE hg rfl) (.bE hg rfl))) rfl ?_;refine ab (bR (.of rfl) rfl) rfl ?_;refine Jv rfl<|aF rfl rfl inferInstance (fun hg bj=>(ao (.of rfl) ae)) rfl ?_;refine aF rfl rfl inferInstance (fun hg bj=>(ag (.bE hg rfl) (At.lit (.there .here) rfl))) rfl ?_;refine aF rfl rfl inferInstance (fun hg bj=>(bZ (.bE hg rfl))) rfl ?_;refine aF rfl rfl inferInstance (fun hg bj=>(ao (.of rfl) ae)) rfl ?_;refine aF rfl rfl inferInstance (fun hg bj=>(ag (.bE hg rfl) (At.lit .here rfl))) rfl ?_;refine aF rfl rfl inferInstance (fun hg bj=>(bZ (.bE hg rfl))) rfl ?_;refine aF rfl rfl inferInstance (fun hg bj=>(jw (.bE hg rfl) (.bE hg rfl))) rfl ?_;refine ab (bR (.of rfl) rfl) rfl ?_;refine Jv rfl<|aF rfl rfl inferInstance (fun hg bj=>(ao (.of rfl) ae)) rfl ?_;refine aF rfl rfl inferInstance (fun hg bj=>(ag (.bE hg rfl) (At.lit (.there .here) rfl))) rfl ?_;refine aF rfl rfl inferInstance (fun hg bj=>(bZ (.bE hg rfl))) rfl ?_;refine aF rfl rfl inferInstance (fun hg bj=>(ao (.of rfl) ae)) rfl ?_;refine aF rfl rfl inferInstance (fun hg bj=>(ag (.bE hg rfl) (At.lit .here rfl))) rfl ?_;refine aF rfl rfl inferInstance (fun hg bj=>(bZ (.bE hg rfl))) rfl ?_;refine aF rfl rfl inferInstance (fun hg bj=>(jw (.bE hg rfl) (.bE hg rfl))) rfl ?_;refine ab (bR (.of rfl) rfl) rfl ?_;refine Jv rfl<|aF rfl rfl inferInstance (fun hg bj=>(ao (.of rfl) ae)) rfl ?_;refine aF rfl rfl inferInstance (fun hg bj=>(ag (.bE hg rfl) (At.lit (.there .here) rfl))) rfl ?_;refine aF rfl rfl inferInstance (fun hg bj=>(bZ (.bE hg rfl))) rfl ?_;refine aF rfl rfl inferInstance (fun hg bj=>(ao (.of rfl) ae)) rfl ?_;refine aF rfl rfl inferInstance (fun hg bj=>(ag (.bE hg rfl) (At.lit .here rfl))) rfl ?_;refine aF rfl rfl inferInstance (fun hg bj=>(bZ (.bE hg rfl))) rfl ?_;refine aF rfl rfl inferInstance (fun hg bj=>(jw (.bE hg rfl) (.bE hg rfl))) rfl ?_;refine ab (bR (.of rfl) rfl) rfl ?_;refine Jn<|nB rfl (fun ar=>?_) fun ar=>?_;refine Jr<|Ja rfl<|Jn<|Ju<|JT ?_;rotate_left;refine Jk<|Jq<|Jr<|Ja rfl<|Jn<|J0 ?_;rotate_right)
 ·rw [decide_eq_false fun e=>by subst e;simp at ar]
 simp only [not_or,ne_eq,Decidable.not_not] at ar
 obtain ⟨⟨⟨⟨⟨e1,e2⟩,e3⟩,e4⟩,e5⟩,e6⟩:=ar
 rename_i b1 sH b2 tb
 refine aX (ι:=Nat) (fun k=>k≤r.sr.length∧(r.sr=q.sr↔r.sr.drop k=q.sr.drop k)) (fun k=>[(5,.int .i64 (k:Nat)),(3,.pointer (some ⟨b2,0,none⟩)),(2,.pointer (some ⟨b1,0,none⟩))]) (fun _=>[bA b2 (.cells #[.int .i64 q.lv,.int .i64 q.ma,.slice x1 q.sr.length KM,.slice x2 q.de.length KL,.slice x3 q.ti.length KK,.slice x4 q.po.length KJ] 27 (0,0)),JQ b1 r (.slice a1 r.sr.length dJ) (.slice a2 r.de.length cU) (.slice a3 r.ti.length dC) (.slice a4 r.po.length fS)]) (fun k=>r.sr.length-k) ?_ ?_
 ·apply aJ (0:Nat) ⟨Zi _,Iff.rfl⟩
  case hs1=>exact cd
  case ht=>
   exact .cons .here (.cons .here .nil)
 rintro k ⟨hk,hf⟩
 have el:r.sr.length=q.sr.length:=by omega
 by_cases aL:k<r.sr.length
 ·have fv:k<q.sr.length:=by omega
  have cE:=kF (gB aL)
  have QL:=ga1 (gB fv)
  have aC:=(jJ k _ (fm aL)).2
  have kS:=(q6 k _ (fm fv)).2
  have hd:=jA (l:=r.sr) (m:=q.sr) aL fv
  have fw:r.sr[k]≠q.sr[k]→r.sr.drop k≠q.sr.drop k:=fun hne e=>hne (by
   rw [List.drop_eq_getElem_cons aL,List.drop_eq_getElem_cons fv] at e
   exact (List.cons.inj e).1)
  generalize r.sr[k]=x at aC hd fw
  generalize q.sr[k]=y at kS hd fw
  unfold Sr.cells at aC kS
  (refine Jq<|Jr<|Jv rfl<|bF rfl rfl ae ?_;refine JL rfl (.there .here) rfl<|JI rfl<|JA rfl<|Jn<|Jd rfl fun ar=>Jk<|Jq<|J0<|Jq ?_)
  with_reducible refine dP 10 (by kernel_rfl) ?_
  (refine nC rfl rfl ae ?_;refine aH (gz (.there .here)) rfl ?_;refine k7 rfl rfl ?_;refine aH (fH cE ar) rfl ?_;refine aH (iv (eF.base aC rfl)) rfl ?_;refine nC rfl rfl ae ?_;refine aH (gz .here) rfl ?_;refine k7 rfl rfl ?_;refine aH (az (.of rfl) (.of rfl) QL (by omega) (by omega) ba) rfl ?_;refine aH (iv (eF.base kS rfl)) rfl ?_)
  with_reducible refine dY ?_
  (refine ab (tA (.of rfl) (.of rfl) (eZ (jH lz)) rfl) rfl ?_;refine Jn<|nB rfl (fun ar=>?_) fun ar=>?_;refine Jr<|Ja rfl<|Jn<|Je<|Jm<|Jh<|Jh<|Jm<|Jh<|JT ?_;rotate_left;refine Jw<|Jj<|Jt<|Jg<|Jv rfl<|JB rfl (by omega)<|Ja rfl<|Jn ?_;rotate_right)
  ·have hne:x≠y:=by
    intro e
    subst e
    simp at ar
   rw [decide_eq_false fun e=>fw hne (hf.1 (by rw [e]))]
  ·have he:x=y:=by
    obtain ⟨q1,q2,_⟩:=ar
    cases x;cases y
    dsimp only at q1 q2
    subst q1;subst q2
    rfl
   clear ar
   apply aK (k+1) ⟨(show k+1≤r.sr.length from aL),hf.trans (hd he)⟩ (show r.sr.length-(k+1)<r.sr.length-k by omega)
   case hs1=>exact cd
   case ht=>
    exact .cons .here (.cons .here .nil)
 have z1:r.sr=q.sr:=by
  obtain rfl:k=r.sr.length:=by omega
  exact hf.2 (by rw [List.drop_length,el,List.drop_length])
 obtain rfl:k=r.sr.length:=by omega
 clear hk hf aL
 (refine Jq<|Jr<|Jv rfl<|bF rfl rfl ae ?_;refine JL rfl (.there .here) rfl<|JI rfl<|JA rfl<|Jn<|Jc rfl fun ar=>Jp<|Jl<|Jo<|Jt<|Jq<|Jr<|Ja rfl<|Jn<|J0 ?_)
 refine aX (ι:=Nat) (fun k=>k≤r.de.length∧(r.de=q.de↔r.de.drop k=q.de.drop k)) (fun k=>[(6,.int .i64 (k:Nat)),(3,.pointer (some ⟨b2,0,none⟩)),(2,.pointer (some ⟨b1,0,none⟩))]) (fun _=>[bA b2 (.cells #[.int .i64 q.lv,.int .i64 q.ma,.slice x1 q.sr.length KM,.slice x2 q.de.length KL,.slice x3 q.ti.length KK,.slice x4 q.po.length KJ] 27 (0,0)),JQ b1 r (.slice a1 r.sr.length dJ) (.slice a2 r.de.length cU) (.slice a3 r.ti.length dC) (.slice a4 r.po.length fS)]) (fun k=>r.de.length-k) ?_ ?_
 ·apply aJ (0:Nat) ⟨Zi _,Iff.rfl⟩
  case hs1=>exact cd
  case ht=>
   exact .cons .here (.cons .here .nil)
 rintro k ⟨hk,hf⟩
 have el:r.de.length=q.de.length:=by omega
 by_cases aL:k<r.de.length
 ·have fv:k<q.de.length:=by omega
  have cE:=iW (gl aL)
  have QL:=ga2 (gl fv)
  have aC:=(jq k _ (eX aL)).2
  have kS:=(wi k _ (eX fv)).2
  have hd:=jA (l:=r.de) (m:=q.de) aL fv
  have fw:r.de[k]≠q.de[k]→r.de.drop k≠q.de.drop k:=fun hne e=>hne (by
   rw [List.drop_eq_getElem_cons aL,List.drop_eq_getElem_cons fv] at e
   exact (List.cons.inj e).1)
  generalize r.de[k]=x at aC hd fw
  generalize q.de[k]=y at kS hd fw
  unfold De.cells at aC kS
  (refine Jq<|Jr<|Jv rfl<|bF rfl rfl ae ?_;refine JL rfl (.there .here) rfl<|JI rfl<|JA rfl<|Jn<|Jd rfl fun ar=>Jk<|Jq<|J0<|Jq ?_)
  with_reducible refine dP 10 (by kernel_rfl) ?_
  (refine nC rfl rfl ae ?_;refine aH (gz (.there .here)) rfl ?_;refine k7 rfl rfl ?_;refine aH (fH cE ar) rfl ?_;refine aH (iv (eF.base aC rfl)) rfl ?_;refine nC rfl rfl ae ?_;refine aH (gz .here) rfl ?_;refine k7 rfl rfl ?_;refine aH (az (.of rfl) (.of rfl) QL (by omega) (by omega) ba) rfl ?_;refine aH (iv (eF.base kS rfl)) rfl ?_)
  with_reducible refine dY ?_
  (refine ab (tA (.of rfl) (.of rfl) (eZ (jH (Hy lz))) rfl) rfl ?_;refine Jn<|nB rfl (fun ar=>?_) fun ar=>?_;refine Jr<|Ja rfl<|Jn<|Je<|Jm<|Jh<|Jh<|Jm<|Jh<|JT ?_;rotate_left;refine Jw<|Jj<|Jt<|Jg<|Jv rfl<|JB rfl (by omega)<|Ja rfl<|Jn ?_;rotate_right)
  ·have hne:x≠y:=by
    intro e
    subst e
    simp at ar
   rw [decide_eq_false fun e=>fw hne (hf.1 (by rw [e]))]
  ·have he:x=y:=by
    obtain ⟨q1,q2,q3,_⟩:=ar
    cases x;cases y
    dsimp only at q1 q2 q3
    have q3:=eq_of_beq q3;subst q1;subst q2;subst q3
    rfl
   clear ar
   apply aK (k+1) ⟨(show k+1≤r.de.length from aL),hf.trans (hd he)⟩ (show r.de.length-(k+1)<r.de.length-k by omega)
   case hs1=>exact cd
   case ht=>
    exact .cons .here (.cons .here .nil)
 have z2:r.de=q.de:=by
  obtain rfl:k=r.de.length:=by omega
  exact hf.2 (by rw [List.drop_length,el,List.drop_length])
 obtain rfl:k=r.de.length:=by omega
 clear hk hf aL
 (refine Jq<|Jr<|Jv rfl<|bF rfl rfl ae ?_;refine JL rfl (.there .here) rfl<|JI rfl<|JA rfl<|Jn<|Jc rfl fun ar=>Jp<|Jl<|Jo<|Jt<|Jq<|Jr<|Ja rfl<|Jn<|J0 ?_)
 refine aX (ι:=Nat) (fun k=>k≤r.ti.length∧(r.ti=q.ti↔r.ti.drop k=q.ti.drop k)) (fun k=>[(7,.int .i64 (k:Nat)),(3,.pointer (some ⟨b2,0,none⟩)),(2,.pointer (some ⟨b1,0,none⟩))]) (fun _=>[bA b2 (.cells #[.int .i64 q.lv,.int .i64 q.ma,.slice x1 q.sr.length KM,.slice x2 q.de.length KL,.slice x3 q.ti.length KK,.slice x4 q.po.length KJ] 27 (0,0)),JQ b1 r (.slice a1 r.sr.length dJ) (.slice a2 r.de.length cU) (.slice a3 r.ti.length dC) (.slice a4 r.po.length fS)]) (fun k=>r.ti.length-k) ?_ ?_
 ·apply aJ (0:Nat) ⟨Zi _,Iff.rfl⟩
  case hs1=>exact cd
  case ht=>
   exact .cons .here (.cons .here .nil)
 rintro k ⟨hk,hf⟩
 have el:r.ti.length=q.ti.length:=by omega
 by_cases aL:k<r.ti.length
 ·have fv:k<q.ti.length:=by omega
  have cE:=qY (eT aL)
  have QL:=ga3 (eT fv)
  have aC:=(oe k _ (dQ aL)).2
  have kS:=(FI k _ (dQ fv)).2
  have hd:=jA (l:=r.ti) (m:=q.ti) aL fv
  have fw:r.ti[k]≠q.ti[k]→r.ti.drop k≠q.ti.drop k:=fun hne e=>hne (by
   rw [List.drop_eq_getElem_cons aL,List.drop_eq_getElem_cons fv] at e
   exact (List.cons.inj e).1)
  generalize r.ti[k]=x at aC hd fw
  generalize q.ti[k]=y at kS hd fw
  unfold Ti.cells at aC kS
  (refine Jq<|Jr<|Jv rfl<|bF rfl rfl ae ?_;refine JL rfl (.there .here) rfl<|JI rfl<|JA rfl<|Jn<|Jd rfl fun ar=>Jk<|Jq<|J0<|Jq ?_)
  with_reducible refine dP 10 (by kernel_rfl) ?_
  (refine nC rfl rfl ae ?_;refine aH (gz (.there .here)) rfl ?_;refine k7 rfl rfl ?_;refine aH (fH cE ar) rfl ?_;refine aH (iv (eF.base aC rfl)) rfl ?_;refine nC rfl rfl ae ?_;refine aH (gz .here) rfl ?_;refine k7 rfl rfl ?_;refine aH (az (.of rfl) (.of rfl) QL (by omega) (by omega) ba) rfl ?_;refine aH (iv (eF.base kS rfl)) rfl ?_)
  with_reducible refine dY ?_
  (refine ab (tA (.of rfl) (.of rfl) (eZ (jH (jH lz))) rfl) rfl ?_;refine Jn<|nB rfl (fun ar=>?_) fun ar=>?_;refine Jr<|Ja rfl<|Jn<|Je<|Jm<|Jh<|Jh<|Jm<|Jh<|JT ?_;rotate_left;refine Jw<|Jj<|Jt<|Jg<|Jv rfl<|JB rfl (by omega)<|Ja rfl<|Jn ?_;rotate_right)
  ·have hne:x≠y:=by
    intro e
    subst e
    simp at ar
   rw [decide_eq_false fun e=>fw hne (hf.1 (by rw [e]))]
  ·have he:x=y:=by
    obtain ⟨q1,q2,q3,_⟩:=ar
    cases x;cases y
    dsimp only at q1 q2 q3
    subst q1;subst q2;subst q3
    rfl
   clear ar
   apply aK (k+1) ⟨(show k+1≤r.ti.length from aL),hf.trans (hd he)⟩ (show r.ti.length-(k+1)<r.ti.length-k by omega)
   case hs1=>exact cd
   case ht=>
    exact .cons .here (.cons .here .nil)
 have z3:r.ti=q.ti:=by
  obtain rfl:k=r.ti.length:=by omega
  exact hf.2 (by rw [List.drop_length,el,List.drop_length])
 obtain rfl:k=r.ti.length:=by omega
 clear hk hf aL
 (refine Jq<|Jr<|Jv rfl<|bF rfl rfl ae ?_;refine JL rfl (.there .here) rfl<|JI rfl<|JA rfl<|Jn<|Jc rfl fun ar=>Jp<|Jl<|Jo<|Jt<|Jq<|Jr<|Ja rfl<|Jn<|J0 ?_)
 refine aX (ι:=Nat) (fun k=>k≤r.po.length∧(r.po=q.po↔r.po.drop k=q.po.drop k)) (fun k=>[(8,.int .i64 (k:Nat)),(3,.pointer (some ⟨b2,0,none⟩)),(2,.pointer (some ⟨b1,0,none⟩))]) (fun _=>[bA b2 (.cells #[.int .i64 q.lv,.int .i64 q.ma,.slice x1 q.sr.length KM,.slice x2 q.de.length KL,.slice x3 q.ti.length KK,.slice x4 q.po.length KJ] 27 (0,0)),JQ b1 r (.slice a1 r.sr.length dJ) (.slice a2 r.de.length cU) (.slice a3 r.ti.length dC) (.slice a4 r.po.length fS)]) (fun k=>r.po.length-k) ?_ ?_
 ·apply aJ (0:Nat) ⟨Zi _,Iff.rfl⟩
  case hs1=>exact cd
  case ht=>
   exact .cons .here (.cons .here .nil)
 rintro k ⟨hk,hf⟩
 have el:r.po.length=q.po.length:=by omega
 by_cases aL:k<r.po.length
 ·have fv:k<q.po.length:=by omega
  have cE:=Gb (jZ aL)
  have QL:=ga4 (jZ fv)
  have aC:=(zg k _ (ib aL)).2
  have kS:=(TT k _ (ib fv)).2
  have hd:=jA (l:=r.po) (m:=q.po) aL fv
  have fw:r.po[k]≠q.po[k]→r.po.drop k≠q.po.drop k:=fun hne e=>hne (by
   rw [List.drop_eq_getElem_cons aL,List.drop_eq_getElem_cons fv] at e
   exact (List.cons.inj e).1)
  generalize r.po[k]=x at aC hd fw
  generalize q.po[k]=y at kS hd fw
  unfold Po.cells at aC kS
  (refine Jq<|Jr<|Jv rfl<|bF rfl rfl ae ?_;refine JL rfl (.there .here) rfl<|JI rfl<|JA rfl<|Jn<|Jd rfl fun ar=>Jk<|Jq<|J0<|Jq ?_)
  with_reducible refine dP 10 (by kernel_rfl) ?_
  (refine nC rfl rfl ae ?_;refine aH (gz (.there .here)) rfl ?_;refine k7 rfl rfl ?_;refine aH (fH cE ar) rfl ?_;refine aH (iv (eF.base aC rfl)) rfl ?_;refine nC rfl rfl ae ?_;refine aH (gz .here) rfl ?_;refine k7 rfl rfl ?_;refine aH (az (.of rfl) (.of rfl) QL (by omega) (by omega) ba) rfl ?_;refine aH (iv (eF.base kS rfl)) rfl ?_)
  with_reducible refine dY ?_
  (refine ab (tA (.of rfl) (.of rfl) (jH (eZ (eZ lz))) rfl) rfl ?_;refine Jn<|nB rfl (fun ar=>?_) fun ar=>?_;refine Jr<|Ja rfl<|Jn<|Je<|Jm<|Jh<|Jh<|Jm<|Jh<|JT ?_;rotate_left;refine Jw<|Jj<|Jt<|Jg<|Jv rfl<|JB rfl (by omega)<|Ja rfl<|Jn ?_;rotate_right)
  ·have hne:x≠y:=by
    intro e
    subst e
    simp at ar
   rw [decide_eq_false fun e=>fw hne (hf.1 (by rw [e]))]
  ·have he:x=y:=by
    obtain ⟨q1,q2,q3,_⟩:=ar
    cases x;cases y
    dsimp only at q1 q2 q3
    subst q1;subst q2;subst q3
    rfl
   clear ar
   apply aK (k+1) ⟨(show k+1≤r.po.length from aL),hf.trans (hd he)⟩ (show r.po.length-(k+1)<r.po.length-k by omega)
   case hs1=>exact cd
   case ht=>
    exact .cons .here (.cons .here .nil)
 have z4:r.po=q.po:=by
  obtain rfl:k=r.po.length:=by omega
  exact hf.2 (by rw [List.drop_length,el,List.drop_length])
 obtain rfl:k=r.po.length:=by omega
 clear hk hf aL
 (refine Jq<|Jr<|Jv rfl<|bF rfl rfl ae ?_;refine JL rfl (.there .here) rfl<|JI rfl<|JA rfl<|Jn<|Jc rfl fun ar=>Jp<|Jl<|Jo<|Jt<|Jr<|Ja rfl<|Jn<|Je<|JT ?_)
 rw [decide_eq_true (Sa.2 ⟨⟨⟨⟨⟨e1,e2⟩,z1⟩,z2⟩,z3⟩,z4⟩)]
theorem bd.GS {P:Program} {f:FuncId} {args:List Value} {w:World} {md:List Nat} {E:TypeId} {sz n:Nat} {xs:List Value} {val:Value→Value} (h:bd P f args w md (fun _:Value=>True) val (fun v=>[row E sz v n xs])) :
  bd P f args w md (fun _:Option Addr×Nat=>True) (fun x=>val (.slice x.1 n x.2)) (fun x=>[row E sz (.slice x.1 n x.2) n xs]):=
 Calls.mono h fun e w' ⟨v,he,_,hk,fp,hn,hs,hf⟩=>by
  have hv:∃ x:Option Addr×Nat,v=.slice x.1 n x.2:=by
   obtain ⟨f1,f2,_,⟨_,_,⟨e1,e2⟩ | ⟨g,cap,cur,e1,_⟩⟩,_⟩:=hs
   ·exact ⟨(none,0),by rw [e1,e2]⟩
   ·exact ⟨(_,cap),e1⟩
  obtain ⟨x,rfl⟩:=hv
  exact ⟨x,he,trivial,hk,fp,hn,hs,hf⟩
def TO:Value→Option Addr×Nat
 | .slice a _ c=>(a,c)
 | _=>(none,0)
theorem IB (x:Option Addr×Nat):∃ v,TO v=x:=⟨.slice x.1 0 x.2,rfl⟩
theorem K8 {kv:Value} {l:List gy} {w:World} (h:Rd w kv 2 (jm l)) (hM:vN w l) (hn:l.length≤1000) (hs:∀ x∈l,x.tk.so.length≤1000) :
  bd Tryz.prog 54 [kv] w [] (fun x:Value×List gy=>c8 x.2=c8 l) (fun x=>x.1) (fun x=>[row 69 2 x.1 x.2.length (jm x.2).flatten,KX x.2]):=by
 obtain ⟨a,cp,b,o,rfl,db,bT,ha,hc⟩:=h
 rw [eK] at *
 unfold maxLen at bT
 refine aQ Tryz.func54 rfl rfl ?_
 refine Jr<|Ja rfl<|Ji<|Ja rfl<|Jn<|Jq<|Jr<|Jv rfl<|JI rfl<|Jv rfl<|Jn<|J0 ?_
 refine aP 69 2 ?_
 refine kJ 9 ?_
 refine aX (ι:=Nat×Value×List gy) (fun x=>x.1≤l.length∧c8 x.2.2=c8 (l.take x.1)) (fun x=>[(8,.int .i64 (x.1:Nat)),(7,.int .i64 (l.length:Nat)),(6,.slice a l.length cp),(3,x.2.1)])
  (fun x=>[row 69 2 x.2.1 x.2.2.length (jm x.2.2).flatten,mE 9 (x.2.2.map gy.v) (x.2.2.map fun y=>aO y.tk.so)]) (fun x=>l.length-x.1) ?_ ?_
 ·apply aJ (0,.slice none 0 0,[]) ⟨Zi _,rfl⟩
  case hs1=>exact cd
  case ht=>
   exact .cons (.there .here) (.cons .here .nil)
 rintro ⟨k,v,W⟩ ⟨hk,hW⟩
 dsimp only at hk hW ⊢
 have RJ:W.length=k:=by
  have:=congrArg List.length hW
  unfold c8 at this
  rw [Zd,Zd,List.length_take] at this
  omega
 by_cases aL:k<l.length
 ·have cE:=ha (mA aL)
  have aC:=(hc k _ (kc aL)).2
  have hx:=hM _ (Zj aL)
  have XS:=hs _ (Zj aL)
  have htk:c8 (l.take (k+1))=c8 (l.take k)++[l[k].tk]:=by
   unfold c8
   rw [List.take_succ_eq_append_getElem aL,List.map_append];rfl
  have sG:(jm W).flatten.length=W.length*2:=by rw [fQ (Cf W),eK]
  have ij:=Rd.one hx
  unfold gy.cells at aC
  generalize l[k]=x at aC hx XS htk ij
  obtain ⟨⟨xd,xs⟩,xv⟩:=x
  dsimp only at aC hx XS htk ij
  have hwc:∀ w',aG [] w w'→bd Tryz.prog 72 [xv] w' [] (fun _:Option Addr×Nat=>True) (fun z=>.slice z.1 xs.length z.2) (fun z=>[row 9 1 (.slice z.1 xs.length z.2) xs.length (aO xs)]):=fun w' hk=>bd.GS (val:=id) (KQ (hx.keeps hk) (by omega))
  refine aY (E:=69) (sz:=2) (v:=v) (by exact .here) fun va vc e=>?_
  subst e
  (refine Jr<|JA rfl<|Jn<|Jq<|Jd rfl fun ar=>Jk<|Jq<|J0<|Jr<|ab (fH cE ar) rfl ?_;refine ab (iv (eF.base aC rfl)) rfl ?_;refine Jz rfl rfl fun _ _=>aq (.of rfl) (.of rfl) .here rfl rfl (gF rfl ij) (bC rfl) an ?_;refine Jn ?_)
  with_reducible refine eN 8 (by kernel_rfl) ?_
  (refine aD (fun β=>(aR (.of rfl))) bG rfl ?_;refine aD (fun β=>(ao (.of rfl) ae)) bG rfl ?_;refine aD (fun β=>(ag (.of rfl) (At.lit .here rfl))) bG rfl ?_;refine aD (fun β=>(ao (.of rfl) ae)) bG rfl ?_;refine aD (fun β=>(ag (.of rfl) (At.lit .here rfl))) bG rfl ?_)
  dsimp only [Nat.zero_add,Nat.reduceAdd]
  with_reducible apply gI (ι:=Option Addr×Nat) (Φ:=fun _=>True) (val:=fun z=>.slice z.1 xs.length z.2) (own:=fun z=>[row 9 1 (.slice z.1 xs.length z.2) xs.length (aO xs)]) (g:=TO) (B:=[]) (args:=fun _=>[xv])
  case hg=>exact IB
  case hB=>rfl
  case hr=>exact fun β=>bh (.of rfl) (.cons (.of rfl) .nil) inferInstance rfl
  case hd=>rfl
  case hc=>exact fun β w' hb=>hwc w' hb.mem.keeps
  dsimp only [Nat.reduceAdd]
  with_reducible apply aD
  case hr=>(intro β;exact aU (.cons (.of rfl) (.cons (.of rfl) .nil)) an)
  case hi=>exact fun β β' h=>by simp only [h 5 (by kernel_rfl)]
  case hd=>rfl
  dsimp only [Nat.reduceAdd]
  with_reducible apply mW
  case hr=>(intro β;exact br (.cons (.of rfl) .nil) rfl rfl bM bM an)
  case hi=>exact fun β β' h=>by simp only [h 5 (by decide) (by kernel_rfl)]
  case hd=>rfl
  dsimp only [Nat.reduceAdd]
  refine gE fun β=>?_
  dsimp only [fq,Za,Zb,List.append_eq,Nat.reduceAdd]
  generalize fP (β 7)=b7
  generalize TO (β 5)=y
  obtain ⟨ya,yc⟩:=y
  clear β
  dsimp only
  refine cO (rs:=[8]) (by kernel_rfl) (by simp) (List.forall_mem_cons.2 ⟨?_,fun _ h=>absurd h List.not_mem_nil⟩)
  refine cW rfl ?_
  refine bB (.of rfl) (.of rfl) cX (.there .here) an (by rfl) (gF rfl rfl) (by rfl) (by rfl) (by rfl) eH (by rfl) ?_
  intro v'
  refine Jn ?_
  refine cO (rs:=[9]) (by kernel_rfl) (by simp) (List.forall_mem_cons.2 ⟨?_,fun _ h=>absurd h List.not_mem_nil⟩)
  refine cW rfl ?_
  refine Ja rfl<|Jn ?_
  with_reducible refine dj (by kernel_rfl) ?_
  refine Jj<|Jt<|Jg<|JB rfl (by omega)<|Jv rfl<|Jn ?_
  have V7:(aO xs).length=xs.length:=dd xs
  with_reducible apply my (E:=9) (vs:=W.map gy.v) (xs:=W.map fun y=>aO y.tk.so) (v:=.slice ya xs.length yc) (x:=aO xs) (n:=xs.length)
  case ht=>exact eR
  case ht2=>exact Take.there .here
  case hn=>exact V7.symm
  case hl=>rw [Zd,Zd]
  case k=>
   apply aK (k+1,v',W++[⟨⟨xd,xs⟩,.slice ya xs.length yc⟩]) ⟨by show k+1≤_;omega,by
    show c8 (W++[_])=_
    unfold c8 at hW htk ⊢
    rw [List.map_append,hW];exact htk.symm⟩ (by show l.length-(k+1)<l.length-k;omega)
   case hs1=>exact cd
   case ht=>
    dsimp only
    rw [DB,Zg,List.map_append,List.map_append]
    simp only [List.map_cons,Zf,List.length_cons,List.length_nil,Nat.zero_add]
    exact .cons (.there .here) (.cons .here .nil)
 ·have e:k=l.length:=by omega
  rw [e,List.take_length] at hW
  refine aY (E:=69) (sz:=2) (v:=v) (by exact .here) fun va vc e=>?_
  subst e
  refine Jr<|JA rfl<|Jn<|Jq<|Jc rfl fun ar=>Jp<|Jl<|Jo<|Jt<|Jr<|Jv rfl<|Ja rfl<|Jn<|Je ?_
  first | with_reducible apply aM | with_reducible apply aN
  case he=>exact dp rfl rfl
  case hR=>
   intro w' au
   exact aB (.slice va W.length vc,W) hW (by exact .cons .here (.cons .here .nil)) au rfl
def cH:ByteArray:=⟨#[99,97,109]⟩
def j4:ByteArray:=⟨#[118,116,114]⟩
def nn:ByteArray:=⟨#[109,111,110]⟩
def dE:ByteArray:=⟨#[97,105,114]⟩
def iU:ByteArray:=⟨#[114,101,99]⟩
def nT:ByteArray:=⟨#[116]⟩
def nU:ByteArray:=⟨#[117]⟩
def lL:Ro:=⟨2,2,[⟨cH,0⟩,⟨j4,1⟩],[⟨nn,0,false⟩,⟨dE,1,false⟩,⟨iU,1,false⟩],[⟨nT,0,1⟩,⟨nU,0,1⟩],[]⟩
def nw:Tk:=⟨dE,[cH,cH]⟩
def Rn:Tk:=⟨iU,[cH,⟨#[]⟩]⟩
def nu:Tk:=⟨dE,[j4,j4]⟩
def Vr:List Po:=[⟨0,dE,nT⟩,⟨0,nT,cH⟩,⟨1,dE,nT⟩,⟨1,nT,cH⟩]
def Vq:List Po:=[⟨0,dE,nT⟩,⟨0,iU,nT⟩,⟨0,nT,cH⟩,⟨1,dE,nT⟩,⟨1,nT,cH⟩]
def Vp:List Po:=[⟨0,dE,j4⟩,⟨0,iU,nT⟩,⟨0,nT,cH⟩,⟨1,dE,j4⟩]
def fR:Ro:={ lL with po:=Vr }
def gJ:Ro:={ lL with po:=Vq }
def vG:Ro:={ lL with po:=Vp }
def Co:Ro:=fR.Hi nn true
theorem T2:fU lL=0:=by kernel_rfl
theorem Oq:EN lL 0 cH dE=0∧B9 lL 0 cH dE=[nT]:=⟨by kernel_rfl,by kernel_rfl⟩
theorem T0:jd lL [nw]=(fR,0,0):=by kernel_rfl
theorem TZ:jd fR [Rn]=(gJ,0,0):=by kernel_rfl
theorem Oy:jd gJ [nu]=(vG,0,0):=by kernel_rfl
theorem TX:KV gJ [nu]=[nw]:=by kernel_rfl
theorem Oo:EN lL 0 j4 nn=18∧B9 lL 0 j4 nn=[]:=⟨by kernel_rfl,by kernel_rfl⟩
theorem OA:rZ lL 0 j4 nn=0∧mT lL 0 j4 nn=[1]:=⟨by kernel_rfl,by kernel_rfl⟩
theorem T3:IW lL 0 j4 nn [0]=19:=by kernel_rfl
theorem T1:Il gJ iU=0∧FA gJ iU=[cH,⟨#[]⟩]:=⟨by kernel_rfl,by kernel_rfl⟩
theorem Ou:Gv fR 0 dE=0∧ET fR 0 dE=[cH,nT,dE]:=⟨by kernel_rfl,by kernel_rfl⟩
theorem OB:JM fR 0=0∧FX fR 0=[nT]:=⟨by kernel_rfl,by kernel_rfl⟩
theorem Ot:Gq gJ 0 cH=0∧EO gJ 0 cH=[dE,iU]:=⟨by kernel_rfl,by kernel_rfl⟩
theorem Oz:xk fR nn=0∧xj fR nn true=Co:=⟨by kernel_rfl,by kernel_rfl⟩
theorem TY:(jd Co [⟨iU,[⟨#[45]⟩,⟨#[]⟩]⟩,⟨nn,[cH,cH]⟩]).2=(1,31):=by kernel_rfl
theorem Ox:qx lL [⟨10,[nw]⟩,⟨12,[nu]⟩] dE 9=0∧sT lL [⟨10,[nw]⟩,⟨12,[nu]⟩] dE 9=[⟨#[]⟩,⟨#[]⟩]:=⟨by kernel_rfl,by kernel_rfl⟩
theorem Ow:qx lL [⟨10,[nw]⟩,⟨12,[nu]⟩] dE 11=0∧sT lL [⟨10,[nw]⟩,⟨12,[nu]⟩] dE 11=[cH,cH]:=⟨by kernel_rfl,by kernel_rfl⟩
theorem Ov:qx lL [⟨10,[nw]⟩,⟨12,[nu]⟩] dE 12=0∧sT lL [⟨10,[nw]⟩,⟨12,[nu]⟩] dE 12=[j4,j4]:=⟨by kernel_rfl,by kernel_rfl⟩
theorem QN:Hh lL=⟨#[114,111,117,116,101,114,32,50,32,50,10,115,111,117,114,99,101,32,99,97,109,32,48,10,115,111,117,114,99,101,32,118,116,114,32,49,10,100,101,115,116,105,110,97,116,105,111,110,32,109,111,110,32,48,32,102,114,101,101,10,100,101,115,116,105,110,97,116,105,111,110,32,97,105,114,32,49,32,102,114,101,101,10,100,101,115,116,105,110,97,116,105,111,110,32,114,101,99,32,49,32,102,114,101,101,10,116,105,101,32,116,32,48,32,49,10,116,105,101,32,117,32,48,32,49,10]⟩:=by kernel_rfl
theorem MT (w:World):bd Tryz.prog 105 [] w [] (fun _:Value×Value×Value×Value=>True) (fun x=>RA lL x.1 x.2.1 x.2.2.1 x.2.2.2) (fun x=>tt lL x):=by
 unfold RA
 refine aQ Tryz.func105 rfl rfl ?_
 (refine Jr<|Jz rfl rfl fun _ _=>Ji<|ab (aU (.cons (.of rfl) .nil) an) rfl ?_;refine ab (aU (.cons (.of rfl) (.cons (.of rfl) .nil)) an) rfl ?_;refine bb (br (.cons (.of rfl) (.cons (.of rfl) .nil)) rfl rfl bM bM an) rfl fun _ _=>?_;refine ab (aU (.cons (.of rfl) .nil) an) rfl ?_;refine ab (aU (.cons (.of rfl) (.cons (.of rfl) .nil)) an) rfl ?_;refine ab (aU (.cons (.of rfl) (.cons (.of rfl) .nil)) an) rfl ?_;refine bb (br (.cons (.of rfl) (.cons (.of rfl) (.cons (.of rfl) .nil))) rfl rfl bM bM an) rfl fun _ _=>?_;refine ab (aU (.cons (.of rfl) (.cons (.of rfl) .nil)) an) rfl ?_;refine ab (aU (.cons (.of rfl) (.cons (.of rfl) .nil)) an) rfl ?_;refine bb (br (.cons (.of rfl) (.cons (.of rfl) .nil)) rfl rfl bM bM an) rfl fun _ _=>?_;refine ab (aU (.cons (.of rfl) (.cons (.of rfl) (.cons (.of rfl) (.cons (.of rfl) (.cons (.of rfl) .nil))))) an) rfl ?_;refine aq (.of rfl) (.of rfl) cX rfl rfl (iu rfl rfl rfl rfl rfl rfl) (bC rfl) an ?_;refine Jn<|Je ?_)
 rename_i b0 hb0 b1 sH b2 tb b3 sZ
 refine bQ (g:=b1) (E:=186) (ys:=nH lL.sr) 2 2 cX (by exact rfl) rfl rfl ?_
 refine bQ (g:=b2) (E:=90) (ys:=lE lL.de) 3 3 cX (by exact rfl) rfl rfl ?_
 refine bQ (g:=b3) (E:=187) (ys:=pC lL.ti) 2 3 cX (by exact rfl) rfl rfl ?_
 refine aP 188 3 ?_
 first | with_reducible apply aM | with_reducible apply aN
 case he=>exact kq rfl inferInstance rfl eR an (by rfl)
 case hR=>
  intro w' au
  exact aB (.slice (some ⟨b1,0,none⟩) 2 2,.slice (some ⟨b2,0,none⟩) 3 3,.slice (some ⟨b3,0,none⟩) 2 2,.slice none 0 0) trivial (by exact .cons cX (.cons bN (.cons (.there .here) (.cons .here .nil)))) au rfl
theorem QQ (w:World):bd Tryz.prog 106 [] w [] (fun _:Option Addr×Nat=>True) (fun x=>.agg (gy.cells ⟨nw,.slice x.1 2 x.2⟩).toArray) (fun x=>[row 9 1 (.slice x.1 2 x.2) 2 (aO nw.so)]):=by
 unfold gy.cells
 refine aQ Tryz.func106 rfl rfl ?_
 (refine Jr<|Jz rfl rfl fun _ _=>Ji<|bb (aA (.cons (.of rfl) (.cons (.of rfl) .nil)) rfl rfl rfl rfl) rfl fun _ _=>?_;refine ab (aU (.cons (.of rfl) (.cons (.of rfl) .nil)) an) rfl ?_;refine aq (.of rfl) (.of rfl) (.there .here) rfl rfl (gF rfl rfl) (bC rfl) an ?_;refine Jn<|Je ?_)
 rename_i b0 hb0 b1 sH
 refine bQ (g:=b1) (E:=9) (ys:=aO nw.so) 2 1 (by exact Take.there .here) (by exact rfl) rfl rfl ?_
 first | with_reducible apply aM | with_reducible apply aN
 case he=>exact kq rfl inferInstance rfl (.there .here) an (by rfl)
 case hR=>
  intro w' au
  exact aB (some ⟨b1,0,none⟩,2) trivial (by exact .cons .here .nil) au rfl
theorem QP (w:World):bd Tryz.prog 107 [] w [] (fun _:Option Addr×Nat=>True) (fun x=>.agg (gy.cells ⟨Rn,.slice x.1 2 x.2⟩).toArray) (fun x=>[row 9 1 (.slice x.1 2 x.2) 2 (aO Rn.so)]):=by
 unfold gy.cells
 refine aQ Tryz.func107 rfl rfl ?_
 (refine Jr<|Jz rfl rfl fun _ _=>Ji<|bb (aA (.cons (.of rfl) (.cons (.of rfl) .nil)) rfl rfl rfl rfl) rfl fun _ _=>?_;refine ab (aU (.cons (.of rfl) (.cons (.of rfl) .nil)) an) rfl ?_;refine aq (.of rfl) (.of rfl) (.there .here) rfl rfl (gF rfl rfl) (bC rfl) an ?_;refine Jn<|Je ?_)
 rename_i b0 hb0 b1 sH
 refine bQ (g:=b1) (E:=9) (ys:=aO Rn.so) 2 1 (by exact Take.there .here) (by exact rfl) rfl rfl ?_
 first | with_reducible apply aM | with_reducible apply aN
 case he=>exact kq rfl inferInstance rfl (.there .here) an (by rfl)
 case hR=>
  intro w' au
  exact aB (some ⟨b1,0,none⟩,2) trivial (by exact .cons .here .nil) au rfl
theorem QO (w:World):bd Tryz.prog 108 [] w [] (fun _:Option Addr×Nat=>True) (fun x=>.agg (gy.cells ⟨nu,.slice x.1 2 x.2⟩).toArray) (fun x=>[row 9 1 (.slice x.1 2 x.2) 2 (aO nu.so)]):=by
 unfold gy.cells
 refine aQ Tryz.func108 rfl rfl ?_
 (refine Jr<|Jz rfl rfl fun _ _=>Ji<|bb (aA (.cons (.of rfl) (.cons (.of rfl) .nil)) rfl rfl rfl rfl) rfl fun _ _=>?_;refine ab (aU (.cons (.of rfl) (.cons (.of rfl) .nil)) an) rfl ?_;refine aq (.of rfl) (.of rfl) (.there .here) rfl rfl (gF rfl rfl) (bC rfl) an ?_;refine Jn<|Je ?_)
 rename_i b0 hb0 b1 sH
 refine bQ (g:=b1) (E:=9) (ys:=aO nu.so) 2 1 (by exact Take.there .here) (by exact rfl) rfl rfl ?_
 first | with_reducible apply aM | with_reducible apply aN
 case he=>exact kq rfl inferInstance rfl (.there .here) an (by rfl)
 case hR=>
  intro w' au
  exact aB (some ⟨b1,0,none⟩,2) trivial (by exact .cons .here .nil) au rfl
instance :DecidableEq Tk:=fun a b=>decidable_of_iff (a.de=b.de∧a.so=b.so) (by cases a;cases b;simp)
theorem NK {c:Cx} {hs hs':List a8} {w:World} {r:Ro} {x:Value×Value×Value×Value} (hm:Mem c hs w) (ht:bo hs (tt r x) hs'):RR w r x.1 x.2.1 x.2.2.1 x.2.2.2:=by
 have lP:=hm.iZ ht
 exact ⟨cZ lP .here rfl,c5 lP (.there .here) rfl,cY lP bN rfl,cR lP cX rfl⟩
theorem R6 {c:Cx} {hs hs':List a8} {w:World} {r:Ro} {x:Value×Value×Value×Value} (hm:Mem c hs w) (ht:bo hs (O3 r x) hs'):RR w r x.1 x.2.1 x.2.2.1 x.2.2.2:=by
 have lP:=hm.iZ ht
 exact ⟨cZ lP .here rfl,c5 lP (.there .here) rfl,cY lP bN rfl,cR lP cX rfl⟩
theorem lI {c:Cx} {D:List Nat} {sl:aI} {hs hs':List a8} {X:Act→World→Prop} {r:Ro} {s d t p:Value} (ht:bo hs (O3 r (s,d,t,p)) hs')
  (k:s.oneCell'=true→d.oneCell'=true→t.oneCell'=true→p.oneCell'=true→Tr c D sl (row 118 2 s r.sr.length (nH r.sr)::row 88 3 d r.de.length (lE r.de)::row 122 3 t r.ti.length (pC r.ti)::row 180 3 p r.po.length (jf r.po)::hs') X):Tr c D sl hs X:=by
 intro a w a7
 have hm:=a7.mem.iZ (ht.append (l8 D))
 have k2:Tr c D sl (row 118 2 s r.sr.length (nH r.sr)::row 88 3 d r.de.length (lE r.de)::row 122 3 t r.ti.length (pC r.ti)::row 180 3 p r.po.length (jf r.po)::hs') X:=by
  refine aY (E:=118) (sz:=2) (v:=s) .here fun _ _ e=>?_
  have k1:s.oneCell'=true:=by rw [e];rfl
  clear e
  refine aY (E:=88) (sz:=3) (v:=d) (.there .here) fun _ _ e=>?_
  have k2:d.oneCell'=true:=by rw [e];rfl
  clear e
  refine aY (E:=122) (sz:=3) (v:=t) bN fun _ _ e=>?_
  have k3:t.oneCell'=true:=by rw [e];rfl
  clear e
  refine aY (E:=180) (sz:=3) (v:=p) cX fun _ _ e=>?_
  have k4:p.oneCell'=true:=by rw [e];rfl
  clear e
  exact k k1 k2 k3 k4
 exact k2 a w (a7.heap hm)
theorem BM {v1 v2:Value} {l m:List gy} {w:World} (h1:Rd w v1 2 (jm l)) (Xk:vN w l) (h2:Rd w v2 2 (jm m)) (Xj:vN w m) :
  aj Tryz.prog 53 [v1,v2] w (.bool (decide (c8 l=c8 m))):=by
 obtain ⟨a1,T8,b1,o1,rfl,ng,gr,kF,jJ⟩:=h1
 obtain ⟨a2,nA,b2,o2,rfl,jt,eA,iW,jq⟩:=h2
 rw [eK] at *
 rw [eK] at *
 unfold maxLen at gr eA
 refine ah Tryz.func53 rfl rfl ?_
 (refine Jr<|Ja rfl<|Jn<|Jq<|Jr<|Jv rfl<|JI rfl<|Jv rfl<|JI rfl<|JD rfl<|Jn<|gm rfl (fun ar=>?_) fun ar=>?_;refine Jr<|Ja rfl<|Jn<|Ju<|JT ?_;rotate_left;refine Jk<|Jq<|Jr<|Ja rfl<|Jn<|J0 ?_;rotate_right)
 ·rw [decide_eq_false fun e=>ar (by have:=congrArg List.length e;unfold c8 at this;rw [Zd,Zd] at this;rw [this])]
 have RD:l.length=m.length:=by omega
 refine aX (ι:=Nat) (fun k=>k≤l.length∧(c8 l=c8 m↔c8 (l.drop k)=c8 (m.drop k))) (fun k=>[(5,.int .i64 (k:Int)),(0,.slice a1 l.length T8),(1,.slice a2 m.length nA)]) (fun _=>[]) (fun k=>l.length-k) ?_ ?_
 ·apply aJ (0:Nat) ⟨Zi _,Iff.rfl⟩
  case hs1=>exact cd
  case ht=>(try simp only [Ze,Zf,Za]);exact .nil
 rintro k ⟨hk,hf⟩
 by_cases aL:k<l.length
 ·have fv:k<m.length:=by omega
  have vd:=kF (mA aL)
  have og:=iW (mA fv)
  have kR:=(jJ k _ (kc aL)).2
  have eM:=(jq k _ (kc fv)).2
  have x1:=Xk _ (Zj aL)
  have x2:=Xj _ (Zj fv)
  have hd:c8 (l.drop k)=c8 (m.drop k)↔(l[k].tk=m[k].tk∧c8 (l.drop (k+1))=c8 (m.drop (k+1))):=by
   rw [List.drop_eq_getElem_cons aL,List.drop_eq_getElem_cons fv]
   unfold c8
   rw [List.map_cons,List.map_cons]
   exact List.cons_eq_cons
  rw [hd] at hf
  clear hd
  unfold gy.cells at kR eM
  generalize l[k]=x at kR x1 hf
  generalize m[k]=y at eM x2 hf
  obtain ⟨⟨xd,xs⟩,xv⟩:=x
  obtain ⟨⟨yd,ys⟩,yv⟩:=y
  dsimp only at kR eM x1 x2 hf
  have c1:w.cell? ⟨b1,o1+k*2,none⟩=some (.string xd):=kR 0 _ rfl
  have c2:w.cell? ⟨b2,o2+k*2,none⟩=some (.string yd):=eM 0 _ rfl
  have c3:w.cell? ⟨b1,o1+k*2+1,none⟩=some xv:=kR 1 _ rfl
  have c4:w.cell? ⟨b2,o2+k*2+1,none⟩=some yv:=eM 1 _ rfl
  have XW:∀ w',aG [] w w'→aj Tryz.prog 58 [xv,yv] w' (.bool (decide (xs=ys))):=fun w' hk=>DK (x1.keeps hk) (x2.keeps hk)
  refine Jq<|Jr<|Jv rfl<|Jv rfl<|JI rfl<|JA rfl<|Jn<|Jd rfl fun ar=>Jk<|Jq<|J0<|Jq ?_
  with_reducible refine dP 25 (by kernel_rfl) ?_
  (refine k7 rfl rfl ?_;refine k7 rfl rfl ?_;refine aH (fH vd ar) rfl ?_;refine nC rfl rfl ae ?_;refine aH (ag (.of rfl) (At.base c1 rfl)) rfl ?_;refine k7 rfl rfl ?_;refine k7 rfl rfl ?_;refine aH (az (.of rfl) (.of rfl) og (by omega) (by omega) ba) rfl ?_;refine nC rfl rfl ae ?_;refine aH (ag (.of rfl) (At.base c2 rfl)) rfl ?_;refine aH (hY (.of rfl) (.of rfl)) rfl ?_;refine k7 rfl rfl ?_;refine cJ rfl rfl inferInstance (fun hg bj=>(aR (.of rfl))) rfl ?_;refine cJ rfl rfl inferInstance (fun hg bj=>(aR (.of rfl))) rfl ?_;refine cJ rfl rfl inferInstance (fun hg bj=>(az (.bE hg rfl) (.bE hg rfl) vd (by omega) ar ba)) rfl ?_;refine cJ rfl rfl inferInstance (fun hg bj=>(ao (.bE hg rfl) ae)) rfl ?_;refine cJ rfl rfl inferInstance (fun hg bj=>(ag (.bE hg rfl) (At.base c3 rfl))) rfl ?_;refine cJ rfl rfl inferInstance (fun hg bj=>(aR (.of rfl))) rfl ?_;refine cJ rfl rfl inferInstance (fun hg bj=>(aR (.of rfl))) rfl ?_;refine cJ rfl rfl inferInstance (fun hg bj=>(az (.bE hg rfl) (.bE hg rfl) og (by omega) (by omega) ba)) rfl ?_;refine cJ rfl rfl inferInstance (fun hg bj=>(ao (.bE hg rfl) ae)) rfl ?_;refine cJ rfl rfl inferInstance (fun hg bj=>(ag (.bE hg rfl) (At.base c4 rfl))) rfl ?_;refine mV rfl rfl (fun hg=>(bh (.of rfl) (.cons (.bE hg rfl) (.cons (.bE hg rfl) .nil)) inferInstance e9)) rfl (fun hg w' au=>(XW w' (Mem.keeps au))) ?_;refine cJ rfl rfl inferInstance (fun hg bj=>(eU (.bE hg rfl))) rfl ?_;refine aH (bR (.of rfl) rfl) rfl ?_)
  with_reducible refine dY ?_
  (refine Jn<|nB rfl (fun ar=>?_) fun ar=>?_;refine Jr<|Ja rfl<|Jn<|Je<|Jm<|Jh<|Jh<|Jm<|Jh<|JT ?_;rotate_left;refine Jw<|Jj<|Jt<|Jg<|Jv rfl<|JB rfl (by omega)<|Ja rfl<|Jn ?_;rotate_right)
  ·have hne:¬ c8 l=c8 m:=fun e=>by
    obtain ⟨e1,_⟩:=hf.1 e
    injection e1 with e2 e3
    rcases ar with h | h
    ·exact h e2
    ·exact h e3
   rw [decide_eq_false hne]
  ·obtain ⟨q1,q2⟩:=ar
   have q1:=Decidable.not_not.1 q1
   subst q1;subst q2
   clear XW
   apply aK (k+1) ⟨(show k+1≤l.length from aL),hf.trans ⟨fun e=>e.2,fun e=>⟨rfl,e⟩⟩⟩ (show l.length-(k+1)<l.length-k by omega)
   case hs1=>exact cd
   case ht=>(try simp only [Ze,Zf,Za]);exact .nil
 ·obtain rfl:k=l.length:=by omega
  have:c8 l=c8 m:=hf.2 (by rw [List.drop_length,RD,List.drop_length])
  refine Jq<|Jr<|Jv rfl<|Jv rfl<|JI rfl<|JA rfl<|Jn<|Jc rfl fun ar=>Jp<|Jl<|Jo<|Jt<|Jr<|Ja rfl<|Jn<|Je<|JT ?_
  rw [decide_eq_true this]
theorem Hm {r:Ro} {s d t p v:Value} {q:List Po} {w:World} (h:RR w r s d t p) (cG:mX r) (hv:Rd w v 3 (sU q)):aj Tryz.prog 110 [RA r s d t p,v] w (.bool (decide (r.po=q))):=by
 have h1:=Rd.one h.sr
 have h2:=Rd.one h.de
 have h3:=Rd.one h.ti
 have h4:=Rd.one h.po
 have hv2:=hv
 obtain ⟨av,cv,bv,ov,rfl,_,_,_,_⟩:=hv2
 rw [cN] at *
 have ht:∀ w',aG [] w w'→bd Tryz.prog 57 [.agg #[.int .i64 r.lv,.int .i64 r.ma,s,d,t,p]] w' [] (fun _:Value×Value×Value×Value=>True) (fun x=>RA r x.1 x.2.1 x.2.2.1 x.2.2.2) (fun x=>O3 r x):=fun w' hk=>GG (h.keeps hk) cG
 unfold RA at ht ⊢
 refine ah Tryz.func110 rfl rfl ?_
 refine Jr<|Jy rfl rfl fun _ _=>Ja rfl<|Ji<|ab (cz .here) rfl ?_
 refine JN bI rfl (fun w1 aS=>ht w1 aS.keeps) ?_
 rintro ⟨s1,d1,t1,p1⟩ _
 dsimp only
 try unfold RA
 refine lI (r:=r) (s:=s1) (d:=d1) (t:=t1) (p:=p1) (bz _ _) fun k1 k2 k3 k4=>?_
 (refine Jz rfl rfl fun _ _=>aq (.of rfl) (.of rfl) .here rfl rfl (iu rfl rfl k1 k2 k3 k4) (bC rfl) an ?_;refine Ji<|Jv rfl<|bF rfl rfl ae ?_;refine aq (.of rfl) (.of rfl) .here rfl rfl (ed rfl) (bC rfl) an ?_;refine Jn<|Jq ?_)
 with_reducible refine eN 5 (by kernel_rfl) ?_
 refine aD (fun β=>(cA (.of rfl) fg an (by rfl))) bG rfl ?_
 dsimp only [Nat.zero_add,Nat.reduceAdd]
 with_reducible apply gI (ι:=Value×Value×Value×Value) (Φ:=fun _=>True) (val:=fun x=>.agg #[.int .i64 r.lv,.int .i64 r.ma,x.1,x.2.1,x.2.2.1,x.2.2.2]) (own:=fun x=>O3 r x) (g:=g4) (B:=[]) (args:=fun _=>[.agg #[.int .i64 r.lv,.int .i64 r.ma,s,d,t,p]])
 case hg=>exact Bn
 case hB=>rfl
 case hr=>exact fun β=>bh (.of rfl) (.cons (.of rfl) .nil) inferInstance rfl
 case hd=>rfl
 case hc=>exact fun β w' hb=>ht w' hb.mem.keeps
 dsimp only [Nat.reduceAdd]
 refine aD (fun β=>(cA (.of rfl) .here an (by rfl))) bG rfl ?_
 dsimp only [Nat.reduceAdd]
 with_reducible apply cP (B:=[1]) (F:=fun _=>.bool (decide (r={ r with po:=q }))) (args:=fun β=>[.agg #[.int .i64 r.lv,.int .i64 r.ma,(g4 (β 1)).1,(g4 (β 1)).2.1,(g4 (β 1)).2.2.1,(g4 (β 1)).2.2.2],.agg #[.int .i64 r.lv,.int .i64 r.ma,s1,d1,t1,.slice av q.length cv]])
 case hB=>kernel_rfl
 case hr=>exact fun β=>bh (.of rfl) (.cons (.of rfl) (.cons (.of rfl) .nil)) inferInstance rfl
 case hi=>exact bG
 case hd=>rfl
 case hc=>
  intro β w' dy
  have m1:=dy.at 1 List.mem_cons_self (s:=⟨fun β=>.agg #[.int .i64 r.lv,.int .i64 r.ma,(g4 (β 1)).1,(g4 (β 1)).2.1,(g4 (β 1)).2.2.1,(g4 (β 1)).2.2.2],fun β=>O3 r (g4 (β 1))⟩) (by kernel_rfl)
  dsimp only at m1
  have hk:=dy.mem.keeps
  have r1:=R6 m1 (bz _ _)
  have m2:=dy.mem
  have r2:RR w' { r with po:=q } s1 d1 t1 (.slice av q.length cv):=⟨cZ m2 (by exact Take.there .here) rfl,c5 m2 bN rfl,cY m2 cX rfl,hv.keeps hk⟩
  exact Rg r1 r2
 refine aD (fun β=>(dw (.of rfl))) bG rfl ?_
 refine gE fun β=>?_
 dsimp only [fq,Za,Zb,List.append_eq,Nat.reduceAdd]
 with_reducible refine dj (by kernel_rfl) ?_
 refine Jt<|Je<|JT ?_
 have e:(r={ r with po:=q })↔r.po=q:=⟨fun e=>congrArg Ro.po e,fun e=>by cases r;subst e;rfl⟩
 rw [decide_eq_decide.2 e]
end Go.Proofs.A1
