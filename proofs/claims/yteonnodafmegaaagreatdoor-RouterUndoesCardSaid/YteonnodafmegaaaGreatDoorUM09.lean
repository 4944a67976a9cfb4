/- Parts of the proof: KO KP KQ KR KS KT KU KW KX KYq P5p P5q P5r P5t. -/
import Derived.Test.YteonnodafmegaaaGreatDoorUM08
import Derived.Test.YteonnodafmegaaaGreatDoorUM04
import Derived.Test.YteonnodafmegaaaGreatDoorUM03
import Derived.Shelf.Slices.In.SortNone
import Derived.Test.YteonnodafmegaaaGreatDoorUM02
import Derived.Test.YteonnodafmegaaaGreatDoorUM05
import Derived.Test.YteonnodafmegaaaGreatDoorUM07
import Derived.Test.YteonnodafmegaaaGreatDoorUM01
set_option linter.unusedSectionVars false
set_option linter.unusedVariables false
set_option linter.unusedSimpArgs false
namespace Go.Proofs.A1
open Go Go.SL Go.Shelf Go.RowKit
open Tryz
open Tryz renaming prog->T_
def qd (l:List Int):List Int:=l.mergeSort fun x y=>decide (x<=y)
theorem rp (l:List Int):(qd l).length=l.length:=List.length_mergeSort _
theorem IS (l:List Int):List.Perm (qd l) l:=List.mergeSort_perm _ _
theorem Nz (l:List Int):(qd l).Pairwise (·<=·):=by
 have:=List.pairwise_mergeSort (le:=fun x y:Int=>decide (x<=y)) (fun a b c h1 h2=>by simp at *;omega) (fun a b=>by simp;omega) l
 exact this.imp fun h=>by simpa using h
theorem J8 {α:Type} [Inhabited α] {enc:α->Value} {w:World} {g n:Nat} {os:Array Obj} {cur:Array Value} {e:TypeId} {fr:Nat×Nat} (d:Array α) (hb:w.heap[g]? = some (.cells cur e fr)) :
  (Go.Sort.grow (Go.Sort.putRow enc (Go.Sort.ahead w n) g 0 d) os).heap[g]? = some (.cells (Go.Sort.putCells enc 0 d cur) e fr):=by
 have hg:g<w.heap.size:=(Z2.1 hb).1;rw [Go.Sort.heap_grow_old _ _ (by simpa using hg)];simp [Go.Sort.putRow,Go.Sort.mapBlock,Go.Sort.ahead,Zbo,hb,Go.Sort.onCells]
theorem Hi {α:Type} [Inhabited α] {enc:α->Value} {w:World} {g n:Nat} {os:Array Obj} (d:Array α):aK [g] w (Go.Sort.grow (Go.Sort.putRow enc (Go.Sort.ahead w n) g 0 d) os):=by
 refine ⟨I,I,I,Nat.le_add_right _ _,by simp,fun k hk hne=>?_⟩;rw [Go.Sort.heap_grow_old _ _ (by simpa using hk)];have:g≠k:=fun e=>hne (by rw [e];simp)
 simp [Go.Sort.putRow,Go.Sort.mapBlock,Go.Sort.ahead,Zbo,this]
theorem IM {α:Type} [Inhabited α] {enc:α->Value} (cur:Array Value) (ts:List α) (h:ts.length<=cur.size):(Go.Sort.putCells enc 0 ts.toArray cur).toList.take ts.length=ts.map enc:=by
 apply Zan;intro j;by_cases hj:j<ts.length
 ·rw [List.getElem?_take_of_lt hj,ZaB];simp [Go.Sort.putCells,hj,show j<cur.size by omega]
 ·rw [List.getElem?_take_eq_none (by omega),Zai (by simp;omega)]
variable {L L':List Int} {i:Nat} {l:List Int} {m:Int} {r:Ro} {so:ByteArray} {v:Int} {w:World}
theorem ER {g:Nat} {cur:Array Value} {e:TypeId} (hb:w.heap[g]? = some (.cells cur e (0,0))) (ht:cur.toList.take l.length=l.map (Value.int .i64)):Go.Sort.Holds (Value.int .i64) w g 0 l.toArray:=by
 intro j hj;have nZ:j<l.length:=by simpa using hj
 refine ⟨?_,by simp [World.frozen?,hb]⟩;have h1:(cur.toList.take l.length)[j]? = (l.map (Value.int .i64))[j]?:=by rw [ht]
 rw [List.getElem?_take_of_lt nZ] at h1;simp only [World.cell?,hb,ZH];simp only [Option.isSome_none,ZaT,if_false];rw [ZaB] at h1;rw [h1];simp [nZ]
theorem Rp {v:Value} {n:Nat} {fp:List Nat} (hn:n=l.length) (hl:n<=1000000) (hs:cC (hp w) [row 3 1 v n (l.map (Value.int .i64))] fp) :
  bb T_ 156 [v] w fp (fun _:Unit=>True) (fun _=>.tuple #[]) (fun _=>[row 3 1 v n ((qd l).map (Value.int .i64))]):=by
 obtain ⟨f1,f2,rfl,h1,h2⟩:=hs;obtain rfl:f2=[]:=h2;obtain ⟨rfl,hlen,h1⟩:=h1;rw [ZS];rcases h1 with ⟨rfl,h0⟩ | ⟨g,cap,cur,rfl,hg,kc,jS,qI,AT⟩
 ·have pT:l=[]:=Z5 (by omega);refine (Any.slices_Sort_int_none Tryz.F2 none 0 w).mono fun e w' ⟨he,hw⟩=>?_;subst hw;refine ⟨(),he,trivial,.refl _ _,[],Zao,⟨[],[],I,⟨I,?_,.inl ⟨I,h0⟩⟩,I⟩,by simp⟩;rw [Zd,rp];omega
 ·rw [Zap] at qI AT;have SX:g<w.heap.size:=(Z2.1 hg).1;subst hn;refine (slices_Sort_int g 0 cap l w (ER hg AT) SX (by omega)).mono fun e w' ⟨he,m,os,hw⟩=>?_;subst hw;refine ⟨(),he,trivial,Hi _,[g],by simp,⟨[g],[],I,⟨I,?_,.inr ⟨g,cap,_,I,J8 _ hg,kc,jS,?_,?_⟩⟩,I⟩,by simp [Value.ownBlock]⟩
  ·rw [Zd,rp];omega
  ·simp [Go.Sort.putCells,qI]
  ·rw [Zap];have:=IM (enc:=Value.int .i64) cur (qd l) (by rw [rp];omega);rw [rp] at this;exact this
def LZ (r:Ro) (v:Int) (so de:ByteArray):Int:=if qx r v so de≠0 then qx r v so de else if MM r v so (oq r de) then 24 else 0
def HU (r:Ro) (v:Int) (so de:ByteArray):List Int:=if qx r v so de≠0 then [] else if MM r v so (oq r de) then [] else wA r v so
theorem UG (h:i<L.length) (cur:List Value):(L.map (Value.int .i64)++cur)[i*1]? = some (.q L[i]):=by
 rw [Zap,ZD (by rw [Zd];exact h),ZA,Zc h];rfl
structure w7 (r:Ro) (v:Int) (so:ByteArray) (L:List Int) (m:Int) (L':List Int) (k:Nat):Prop where
 pre:L <+: L'
 nd:L'.Nodup
 rc:∀ x∈L',(fJ r r.po v so).Rc x
 dn:∀ j,j<k->∀ t,(fE r v m r.ti.length)[j]? = some t->(iI r t).to∈L'
theorem w7.y6 (ee:tY r) {v:Int} {so:ByteArray} (hs:so∈cG r) {L L':List Int} {m:Int} {k:Nat} (h:w7 r v so L m L' k):L'.length<=4:=by
 have hl:=ee.lim;refine F5 h.nd fun x hx=>?_;have:=vE ee hs (h.rc x hx);omega
theorem w7.stay {k t:Nat} (h:w7 r v so L m L' k) (ht:(fE r v m r.ti.length)[k]? = some t) (hc:(iI r t).to∈L'):w7 r v so L m L' (k+1):=by
 refine ⟨h.pre,h.nd,h.rc,fun j hj t' Hw=>?_⟩;by_cases e:j=k
 ·subst e;rw [ht] at Hw;cases Hw;exact hc
 ·exact h.dn j (by omega) t' Hw
theorem w7.add {k t:Nat} (h:w7 r v so L m L' k) (hm:m∈L) (ht:(fE r v m r.ti.length)[k]? = some t) (hc:¬ (iI r t).to∈L'):w7 r v so L m (L'++[(iI r t).to]) (k+1):=by
 have jk:=Z1 ht;unfold fE at jk;rw [Zy,ZP,qJ v so,Zl,decide_eq_true_eq] at jk;have YF:(fJ r r.po v so).Rc (iI r t).to:=Wn.Rc.fe (N:=fJ r r.po v so) jk.1 jk.2.2 (by rw [jk.2.1];exact h.rc m (h.pre.subset hm));have h2:w7 r v so L m (L'++[(iI r t).to]) k:=by
  refine ⟨h.pre.trans (Zbl _ _),?_,fun x hx=>?_,fun j hj t' Hw=>ZC _ (h.dn j hj t' Hw)⟩
  ·rw [ZB];refine ⟨h.nd,by simp,fun a ha b hb e=>?_⟩;rw [ZE] at hb;subst hb;subst e;exact hc ha
  ·rcases Zv.1 hx with hx | hx
   ·exact h.rc x hx
   ·rw [ZE.1 hx];exact YF
 exact h2.stay ht (by simp)
theorem w8.next (h:w8 r v so L i) (hi:L[i]? = some m) (hJ:w7 r v so L m L' (fE r v m r.ti.length).length):w8 r v so L' (i+1)/\i+1<=L'.length:=by
 have ju:=(Zm.1 hi).1;have Bw:=hJ.pre.length_le;refine ⟨⟨hJ.nd,hJ.rc,fun x hx=>hJ.pre.subset (h.rt x hx),fun j x hj hx t ht hf=>?_⟩,by omega⟩;have DI:L[j]? = some x:=by
  rw [<- hx];obtain ⟨q,rfl⟩:=hJ.pre;rw [ZD (by omega)]
 by_cases e:j=i
 ·subst e;rw [hi] at DI;cases DI;have hm:t∈fE r v m r.ti.length:=by unfold fE;exact Zy.2 ⟨ZP.2 ht,hf⟩
  obtain ⟨q,hq,e⟩:=Zx hm;exact hJ.dn q hq t (by rw [Zc hq,e])
 ·exact hJ.pre.subset (h.dn j x (by omega) DI t ht hf)
set_option maxHeartbeats 2000000 in
theorem W7 {s d t p:Value} (v:Int) (so de:ByteArray) {w:World} (h:RR w r s d t p) (cO:kE r):bb T_ 36 [RA r s d t p,.q v,.string so,.string de] w [] (fun _:Value=>True) (fun x=>.tuple #[x,.q (LZ r v so de)]) (fun x=>[row 3 1 x (HU r v so de).length ((HU r v so de).map (Value.int .i64))]):=by
 obtain ⟨h1,h2,h3,h4⟩:=h.one;have lR:=h.de;obtain ⟨a3,tg,b3,o3,rfl,nR,gP,uh,qI⟩:=lR;rw [cB] at *;unfold maxLen at gP;unfold RA;refine aT func36 I I ?_
 (refine Jr<|Jy I I fun _ _=>Ja I<|Ja I<|Jn<|Jq<|Jr<|ab (cK .here) I<|Jv I<|Jv I<|Jv I ?_)
 rename_i b4 uQ;refine ai wZ I (fun w' aA=>qQ (s:=s) (d:=.slice a3 r.de.length tg) (t:=t) (p:=p) v so de (h.keeps aA.keeps) cO) ?_
 (refine Ja I<|Ji<|Jv I<|JD I<|Jn<|gB I (fun ar=>?_) fun ar=>?_;refine Jr<|Jv I<|Ja I<|Ja I<|Jn<|Ju ?_;rotate_left;refine Jk<|Jr<|ab (cK .here) I<|Jv I<|Jv I ?_;rotate_right)
 ·have e1:HU r v so de=[]:=if_pos ar;have e2:LZ r v so de=qx r v so de:=if_pos ar;rw [e1,e2];refine aP 3 1 ?_
  with_reducible first|apply aR|apply aS
  case he=>exact gq I I I
  case hR=>
   intro w' aA;exact aD (.z) trivial (by exact .h1 .nil) aA I
 have e0:qx r v so de=0:=Zq.1 ar;obtain ⟨ee,hv,sT,fH⟩:=zo e0;have e1:HU r v so de=if MM r v so (oq r de) then [] else wA r v so:=if_neg ar
 have e2:LZ r v so de=if MM r v so (oq r de) then 24 else 0:=if_neg ar
 clear ar;have ht6:=ee.len.2.2;obtain ⟨j0,AR⟩:∃ i:Nat,bA (bU r) de=(i:Nat):=⟨(bA (bU r) de).toNat,by have:=eE fH;omega⟩;have CZ:j0<r.de.length:=by
  obtain ⟨hl,_⟩:=eF (l:=bU r) (s:=de) (by omega);rw [AR,ZF] at hl;unfold bU at hl;rwa [Zd] at hl
 have T9:oq r de=(r.de[j0]).mx:=by unfold oq;rw [AR,ZF,Zk,Zc CZ];rfl
 have xM:∀ w',aK [] w w'->aj T_ 155 [.agg #[.q r.lv,.q r.ma,s,.slice a3 r.de.length tg,t,p],.string de] w' (.q (j0:Nat)):=fun w' hk=>AR ▸ fS de (h.keeps hk)
 have HJ:=uh (gI CZ);have oT:=(qI j0 _ (fm CZ)).2;unfold De.cells at oT;have xr:=oT 1 _ I;rw [e1,e2];refine JN eK I (fun w1 aG=>FM (s:=s) (d:=.slice a3 r.de.length tg) (t:=t) (p:=p) v so (h.keeps aG.keeps) (by omega) sT) ?_;intro rv _;dsimp only [id_eq,Zb,Za];refine aY (by exact .here) fun ra rc_ e=>?_;subst e;have hC:=w8.begin (v:=v) ee sT;generalize gM r v so r.ti.length=L0 at hC ⊢
 (refine Jz I I fun _ _=>an (.of I) (.of I) .here I I (eL I) (bG I) ak<|Jn<|Jq<|Jr<|Ja I<|Jn<|J0 ?_)
 rename_i QU aaS
 refine FC (ι:=Nat×Value×List Int) (fun x=>w8 r v so x.2.2 x.1/\x.1<=x.2.2.length) (fun x=>[(12,.q (x.1:Nat)),(11,.p QU),(4,.p b4),(1,.q v),(2,.string so),(3,.string de)])
  (fun x=>[bo QU (.cells #[x.2.1] 49 (0,0)),row 3 1 x.2.1 x.2.2.length (x.2.2.map (Value.int .i64)),JP b4 r s (.slice a3 r.de.length tg) t p]) (fun x=>4-x.1) ?_ ?_
 ·apply yj (0,.slice ra L0.length rc_,L0) ⟨hC,Zi _⟩
  case hs1=>exact cu
  case ht=>
   exact .h3 .nil
 rintro ⟨i,ov,L⟩ ⟨hC,hiL⟩ D;dsimp only at hC hiL ⊢;have h4L:=hC.y6 ee sT;have HL:L.length=L.length:=rfl;refine aY (by exact Take.there .here) fun oa oc e=>?_;subst e;by_cases aN:i<L.length
 ·refine Jq<|Jr<|Jv I<|JL I .here I<|JI I<|JA I<|Jn<|Jd I fun ar=>Jk<|Jq<|J0<|Jq ?_;refine cQ (by exact Take.there .here) (by omega) fun g ic cur e oU HC EN Gd=>?_;cases e;have c1:=UG aN cur
  with_reducible refine ef 6 (by kernel_rfl) ?_
  (refine aO (cK bF) I ?_;refine lH I I ?_;refine aO (ie (.there .here)) I ?_;refine lH I I ?_;refine aO (au (.of I) (.of I) I (by omega) ar bn) I ?_;refine aO (ag (.of I) (At.mW .here c1)) I ?_)
  with_reducible refine er ?_
  refine cH (by exact .here) oU HC EN Gd ?_
  with_reducible apply jy
  case hr=>exact eK
  case hd=>rfl
  case ht=>exact bj.nil
  case hc=>
   intro w1 fp aG _ hs1;obtain rfl:fp=[]:=hs1;exact sS (s:=s) (d:=.slice a3 r.de.length tg) (t:=t) (p:=p) v L[i] (h.keeps aG.keeps)
  intro y _;dsimp only [id_eq,Zb,Za];refine Jn<|J0 ?_;have C0:L[i]? = some L[i]:=Zc aN;have jk:L[i]∈L:=Zj aN;generalize L[i]=m at C0 jk ⊢
  refine jn (ps:=[40,41]) (f:=240) (first:=[]) (cap:=[.pointer (some ⟨y.1,0,none⟩),.pointer (some ⟨y.2.1,0,none⟩),.pointer (some ⟨y.2.2,0,none⟩)]) (ι:=Value×List Int) (κ:=Empty)
   (rst:=[JP b4 r s (.slice a3 r.de.length tg) t p]) ?hg
   [JP y.1 r s (.slice a3 r.de.length tg) t p,bo y.2.1 (.cells #[.q m] 3 (0,0)),bo y.2.2 (.cells #[.q v] 3 (0,0))] (MR r v m) ?hit
   (fun k x=>w7 r v so L m x.2 k)
   (fun x=>[bo QU (.cells #[x.1] 49 (0,0)),row 3 1 x.1 x.2.length (x.2.map (Value.int .i64))])
   (fun _=>False) (fun _=>[]) (fun _=>.ret) (.w g L.length oc,L) ⟨List.prefix_rfl,hC.nd,hC.rc,fun j hj=>absurd hj (ZR _)⟩ ?ht ?hlen ?hps ?round ?kn ?kj
  case hg=>exact Is.of I
  case hit=>intro w' aA;exact KE v m h RO.nil (by omega)
  case ht=>
   dsimp only [Zb,Za];exact .cons df (.cons cA (.h3 .nil))
  case hlen=>intro vs oQ;obtain ⟨x,_,rfl⟩:=Zo.1 oQ;rfl
  case hps=>intro t ht;simp only [ZO,Zp,or_false] at ht;rcases ht with rfl | rfl <;> exact Zay rfl
  case kj=>intro y;cases y
  case kn=>
   rintro ⟨TT,L2⟩ D2 hJ;dsimp only [Zb,Za] at hJ ⊢;rw [uM] at hJ;obtain ⟨hC2,Y7⟩:=hC.next C0 hJ;refine Jj<|Jj<|Jt<|Jg<|Jv I<|JB I (by omega)<|Ja I<|Jn ?_;apply BQ (i+1,TT,L2) ⟨hC2,Y7⟩ (show 4-(i+1)<4-i by omega)
   case hs1=>exact cu
   case ht=>
    exact .h2 (.cons cA .nil)
  case round=>
   rintro l2 rc W2 Wr k ⟨TT,L2⟩ vs hsz hk hJ hB hF;dsimp only at hJ;obtain ⟨P0,Vc,rfl,ju,Xy⟩:=EE hk;have ab9:=hJ.y6 ee sT;have HL:L2.length=L2.length:=rfl;have SP:(L2.map (Value.int .i64)).length=L2.length*1:=by rw [Zd,Zap]
   have Lq:∀ (w':World) (TT:Value),Rd w' TT 1 (ints L2)->aj T_ 154 [TT,.q (iI r P0).to] w' (.bool (L2.contains (iI r P0).to)):=fun w' TT hr=>lF _ hr
   dsimp only [Ti.cells,List.zip_cons_cons,List.zip_nil_right,mw,Zb,Za]
   (refine Jg<|Jz I I fun _ _=>an (.of I) (.of I) .here I I (fq I I I) (bG I) ak<|Jn ?_)
   with_reducible apply mI
   case ht=>exact Take.there .here
   refine aY (E:=3) (sz:=1) cA fun va vc e=>?_;subst e
   (refine J0<|Jr<|JL I bF I<|bP I I ae<|JL I (.there .here) I ?_)
   cases HI:L2.contains (iI r P0).to with
   | true =>
    have O4:∀ (w':World),Rd w' (.slice va L2.length vc) 1 (ints L2)->aj T_ 154 [.slice va L2.length vc,.q (iI r P0).to] w' (.bool true):=fun w' hr=>HI ▸ Lq w' _ hr
    (refine ai ba I (fun w' aA=>(O4 w' (kP aA cA HL)))<|JH I<|Jn<|bE (.of I)<|Jw<|Jj ?_)
    apply l5 (.slice va L2.length vc,L2)
    case ht=>exact .here
    case hx=>exact hJ.stay Vc (Zbq.1 HI)
    case h2=>exact .cons (.there .here) (.cons (.there .here) .nil)
   | false =>
    have O4:∀ (w':World),Rd w' (.slice va L2.length vc) 1 (ints L2)->aj T_ 154 [.slice va L2.length vc,.q (iI r P0).to] w' (.bool false):=fun w' hr=>HI ▸ Lq w' _ hr
    (refine ai ba I (fun w' aA=>(O4 w' (kP aA cA HL)))<|JH I<|Jn<|cL (.of I)<|Jg<|JL I bF I<|bP I I ae<|JL I (.there .here) I<|bu (aC (.o I .nil) I I I I) I fun _ _=>?_)
    refine bK (.of I) (.of I) df .here ak (by rfl) (eL I) (by rfl) (by rfl) (by rfl) fa (by rfl) ?_;intro v';refine aY (by exact .here) fun a' dB e=>?_;subst e
    (refine an (.of I) (.of I) df I I (eL I) (bG I) ak<|Jx<|Jj ?_)
    apply l5 (.slice a' (L2.length+1) dB,L2++[(iI r P0).to])
    case ht=>exact cA
    case hx=>exact hJ.add jk Vc (fun hm=>by rw [Zbq.2 hm] at HI;cases HI)
    case h2=>
     show bj _ [bo QU (.cells #[.slice a' (L2.length+1) dB] 49 (0,0)),row 3 1 (.slice a' (L2.length+1) dB) (L2++[(iI r P0).to]).length ((L2++[(iI r P0).to]).map (Value.int .i64))] _;rw [Zg,Zt];exact .h2 .nil
 ·obtain rfl:i=L.length:=by omega
  have tK:=hC.done ee sT;have hcb:L.contains (oq r de)=MM r v so (oq r de):=by rw [Zbe,Zbq,tK,J6]
  have O4:∀ (w':World),Rd w' (.slice oa L.length oc) 1 (ints L)->aj T_ 154 [.slice oa L.length oc,.q (r.de[j0]).mx] w' (.bool (MM r v so (oq r de))):=fun w' hr=>by
   rw [<- hcb,T9];exact lF _ hr
  refine Jq<|Jr<|Jv I<|JL I .here I<|JI I<|JA I<|Jn<|Jc I fun ar=>Jp<|Jl<|Jo<|Jt<|Jq<|Jq ?_
  with_reducible refine ef 10 (by kernel_rfl) ?_
  (refine aO (ie .here) I<|pt I I ae<|aO (ie bF) I<|aO (cK bF) I<|lH I I<|gQ ba I (fun w' aA=>(xM w' (Mem.keeps aA)))<|aO (au (.of I) (.of I) HJ (by omega) (by omega) bn) I<|pt I I ae<|aO (ag (.of I) (At.base xr I)) I<|gQ ba I (fun w' aA=>(O4 w' (kP aA (.there .here) HL))) ?_)
  with_reducible refine er ?_
  cases hrb:MM r v so (oq r de) with
  | true =>
   (refine Jn<|cL (.of I)<|Jr<|Ja I<|Ja I<|Jn<|Ju ?_)
   refine aP 3 1 ?_
   with_reducible first|apply aR|apply aS
   case he=>exact gq I I I
   case hR=>
    intro w' aA;exact aD (.z) trivial (by exact .h1 .nil) aA I
  | false =>
   (refine Jn<|bE (.of I)<|Jk<|Jr<|JL I .here I ?_)
   with_reducible apply eH (As:=[row 3 1 (.slice oa L.length oc) L.length (L.map (Value.int .i64))])
   case hr=>exact bz
   case hd=>rfl
   case ht=>exact ng
   case hc=>
    intro w1 BE aG uf hs1 DN _;exact Rp I (by omega) hs1
   intro _ _;have OM:qd L=wA r v so:=LY ee sT hC.nd tK (IS L) (Nz L);have T6:(wA r v so).length=L.length:=by rw [<- OM,rp]
   rw [OM];dsimp only [id_eq,Zb,Za];refine Ji<|JL I (.there .here) I<|Ja I<|Ja I<|Jn<|Je ?_
   with_reducible first|apply aR|apply aS
   case he=>exact gq I I I
   case hR=>
    intro w' aA;exact aD (.slice oa L.length oc) trivial (show bj _ [row 3 1 (.slice oa L.length oc) (wA r v so).length ((wA r v so).map (Value.int .i64))] _ by rw [T6];exact .h1 .nil) aA I
end Go.Proofs.A1
namespace Go.Proofs.A1
open Go Go.SL
open Tryz
open Tryz renaming prog->T_
variable {L:List Int} {P:Program} {af:Array Edge} {b:Nat} {c:Cx} {cap:List Value} {cv:Value} {dst:Option Tmp} {f:FuncId} {first:List Value} {g:Option (Nat×Bool)} {hs:List bd} {k:Nat} {l:List (ByteArray×Value)} {lv:Value} {p:Int->Bool} {pos:String} {r:Ro} {sl:aH} {w:World} {x y:Operand}
theorem KX {l:List Int} [bO T_ f] {w:World} (h:Rd w lv 1 (ints l)) (cJ:∀ x∈l,∀ w',aK [] w w'->aj T_ f (first++[.q x]++cap) w' (.bool (p x))) :
  aj T_ 247 [lv,.func (.func f) first.toArray cap.toArray] w (.q (fU p l)):=by
 obtain ⟨a,cp,b,o,rfl,dp,bY,ha,hc⟩:=h;rw [c7] at *;unfold maxLen at bY;refine ah func247 I I ?_;refine Jr<|Ja I<|Jn<|Jq<|Jr<|Jv I<|JI I<|Jv I<|Jn<|J0 ?_;refine a7 (fun k:Nat=>k<=l.length/\∀ i,i<k->(l[i]?.map p).getD false=false) (fun k=>[(8,.int .i64 k),(7,.int .i64 l.length),(0,.slice a l.length cp),(1,.func (.func f) first.toArray cap.toArray)]) (fun _=>[]) (fun k=>l.length-k) ?_ ?_
 ·apply aI 0 ⟨Zi _,fun i h=>by omega⟩
  case hs1=>exact cu
  case ht=>(try simp only [Ze,Zf,Za]);exact .nil
 rintro k ⟨hk,hf⟩;by_cases aN:k<l.length
 ·have cP:=ha (jG aN);have c0:w.cell? ⟨b,o+k*1,none⟩=some (.q l[k]):=(hc k _ (iw aN)).2 0 _ I;have iz:=cJ _ (Zj aN);have hps:(l[k]?.map p).getD false=p l[k]:=by simp [aN]
  (refine Jr<|JA I<|Jn<|Jq<|Jd I fun ar=>Jk<|Jq<|J0<|Jr<|Jv I<|Ja I<|Ji<|Jv I<|Jv I<|Jv I<|ab (fZ cP ar) I<|ab (ag (.of I) (At.base c0 I)) I<|ai bz I (fun w' aA=>(iz w' (Mem.keeps aA)))<|Jn<|qv I (fun ar=>?_) fun ar=>?_;refine Jr<|Jv I<|Ja I<|Jn<|Je<|Jm<|Jh<|Jh<|Jm<|Jh<|JT ?_;rotate_left;refine Jw<|Jj<|Jt<|Jg<|JB I (by omega)<|Jv I<|Jn ?_;rotate_right)
  ·rw [gG hf aN ar]
  ·apply aL (k+1) ⟨by omega,fun i hi=>by
    by_cases e:i=k
    ·rw [e,hps];exact ar
    ·exact hf i (by omega)⟩ (by omega)
   case hs1=>exact cu
   case ht=>(try simp only [Ze,Zf,Za]);exact .nil
 ·obtain rfl:k=l.length:=by omega
  refine Jr<|JA I<|Jn<|Jq<|Jc I fun ar=>Jp<|Jl<|Jo<|Jt<|Jr<|Ja I<|Jn<|Je<|JT ?_;rw [fG hf]
theorem wo {l:List Int} [bO T_ f] {w:World} (h:Rd w lv 1 (ints l)) (cJ:∀ x∈l,∀ w',aK [] w w'->aj T_ f (first++[.q x]++cap) w' (.bool (p x))) :
  aj T_ 161 [lv,.func (.func f) first.toArray cap.toArray] w (.bool (l.any p)):=by
 have iz:∀ w',aK [] w w'->aj T_ 247 [lv,.func (.func f) first.toArray cap.toArray] w' (.q (fU p l)):=fun w' hk=>
  KX (h.keeps hk) fun x hx w2 eM=>cJ x hx w2 (hk.trans eM)
 rw [<- iY];refine ah func161 I I ?_
 (refine Jr<|Ja I<|Ji<|Jv I<|Jv I<|ai ba I (fun w' aA=>(iz w' (Mem.keeps aA)))<|JG I<|Ja I<|Jn<|Je<|JT ?_)
 rfl
theorem wC (x:Int) {b:Nat} {w:World} (h:Rd w cv 1 (ints L)) (f1:w.cell? ⟨b,0,none⟩=some cv) :
  aj T_ 157 [.q x,.p b] w (.bool (L.contains x)):=by
 have h1:=Rd.one h;refine ah func157 I I ?_
 (refine Jr<|Ja I<|Ji<|ab (ag (.of I) (At.base f1 I)) I<|Jv I ?_)
 refine ai ba I (fun w' aA=>lF x (h.keeps aA.keeps)) ?_;refine Ja I<|Jn<|Je<|JT ?_
 rfl
theorem wB (x:Int) {b b2:Nat} {w:World} (h:Rd w cv 1 (ints L)) (f1:w.cell? ⟨b,0,none⟩=some cv) (f2:w.cell? ⟨b2,0,none⟩=some (.func (.func 157) #[] #[.p b])) :
  aj T_ 158 [.q x,.p b2] w (.bool (!L.contains x)):=by
 refine ah func158 I I ?_
 (refine Jr<|Ja I<|Ji<|ab (ag (.of I) (At.base f2 I)) I<|Jv I ?_)
 refine ai bz I (fun w' aA=>wC x (h.keeps aA.keeps) (ez f1 I (by simp) aA.keeps)) ?_;refine JH I<|Ja I<|Jn<|Je<|JT ?_
 rfl
def tE (r:Ro) (v:Int) (L:List Int) (x:Ti):Bool:=L.contains x.fr&&!L.contains x.to&&!ig r.po v x.nm
theorem Tw {s d t p:Value} (v:Int) {cv:Value} {L:List Int} (x:Ti) {b b2 b3 b5 b6:Nat} {w:World} (hr:RR w r s d t p) (h:Rd w cv 1 (ints L)) (f1:w.cell? ⟨b,0,none⟩=some cv) (f2:w.cell? ⟨b2,0,none⟩=some (.func (.func 157) #[] #[.p b]))
  (f3:w.cell? ⟨b3,0,none⟩=some (.func (.func 158) #[] #[.p b2])) (hA:BR w b5 (RC r s d t p)) (f6:w.cell? ⟨b6,0,none⟩=some (.q v)) :
  aj T_ 160 [.agg x.cells.toArray,.p b2,.p b3,.p b5,.p b6] w (.bool (tE r v L x)):=by
 have h1:=Rd.one hr.sr;have h2:=Rd.one hr.de;have h3:=Rd.one hr.ti;have h4:=Rd.one hr.po;have kl:∀ (j:Nat) (u:Value),[Value.int .i64 r.lv,.q r.ma,s,d,t,p][j]? = some u->w.cell? ⟨b5,0+j,none⟩=some u:=hA;unfold Ti.cells;refine ah func160 I I ?_
 (refine Jr<|Jy I I fun _ _=>Ja I<|Ji<|ab (ag (.of I) (At.base f2 I)) I<|bP I I ae<|JL I .here I ?_)
 cases kc:L.contains x.fr with
 | false =>
  have hB:tE r v L x=false:=by unfold tE;rw [kc];rfl
  rw [hB];refine ai bz I (fun w' aA=>kc ▸ wC x.fr (h.keeps aA.keeps) (ez f1 I (by simp) aA.keeps)) ?_
  (refine Jv I<|aF I I (fun hg bT=>(ag (.of I) (At.base f3 I))) I<|aF I I (fun hg bT=>(az (.of I) ae)) I<|aF I I (fun hg bT=>(ag (.cD bT I) (At.lit .here I))) I<|dx I I I I<|ab (cV (.of I) (.of I) (.of I) I) I<|Jv I<|aF I I (fun hg bT=>(jB (.of I) (eV.base kl I) I)) I<|aF I I (fun hg bT=>(ag (.of I) (At.base f6 I))) I<|aF I I (fun hg bT=>(az (.of I) ae)) I<|aF I I (fun hg bT=>(ag (.cD bT I) (At.lit .here I))) I<|dx I I I I<|aF I I (fun hg bT=>(dX (.cD bT I))) I<|ab (cV (.of I) (.of I) (.of I) I) I<|Ja I<|Jn<|Je<|JT ?_)
  rfl
 | true =>
  have hB:tE r v L x=(!L.contains x.to&&!ig r.po v x.nm):=by unfold tE;rw [kc];rfl
  rw [hB];refine ai bz I (fun w' aA=>kc ▸ wC x.fr (h.keeps aA.keeps) (ez f1 I (by simp) aA.keeps)) ?_
  (refine Jv I<|JK I I<|ab (ag (.of I) (At.base f3 I)) I<|JK I I<|bP I I ae<|JK I I<|JL I .here I<|JK I I ?_)
  cases jS:L.contains x.to with
  | true =>
   with_reducible apply ai
   case hr=>exact bz
   case hd=>rfl
   case hc=>
    intro w' aA;have q:=wB x.to (h.keeps aA.keeps) (ez f1 I (by simp) aA.keeps) (ez f2 I (by simp) aA.keeps);rw [jS] at q;exact q
   (refine ab (cV (.of I) (.of I) (.of I) I) I<|Jv I<|aF I I (fun hg bT=>(jB (.of I) (eV.base kl I) I)) I<|aF I I (fun hg bT=>(ag (.of I) (At.base f6 I))) I<|aF I I (fun hg bT=>(az (.of I) ae)) I<|aF I I (fun hg bT=>(ag (.cD bT I) (At.lit .here I))) I<|dx I I I I<|aF I I (fun hg bT=>(dX (.cD bT I))) I<|ab (cV (.of I) (.of I) (.of I) I) I<|Ja I<|Jn<|Je<|JT ?_)
   rfl
  | false =>
   with_reducible apply ai
   case hr=>exact bz
   case hd=>rfl
   case hc=>
    intro w' aA;have q:=wB x.to (h.keeps aA.keeps) (ez f1 I (by simp) aA.keeps) (ez f2 I (by simp) aA.keeps);rw [jS] at q;exact q
   (refine ab (eW (.of I) (.of I) (.of I) I) I<|Jv I<|JK I I<|ab (iA (eV.base kl I)) I<|JK I I<|ab (ag (.of I) (At.base f6 I)) I<|JK I I<|bP I I ae<|JK I I<|JL I .here I<|JK I I ?_)
   cases hb:ig r.po v x.nm with
   | true =>
    with_reducible apply ai
    case hr=>exact eK
    case hd=>rfl
    case hc=>
     intro w' aA;have q:=qS v x.nm (hr.keeps aA.keeps);rw [hb] at q;exact q
    (refine JK I I<|JH I<|ab (cV (.of I) (.of I) (.of I) I) I<|Ja I<|Jn<|Je<|JT ?_)
    rfl
   | false =>
    with_reducible apply ai
    case hr=>exact eK
    case hd=>rfl
    case hc=>
     intro w' aA;have q:=qS v x.nm (hr.keeps aA.keeps);rw [hb] at q;exact q
    (refine JK I I<|JH I<|ab (eW (.of I) (.of I) (.of I) I) I<|Ja I<|Jn<|Je<|JT ?_)
    rfl
theorem br {α:Type} {l:List Oper} {i:Nat} {v:α}:nW l i (fun _=>v):=fun _ _ _=>rfl
def CN (L:List Int) (k:Nat):Int:=if k=0 then -1 else L.getD (k-1) 0
theorem EI (h:k<L.length):CN L (k+1)=L[k]:=by
 unfold CN;rw [if_neg (by omega),ZaE,Zk,Zc h];rfl
def Ui (r:Ro) (L:List Int) (k:Nat):Int:=(L[k]?.map fun x=>aW [fj r x,bQ (decide (x<=CN L k)) 11]).getD 0
theorem Tx (h:k<L.length):Ui r L k=aW [fj r L[k],bQ (decide (L[k]<=CN L k)) 11]:=by
 unfold Ui;rw [Zc h];rfl
def XK (r:Ro) (v:Int) (so de:ByteArray) (L:List Int):Int:=aW [qx r v so de,bQ (decide ((4:Int)<(L.length:Nat))) 5]
def Ug (r:Ro) (L:List Int):Int:=jJ (Ui r L) L.length
def Uf (r:Ro) (v:Int) (so de:ByteArray) (L:List Int):Bool:=r.ti.any (tE r v L)||(gM r v so r.ti.length).any (fun x=>!L.contains x)||L.contains (oq r de)
def XJ (r:Ro) (v:Int) (so de:ByteArray) (L:List Int):Int:=if XK r v so de L≠0 then XK r v so de L else if Ug r L≠0 then Ug r L else bQ (Uf r v so de L) 19
set_option maxHeartbeats 2000000 in
theorem Fq {s d t p cv:Value} (v:Int) (so de:ByteArray) {L:List Int} {w:World} (h:RR w r s d t p) (cO:kE r) (hw:Rd w cv 1 (ints L)) :
  aj T_ 37 [RA r s d t p,.q v,.string so,.string de,cv] w (.q (XJ r v so de L)):=by
 obtain ⟨h1,h2,h3,h4⟩:=h.one;have Bv:=hw;obtain ⟨aw,cw,bw,ow,rfl,Qx,CV,V4,Lp⟩:=hw;rw [c7] at *;unfold maxLen at CV;have hcw:∀ w',aK [] w w'->aj T_ 151 [.agg #[.int .i64 r.lv,.int .i64 r.ma,s,d,t,p],.int .i64 v,.string so,.string de] w' (.int .i64 (qx r v so de)):=fun w' hk=>qQ v so de (h.keeps hk) cO
 unfold RA;refine ah func37 I I ?_;refine Jr<|Jy I I fun _ _=>Jy I I fun _ _=>Jy I I fun _ _=>Ja I<|Jn<|Jq<|Jq ?_
 with_reducible refine cW 10 (by kernel_rfl) ?_
 (refine ao (cK bF) I<|ao (ie (.there .here)) I<|ao lX I<|ao lX I<|a8 wZ I (fun w' aA=>(hcw w' (Mem.keeps aA)))<|ao (ie .here) I<|ao (cI (.of I)) I<|ao (ln (.of I) (.of I)) I<|a8 ba I (fun w' aA=>(dO _ 5 w'))<|eC (aC (.o I (.o I .nil)) I I I I) I I ?_)
 with_reducible refine dw I fun bq nf=>?_
 (refine ai bz I (fun w' aA=>(dG (Mem.dh aA .here I I) (cm.cons (cm.cons cm.nil))))<|Ja I<|Ji<|Jv I<|JD I<|Jn<|gB I (fun ar=>?_) fun ar=>?_;refine Jr<|Jv I<|Ja I<|Jn<|Ju<|JT ?_;rotate_left;refine Jk<|Jr<|Ja I<|Jn<|Jq<|Jr<|JL I (.there .here) I<|JI I<|Jv I<|Jn<|J0 ?_;rotate_right)
 ·have e1:XJ r v so de L=XK r v so de L:=if_pos ar;rw [e1];rfl
 have Gi:XK r v so de L=0:=Zq.1 ar;have hX:XJ r v so de L=if Ug r L≠0 then Ug r L else bQ (Uf r v so de L) 19:=if_neg ar
 clear ar;obtain ⟨ee,hv,sT,fH⟩:=zo (bS.1 Gi _ Zr);have h6:L.length<=4:=by
  have:=(bI (by decide)).1 (bS.1 Gi (bQ (decide ((4:Int)<(L.length:Nat))) 5) (by simp));simp only [decide_eq_false_iff_not] at this;omega
 have ht6:=ee.len.2.2;rename_i b5 MY b6 hb6 b9 hb9
 refine a7 (fun k:Nat=>k<=L.length/\∀ i,i<k->Ui r L i=0) (fun k=>[(35,.q (k:Nat)),(34,.q (L.length:Nat)),(33,.slice aw L.length cw),(12,.q (CN L k)),(9,.p b9),(6,.p b6),(5,.p b5),(2,.string so),(3,.string de)])
  (fun k=>[bo b9 (.cells #[.slice aw L.length cw] 49 (0,0)),bo b6 (.cells #[.q v] 3 (0,0)),JP b5 r s d t p]) (fun k=>L.length-k) ?_ ?_
 ·apply aI 0 ⟨Zi _,fun i hi=>by omega⟩
  case hs1=>exact cu
  case ht=>(try simp only [Ze,Zf,Za]);exact .cons (.there .here) (.cons (.there .here) (.cons (.there .here) .nil))
 rintro k ⟨hk,hf⟩;by_cases aN:k<L.length
 ·have Lt:=V4 (jG aN);have c0:w.cell? ⟨bw,ow+k*1,none⟩=some (.q L[k]):=(Lp k _ (iw aN)).2 0 _ I;have iF:=Tx (r:=r) aN;have hhs:∀ w',aK [] w w'->aj T_ 136 [.agg #[.q r.lv,.q r.ma,s,d,t,p],.q L[k]] w' (.q (fj r L[k])):=fun w' hk=>Gf (s:=s) (d:=d) (t:=t) (p:=p) L[k] h
  (refine Jr<|JA I<|Jn<|Jq<|Jd I fun ar=>Jk<|Jq<|J0<|Jr<|ab (au (.of I) (.of I) Lt (by omega) ar bn) I<|ab (ag (.of I) (At.base c0 I)) I<|Ja I<|Jn<|Jq<|Jr<|ab (cK bF) I<|Jv I<|ai ba I (fun w' aA=>(hhs w' (Mem.keeps aA)))<|Jv I<|Jv I<|JF I<|ai ba I (fun w' aA=>(dO _ 11 w'))<|bu (aC (.o I (.o I .nil)) I I I I) I fun _ _=>ai bz I (fun w' aA=>(dG (Mem.dh aA .here I I) (cm.cons (cm.cons cm.nil))))<|Ja I<|Ji<|Jv I<|JD I<|Jn<|gB I (fun ar=>?_) fun ar=>?_;refine Jr<|Jv I<|Ja I<|Jn<|Ju<|Jm<|Jh<|Jh<|Jm<|Jh<|JT ?_;rotate_left;refine Jk<|Jg<|Jv I<|Ja I<|Jx<|Jj<|Jt<|Jg<|JB I (by omega)<|Jv I<|Jn ?_;rotate_right)
  ·rw [<- iF] at ar ⊢;have hB:Ug r L=Ui r L k:=fg hf aN ar;rw [<- hB] at ar ⊢;rw [hX,if_pos ar]
  have hz:Ui r L k=0:=by rw [iF];exact Zq.1 ar
  have CX:=EI aN;apply aL (k+1) ⟨by omega,fun i hi=>by
   by_cases e:i=k
   ·rw [e];exact hz
   ·exact hf i (by omega)⟩ (by omega)
  case hs1=>rw [CX];exact .cons I (.cons I (.cons I (.cons I (.cons I (.cons I (.cons I (.cons I (.cons I .nil))))))))
  case ht=>exact ng
 ·obtain rfl:k=L.length:=by omega
  have HM:Ug r L=0:=dV.2 hf;rw [hX,if_neg (by rw [HM];decide)]
  (refine Jr<|JA I<|Jn<|Jq<|Jc I fun ar=>Jp<|Jl<|Jo<|Jt<|Jr<|ab (bD .nil (.o I .nil)) I<|Jz I I fun _ _=>an (.of I) (.of I) .here I I (eL I) (bG I) ak<|Ji<|ab (bD .nil (.o I .nil)) I<|Jz I I fun _ _=>an (.of I) (.of I) .here I I (eL I) (bG I) ak<|Ji<|bP I I ae<|JL I df I<|ab (bD .nil (.o I (.o I (.o I (.o I .nil))))) I ?_)
  rename_i xV aaP DP aaO
  with_reducible apply ai
  case hr=>exact ba
  case hd=>rfl
  case hc=>
   intro w' aA;have hR:=h.keeps aA.keeps;have f9:w'.cell? ⟨b9,0,none⟩=some (.slice aw L.length cw):=At.lit bF I w' aA;have f16:w'.cell? ⟨xV,0,none⟩=some (.func (.func 157) #[] #[.p b9]):=At.lit (by exact Take.there .here) I w' aA;have f17:w'.cell? ⟨DP,0,none⟩=some (.func (.func 158) #[] #[.p xV]):=At.lit (by exact .here) I w' aA;have f6:w'.cell? ⟨b6,0,none⟩=some (.q v):=At.lit cA I w' aA;have hA:BR w' b5 [.q r.lv,.q r.ma,s,d,t,p]:=BR.of aA df;exact AU (f:=160) (p:=tE r v L) (first:=[]) (cap:=[.p xV,.p DP,.p b5,.p b6]) hR.ti (fun x hx w2 eM=>Tw v x (hR.keeps eM) (Bv.keeps (aA.keeps.trans eM)) (cE f9 I eM) (cE f16 I eM) (cE f17 I eM) (hA.keeps eM) (cE f6 I eM))
  refine Ja I<|Jn<|Jq ?_;cases xk:r.ti.any (tE r v L) with
  | true =>
   have hC:Uf r v so de L=true:=by unfold Uf;rw [xk];rfl
   rw [hC]
   with_reducible refine dP 23 (by kernel_rfl) ?_
   (refine aq (fun β=>(aX (.of I))) dj I<|aq (fun β=>(aX (.of I))) dj I<|dK I (fun _=>rfl) (Or.inr I) I<|dK I (fun _=>rfl) (Or.inr I) I<|dK I (fun _=>rfl) (Or.inr I) I<|dK I (fun _=>rfl) (Or.inr I) I<|dK I (fun _=>rfl) (Or.inr I) I<|dK I (fun _=>rfl) (Or.inr I) I<|aq (fun β=>(eW (.of I) (.of I) (.of I) I)) dj I<|aq (fun β=>(aX (.of I))) dj I<|dK I (fun _=>rfl) (Or.inr I) I<|dK I (fun _=>rfl) (Or.inr I) I<|dK I (fun _=>rfl) (Or.inr I) I<|dK I (fun _=>rfl) (Or.inr I) I<|dK I (fun _=>rfl) (Or.inr I) I<|dK I (fun _=>rfl) (Or.inr I) I<|dK I (fun _=>rfl) (Or.inr I) I<|dK I (fun _=>rfl) (Or.inr I) I<|dK I (fun _=>rfl) (Or.inr I) I<|dK I (fun _=>rfl) (Or.inr I) I<|aq (fun β=>(eW (.of I) (.of I) (.of I) I)) dj I ?_)
   dsimp only [Nat.zero_add,Nat.reduceAdd]
   with_reducible apply cy (B:=[]) (F:=fun _=>.q (bQ true 19)) (args:=fun _=>[.bool true,.q 19])
   case hB=>rfl
   case hr=>exact fun β=>aZ (.of I) (.o I (.o I .nil)) inferInstance I
   case hi=>exact br
   case hd=>rfl
   case hc=>exact fun β w' hb=>dO _ _ _
   refine aq (fun β=>(cS (.of I))) dj I ?_;refine fo fun β=>?_;dsimp only [eB,Za,Zb,List.append_eq,Nat.reduceAdd]
   with_reducible refine cM (by kernel_rfl) ?_
   refine Jt<|Je<|JT ?_
   rfl
  | false =>
   have hC:Uf r v so de L=((gM r v so r.ti.length).any (fun x=>!L.contains x)||L.contains (oq r de)):=by unfold Uf;rw [xk];rfl
   rw [hC];obtain ⟨j0,AR⟩:∃ i:Nat,bA (bU r) de=(i:Nat):=⟨(bA (bU r) de).toNat,by have:=eE fH;omega⟩;have CZ:j0<r.de.length:=by
    obtain ⟨hl,_⟩:=eF (l:=bU r) (s:=de) (by omega);rw [AR,ZF] at hl;unfold bU at hl;rwa [Zd] at hl
   have T9:oq r de=(r.de[j0]).mx:=by unfold oq;rw [AR,ZF,Zk,Zc CZ];rfl
   have OO:∀ w',aK [] w w'->bb T_ 152 [.agg #[.q r.lv,.q r.ma,s,d,t,p],.q v,.string so] w' [] (fun _:Value=>True) id (fun x=>[row 3 1 x (gM r v so r.ti.length).length ((gM r v so r.ti.length).map (Value.int .i64))]):=fun w' hk=>FM (s:=s) (d:=d) (t:=t) (p:=p) v so (h.keeps hk) (by omega) sT
   have xM:∀ w',aK [] w w'->aj T_ 155 [.agg #[.q r.lv,.q r.ma,s,d,t,p],.string de] w' (.q (j0:Nat)):=fun w' hk=>AR ▸ fS de (h.keeps hk)
   generalize gM r v so r.ti.length=R0 at OO ⊢;cases YB:R0.any (fun x=>!L.contains x) with
   | true =>
    rw [Bool.true_or]
    with_reducible refine dP 23 (by kernel_rfl) ?_
    (refine aq (fun β=>(aX (.of I))) dj I<|aq (fun β=>(aX (.of I))) dj I<|cd I (fun _=>rfl)<|aq (fun β=>(bV (.of I) df ak (by rfl))) dj I<|cd I (fun _=>rfl)<|aq (fun β=>(ag (.of I) (At.lit cA I))) dj I<|cd I (fun _=>rfl)<|aq (fun β=>(aX (.of I))) dj I ?_)
    dsimp only [Nat.zero_add,Nat.reduceAdd];refine cd I (fun _=>rfl) ?_
    with_reducible apply dW (ι:=Value) (Φ:=fun _=>True) (val:=id) (own:=fun x=>[row 3 1 x R0.length (R0.map (Value.int .i64))]) (g:=id) (B:=[]) (args:=fun _=>[.agg #[.q r.lv,.q r.ma,s,d,t,p],.q v,.string so])
    case hg=>exact fun x=>⟨x,I⟩
    case hB=>rfl
    case hr=>exact fun β=>aZ (.of I) (.o I (.o I (.o I .nil))) inferInstance I
    case hd=>rfl
    case hc=>exact fun β w' hb=>OO w' hb.mem.keeps
    dsimp only [id_eq,Nat.reduceAdd]
    (refine cd I (fun _=>rfl)<|aq (fun β=>(ag (.of I) (At.lit .here I))) dj I ?_)
    dsimp only [Nat.zero_add,Nat.reduceAdd];refine cd I (fun _=>rfl) ?_
    with_reducible apply cy (B:=[5]) (F:=fun _=>.bool true) (args:=fun β=>[β 5,.func (.func 158) #[] #[.p xV]])
    case hB=>first | rfl | kernel_rfl
    case hr=>exact fun β=>aZ (.of I) (.o I (.o I .nil)) inferInstance I
    case hi=>exact br
    case hd=>rfl
    case hc=>
     intro β w' hb;have m5:=hb.at 5 Zr (s:=⟨fun β=>β 5,fun β=>[row 3 1 (β 5) R0.length (R0.map (Value.int .i64))]⟩) (by kernel_rfl)
     dsimp only [Zb,Za] at m5;have s1:Rd w' (β 5) 1 (ints R0):=kP m5 (by exact .here) I;have f9:w'.cell? ⟨b9,0,none⟩=some (.slice aw L.length cw):=At.lit cA I w' m5;have f16:w'.cell? ⟨xV,0,none⟩=some (.func (.func 157) #[] #[.p b9]):=At.lit bF I w' m5;have q:=wo (f:=158) (p:=fun x=>!L.contains x) (first:=[]) (cap:=[.p xV]) s1 (fun x hx w2 eM=>wB x (Bv.keeps (hb.mem.keeps.trans eM)) (cE f9 I eM) (cE f16 I eM))
     rw [YB] at q;exact q
    (refine aq (fun β=>(eW (.of I) (.of I) (.of I) I)) dj I<|aq (fun β=>(aX (.of I))) dj I<|dK I (fun _=>rfl) (Or.inr I) I<|dK I (fun _=>rfl) (Or.inr I) I<|dK I (fun _=>rfl) (Or.inr I) I<|dK I (fun _=>rfl) (Or.inr I) I<|dK I (fun _=>rfl) (Or.inr I) I<|dK I (fun _=>rfl) (Or.inr I) I<|dK I (fun _=>rfl) (Or.inr I) I<|dK I (fun _=>rfl) (Or.inr I) I<|dK I (fun _=>rfl) (Or.inr I) I<|dK I (fun _=>rfl) (Or.inr I) I<|aq (fun β=>(eW (.of I) (.of I) (.of I) I)) dj I ?_)
    dsimp only [Nat.zero_add,Nat.reduceAdd]
    with_reducible apply cy (B:=[]) (F:=fun _=>.q (bQ true 19)) (args:=fun _=>[.bool true,.q 19])
    case hB=>rfl
    case hr=>exact fun β=>aZ (.of I) (.o I (.o I .nil)) inferInstance I
    case hi=>exact br
    case hd=>rfl
    case hc=>exact fun β w' hb=>dO _ _ _
    refine aq (fun β=>(cS (.of I))) dj I ?_;refine fo fun β=>?_;dsimp only [eB,Za,Zb,List.append_eq,Nat.reduceAdd]
    with_reducible refine cM (by kernel_rfl) ?_
    refine Jt<|Je<|JT ?_
    rfl
   | false =>
    rw [Bool.false_or];have lR:=h.de;obtain ⟨a3,tg,b3,o3,rfl,nR,gP,uh,qI⟩:=lR;rw [cB] at *;unfold maxLen at gP;have HJ:=uh (gI CZ);have oT:=(qI j0 _ (fm CZ)).2;unfold De.cells at oT;have xr:=oT 1 _ I;rw [<- T9] at xr;cases T6:L.contains (oq r de) with
    | true =>
     with_reducible refine dP 23 (by kernel_rfl) ?_
     (refine aq (fun β=>(aX (.of I))) dj I<|aq (fun β=>(aX (.of I))) dj I<|cd I (fun _=>rfl)<|aq (fun β=>(bV (.of I) df ak (by rfl))) dj I<|cd I (fun _=>rfl)<|aq (fun β=>(ag (.of I) (At.lit cA I))) dj I<|cd I (fun _=>rfl)<|aq (fun β=>(aX (.of I))) dj I ?_)
     dsimp only [Nat.zero_add,Nat.reduceAdd];refine cd I (fun _=>rfl) ?_
     with_reducible apply dW (ι:=Value) (Φ:=fun _=>True) (val:=id) (own:=fun x=>[row 3 1 x R0.length (R0.map (Value.int .i64))]) (g:=id) (B:=[]) (args:=fun _=>[.agg #[.q r.lv,.q r.ma,s,.slice a3 r.de.length tg,t,p],.q v,.string so])
     case hg=>exact fun x=>⟨x,I⟩
     case hB=>rfl
     case hr=>exact fun β=>aZ (.of I) (.o I (.o I (.o I .nil))) inferInstance I
     case hd=>rfl
     case hc=>exact fun β w' hb=>OO w' hb.mem.keeps
     dsimp only [id_eq,Nat.reduceAdd]
     (refine cd I (fun _=>rfl)<|aq (fun β=>(ag (.of I) (At.lit .here I))) dj I ?_)
     dsimp only [Nat.zero_add,Nat.reduceAdd];refine cd I (fun _=>rfl) ?_
     with_reducible apply cy (B:=[5]) (F:=fun _=>.bool false) (args:=fun β=>[β 5,.func (.func 158) #[] #[.p xV]])
     case hB=>first | rfl | kernel_rfl
     case hr=>exact fun β=>aZ (.of I) (.o I (.o I .nil)) inferInstance I
     case hi=>exact br
     case hd=>rfl
     case hc=>
      intro β w' hb;have m5:=hb.at 5 Zr (s:=⟨fun β=>β 5,fun β=>[row 3 1 (β 5) R0.length (R0.map (Value.int .i64))]⟩) (by kernel_rfl)
      dsimp only [Zb,Za] at m5;have s1:Rd w' (β 5) 1 (ints R0):=kP m5 (by exact .here) I;have f9:w'.cell? ⟨b9,0,none⟩=some (.slice aw L.length cw):=At.lit cA I w' m5;have f16:w'.cell? ⟨xV,0,none⟩=some (.func (.func 157) #[] #[.p b9]):=At.lit bF I w' m5;have q:=wo (f:=158) (p:=fun x=>!L.contains x) (first:=[]) (cap:=[.p xV]) s1 (fun x hx w2 eM=>wB x (Bv.keeps (hb.mem.keeps.trans eM)) (cE f9 I eM) (cE f16 I eM))
      rw [YB] at q;exact q
     (refine aq (fun β=>(cV (.of I) (.of I) (.of I) I)) dj I<|aq (fun β=>(aX (.of I))) dj I<|cd I (fun _=>rfl)<|aq (fun β=>(ag (.of I) (At.lit (.there .here) I))) dj I<|cd I (fun _=>rfl)<|aq (fun β=>(az (.of I) ae)) dj I<|cd I (fun _=>rfl)<|aq (fun β=>(ag (.of I) (At.lit df I))) dj I<|cd I (fun _=>rfl)<|aq (fun β=>(bV (.of I) df ak (by rfl))) dj I<|cd I (fun _=>rfl)<|aq (fun β=>(aX (.of I))) dj I ?_)
     dsimp only [Nat.zero_add,Nat.reduceAdd];refine cd I (fun _=>rfl) ?_
     with_reducible apply cy (B:=[]) (F:=fun _=>.q (j0:Nat)) (args:=fun _=>[.agg #[.q r.lv,.q r.ma,s,.slice a3 r.de.length tg,t,p],.string de])
     case hB=>rfl
     case hr=>exact fun β=>aZ (.of I) (.o I (.o I .nil)) inferInstance I
     case hi=>exact br
     case hd=>rfl
     case hc=>exact fun β w' hb=>xM w' hb.mem.keeps
     (refine cd I (fun _=>rfl)<|aq (fun β=>(au (.of I) (.of I) HJ (by omega) (by omega) bn)) dj I<|cd I (fun _=>rfl)<|aq (fun β=>(az (.of I) ae)) dj I<|cd I (fun _=>rfl)<|aq (fun β=>(ag (.of I) (At.base xr I))) dj I ?_)
     dsimp only [Nat.zero_add,Nat.reduceAdd];refine cd I (fun _=>rfl) ?_
     with_reducible apply cy (B:=[]) (F:=fun _=>.bool true) (args:=fun _=>[.q (oq r de),.p b9])
     case hB=>rfl
     case hr=>exact fun β=>aZ (Is.of I) (H7.cons (Is.of I) H7.nil) inferInstance eQ
     case hi=>exact br
     case hd=>rfl
     case hc=>
      intro β w' hb;have m5:=hb.mem;have f9:w'.cell? ⟨b9,0,none⟩=some (.slice aw L.length cw):=At.lit bF I w' m5;have q:=wC (oq r de) (Bv.keeps hb.mem.keeps) f9;rw [T6] at q;exact q
     refine aq (fun β=>(eW (.of I) (.of I) (.of I) I)) dj I ?_;dsimp only [Nat.zero_add,Nat.reduceAdd]
     with_reducible apply cy (B:=[]) (F:=fun _=>.q (bQ true 19)) (args:=fun _=>[.bool true,.q 19])
     case hB=>rfl
     case hr=>exact fun β=>aZ (.of I) (.o I (.o I .nil)) inferInstance I
     case hi=>exact br
     case hd=>rfl
     case hc=>exact fun β w' hb=>dO _ _ _
     refine aq (fun β=>(cS (.of I))) dj I ?_;refine fo fun β=>?_;dsimp only [eB,Za,Zb,List.append_eq,Nat.reduceAdd]
     with_reducible refine cM (by kernel_rfl) ?_
     refine Jt<|Je<|JT ?_
     rfl
    | false =>
     with_reducible refine dP 23 (by kernel_rfl) ?_
     (refine aq (fun β=>(aX (.of I))) dj I<|aq (fun β=>(aX (.of I))) dj I<|cd I (fun _=>rfl)<|aq (fun β=>(bV (.of I) df ak (by rfl))) dj I<|cd I (fun _=>rfl)<|aq (fun β=>(ag (.of I) (At.lit cA I))) dj I<|cd I (fun _=>rfl)<|aq (fun β=>(aX (.of I))) dj I ?_)
     dsimp only [Nat.zero_add,Nat.reduceAdd];refine cd I (fun _=>rfl) ?_
     with_reducible apply dW (ι:=Value) (Φ:=fun _=>True) (val:=id) (own:=fun x=>[row 3 1 x R0.length (R0.map (Value.int .i64))]) (g:=id) (B:=[]) (args:=fun _=>[.agg #[.q r.lv,.q r.ma,s,.slice a3 r.de.length tg,t,p],.q v,.string so])
     case hg=>exact fun x=>⟨x,I⟩
     case hB=>rfl
     case hr=>exact fun β=>aZ (.of I) (.o I (.o I (.o I .nil))) inferInstance I
     case hd=>rfl
     case hc=>exact fun β w' hb=>OO w' hb.mem.keeps
     dsimp only [id_eq,Nat.reduceAdd]
     (refine cd I (fun _=>rfl)<|aq (fun β=>(ag (.of I) (At.lit .here I))) dj I ?_)
     dsimp only [Nat.zero_add,Nat.reduceAdd];refine cd I (fun _=>rfl) ?_
     with_reducible apply cy (B:=[5]) (F:=fun _=>.bool false) (args:=fun β=>[β 5,.func (.func 158) #[] #[.p xV]])
     case hB=>first | rfl | kernel_rfl
     case hr=>exact fun β=>aZ (.of I) (.o I (.o I .nil)) inferInstance I
     case hi=>exact br
     case hd=>rfl
     case hc=>
      intro β w' hb;have m5:=hb.at 5 Zr (s:=⟨fun β=>β 5,fun β=>[row 3 1 (β 5) R0.length (R0.map (Value.int .i64))]⟩) (by kernel_rfl)
      dsimp only [Zb,Za] at m5;have s1:Rd w' (β 5) 1 (ints R0):=kP m5 (by exact .here) I;have f9:w'.cell? ⟨b9,0,none⟩=some (.slice aw L.length cw):=At.lit cA I w' m5;have f16:w'.cell? ⟨xV,0,none⟩=some (.func (.func 157) #[] #[.p b9]):=At.lit bF I w' m5;have q:=wo (f:=158) (p:=fun x=>!L.contains x) (first:=[]) (cap:=[.p xV]) s1 (fun x hx w2 eM=>wB x (Bv.keeps (hb.mem.keeps.trans eM)) (cE f9 I eM) (cE f16 I eM))
      rw [YB] at q;exact q
     (refine aq (fun β=>(cV (.of I) (.of I) (.of I) I)) dj I<|aq (fun β=>(aX (.of I))) dj I<|cd I (fun _=>rfl)<|aq (fun β=>(ag (.of I) (At.lit (.there .here) I))) dj I<|cd I (fun _=>rfl)<|aq (fun β=>(az (.of I) ae)) dj I<|cd I (fun _=>rfl)<|aq (fun β=>(ag (.of I) (At.lit df I))) dj I<|cd I (fun _=>rfl)<|aq (fun β=>(bV (.of I) df ak (by rfl))) dj I<|cd I (fun _=>rfl)<|aq (fun β=>(aX (.of I))) dj I ?_)
     dsimp only [Nat.zero_add,Nat.reduceAdd];refine cd I (fun _=>rfl) ?_
     with_reducible apply cy (B:=[]) (F:=fun _=>.q (j0:Nat)) (args:=fun _=>[.agg #[.q r.lv,.q r.ma,s,.slice a3 r.de.length tg,t,p],.string de])
     case hB=>rfl
     case hr=>exact fun β=>aZ (.of I) (.o I (.o I .nil)) inferInstance I
     case hi=>exact br
     case hd=>rfl
     case hc=>exact fun β w' hb=>xM w' hb.mem.keeps
     (refine cd I (fun _=>rfl)<|aq (fun β=>(au (.of I) (.of I) HJ (by omega) (by omega) bn)) dj I<|cd I (fun _=>rfl)<|aq (fun β=>(az (.of I) ae)) dj I<|cd I (fun _=>rfl)<|aq (fun β=>(ag (.of I) (At.base xr I))) dj I ?_)
     dsimp only [Nat.zero_add,Nat.reduceAdd];refine cd I (fun _=>rfl) ?_
     with_reducible apply cy (B:=[]) (F:=fun _=>.bool false) (args:=fun _=>[.q (oq r de),.p b9])
     case hB=>rfl
     case hr=>exact fun β=>aZ (Is.of I) (H7.cons (Is.of I) H7.nil) inferInstance eQ
     case hi=>exact br
     case hd=>rfl
     case hc=>
      intro β w' hb;have m5:=hb.mem;have f9:w'.cell? ⟨b9,0,none⟩=some (.slice aw L.length cw):=At.lit bF I w' m5;have q:=wC (oq r de) (Bv.keeps hb.mem.keeps) f9;rw [T6] at q;exact q
     refine aq (fun β=>(cV (.of I) (.of I) (.of I) I)) dj I ?_;dsimp only [Nat.zero_add,Nat.reduceAdd]
     with_reducible apply cy (B:=[]) (F:=fun _=>.q (bQ false 19)) (args:=fun _=>[.bool false,.q 19])
     case hB=>rfl
     case hr=>exact fun β=>aZ (.of I) (.o I (.o I .nil)) inferInstance I
     case hi=>exact br
     case hd=>rfl
     case hc=>exact fun β w' hb=>dO _ _ _
     refine aq (fun β=>(cS (.of I))) dj I ?_;refine fo fun β=>?_;dsimp only [eB,Za,Zb,List.append_eq,Nat.reduceAdd]
     with_reducible refine cM (by kernel_rfl) ?_
     refine Jt<|Je<|JT ?_
     rfl
structure Tk where
 de:ByteArray
 so:List ByteArray
structure eN where
 tk:Tk
 v:Value
def eN.cells (x:eN):List Value:=[.string x.tk.de,x.v]
def gL (l:List eN):List (List Value):=l.map eN.cells
theorem dy (l:List eN):(gL l).length=l.length:=by simp [gL]
theorem jA {l:List eN} (h:k<l.length):(gL l)[k]? = some (l[k]).cells:=by simp [gL,h]
theorem jV {l:List eN} (h:k<l.length):gL l≠[]:=by intro e;have:=congrArg List.length e;rw [dy] at this;simp at this;subst this;simp at h
def qY (w:World) (l:List eN):Prop:=∀ x∈l,Rd w x.v 1 (fX x.tk.so)
theorem qY.keeps {w w':World} {l:List eN} (h:qY w l) (hk:aK [] w w'):qY w' l:=fun x hx=>(h x hx).keeps hk
theorem F9 {l:List eN} {p:eN->Bool} [bO T_ f] {w:World} (h:Rd w lv 2 (gL l)) (cJ:∀ x∈l,∀ w',aK [] w w'->aj T_ f (first++[.agg x.cells.toArray]++cap) w' (.bool (p x))) :
  aj T_ 252 [lv,.func (.func f) first.toArray cap.toArray] w (.q (fU p l)):=by
 obtain ⟨a,cp,b,o,rfl,dp,bY,ha,hc⟩:=h;rw [dy] at *;unfold maxLen at bY;refine ah func252 I I ?_;refine Jr<|Ja I<|Jn<|Jq<|Jr<|Jv I<|JI I<|Jv I<|Jn<|J0 ?_;refine a7 (fun k:Nat=>k<=l.length/\∀ i,i<k->(l[i]?.map p).getD false=false) (fun k=>[(8,.int .i64 k),(7,.int .i64 l.length),(0,.slice a l.length cp),(1,.func (.func f) first.toArray cap.toArray)]) (fun _=>[]) (fun k=>l.length-k) ?_ ?_
 ·apply aI 0 ⟨Zi _,fun i h=>by omega⟩
  case hs1=>exact cu
  case ht=>(try simp only [Ze,Zf,Za]);exact .nil
 rintro k ⟨hk,hf⟩;by_cases aN:k<l.length
 ·have cP:=ha (jV aN);have aB:=(hc k _ (jA aN)).2;have iz:=cJ _ (Zj aN);have hps:(l[k]?.map p).getD false=p l[k]:=by simp [aN]
  unfold eN.cells at aB iz
  (refine Jr<|JA I<|Jn<|Jq<|Jd I fun ar=>Jk<|Jq<|J0<|Jr<|Jv I<|Ja I<|Ji<|Jv I<|Jv I<|Jv I<|ab (fZ cP ar) I<|ab (iA (eV.base aB I)) I<|ai bz I (fun w' aA=>(iz w' (Mem.keeps aA)))<|Jn<|qv I (fun ar=>?_) fun ar=>?_;refine Jr<|Jv I<|Ja I<|Jn<|Je<|Jm<|Jh<|Jh<|Jm<|Jh<|JT ?_;rotate_left;refine Jw<|Jj<|Jt<|Jg<|JB I (by omega)<|Jv I<|Jn ?_;rotate_right)
  ·rw [gG hf aN ar]
  ·apply aL (k+1) ⟨by omega,fun i hi=>by
    by_cases e:i=k
    ·rw [e,hps];exact ar
    ·exact hf i (by omega)⟩ (by omega)
   case hs1=>exact cu
   case ht=>(try simp only [Ze,Zf,Za]);exact .nil
 ·obtain rfl:k=l.length:=by omega
  refine Jr<|JA I<|Jn<|Jq<|Jc I fun ar=>Jp<|Jl<|Jo<|Jt<|Jr<|Ja I<|Jn<|Je<|JT ?_;rw [fG hf]
theorem O6 {l:List eN} {p:eN->Bool} [bO T_ f] {w:World} (h:Rd w lv 2 (gL l)) (cJ:∀ x∈l,∀ w',aK [] w w'->aj T_ f (first++[.agg x.cells.toArray]++cap) w' (.bool (p x))) :
  aj T_ 248 [lv,.func (.func f) first.toArray cap.toArray] w (.bool (l.any p)):=by
 have iz:∀ w',aK [] w w'->aj T_ 252 [lv,.func (.func f) first.toArray cap.toArray] w' (.q (fU p l)):=fun w' hk=>
  F9 (h.keeps hk) fun x hx w2 eM=>cJ x hx w2 (hk.trans eM)
 rw [<- iY];refine ah func248 I I ?_
 (refine Jr<|Ja I<|Ji<|Jv I<|Jv I<|ai ba I (fun w' aA=>(iz w' (Mem.keeps aA)))<|JG I<|Ja I<|Jn<|Je<|JT ?_)
 rfl
theorem Uq {x:eN} {y:ByteArray} (f1:w.cell? ⟨b,0,none⟩=some (.string y)):aj T_ 249 [.agg x.cells.toArray,.p b] w (.bool (decide (x.tk.de=y))):=by
 unfold eN.cells;refine ah func249 I I ?_
 (refine Jr<|Jy I I fun _ _=>Ja I<|Ji<|bP I I ae<|JL I .here I<|bP I I ae<|ab (ag (.of I) (At.base f1 I)) I<|ab (ei (.of I) (.of I)) I<|Ja I<|Jn<|Je<|JT ?_)
 rfl
theorem vq {ty:TypeId} {t u:TypeId} {a b:ByteArray} (hx:Is sl x (.string a)) (hy:Is sl y (.string b)) (e:a≠b) :
  cY P c sl hs ⟨dst,.binOp .neq t x y u,ty,pos,af,g⟩ (.bool true):=by
 have:=gY (P:=P) (c:=c) (hs:=hs) (dst:=dst) (ty:=ty) (pos:=pos) (af:=af) (g:=g) (t:=t) (u:=u) hx hy;rwa [decide_eq_true e] at this
theorem Cm {ty:TypeId} {t u:TypeId} {a b:ByteArray} (hx:Is sl x (.string a)) (hy:Is sl y (.string b)) (e:a=b) :
  cY P c sl hs ⟨dst,.binOp .neq t x y u,ty,pos,af,g⟩ (.bool false):=by
 have:=gY (P:=P) (c:=c) (hs:=hs) (dst:=dst) (ty:=ty) (pos:=pos) (af:=af) (g:=g) (t:=t) (u:=u) hx hy;rwa [decide_eq_false (not_not_intro e)] at this
def iX (r:Ro) (o:ByteArray):Bool:=decide (o≠⟨#[]⟩)&&decide (o≠⟨#[45]⟩)&&decide (bA (cG r) o<0)
theorem Ur {s d t p:Value} (o:ByteArray) {b:Nat} {w:World} (hr:RR w r s d t p) (hA:BR w b (RC r s d t p)) :
  aj T_ 251 [.string o,.p b] w (.bool (iX r o)):=by
 have h1:=Rd.one hr.sr;have h2:=Rd.one hr.de;have h3:=Rd.one hr.ti;have h4:=Rd.one hr.po;have kl:∀ (j:Nat) (u:Value),[Value.int .i64 r.lv,.q r.ma,s,d,t,p][j]? = some u->w.cell? ⟨b,0+j,none⟩=some u:=hA;refine ah func251 I I ?_;by_cases Lo:o=⟨#[]⟩
 ·have hB:iX r o=false:=by unfold iX;rw [decide_eq_false (not_not_intro Lo)];rfl
  rw [hB]
  (refine Jr<|Ja I<|Ji<|Jv I<|ab (Cm (.of I) (.of I) Lo) I<|Jv I<|iT I I I I<|aF I I (fun hg bT=>(gY (.cD bT I) (.of I))) I<|ab (cV (.of I) (.of I) (.of I) I) I<|Jv I<|aF I I (fun hg bT=>(jB (.of I) (eV.base kl I) I)) I<|iT I I I I<|dx I I I I<|dx I I I I<|ab (cV (.of I) (.of I) (.of I) I) I<|Ja I<|Jn<|Je<|JT ?_)
  rfl
 by_cases S0:o=⟨#[45]⟩
 ·have hB:iX r o=false:=by unfold iX;rw [decide_eq_false (not_not_intro S0),Bool.and_false];rfl
  rw [hB]
  (refine Jr<|Ja I<|Ji<|Jv I<|ab (vq (.of I) (.of I) Lo) I<|Jv I<|JK I I<|Jv I<|JK I I<|ab (Cm (.of I) (.of I) S0) I<|ab (cV (.of I) (.of I) (.of I) I) I<|Jv I<|aF I I (fun hg bT=>(jB (.of I) (eV.base kl I) I)) I<|iT I I I I<|dx I I I I<|dx I I I I<|ab (cV (.of I) (.of I) (.of I) I) I<|Ja I<|Jn<|Je<|JT ?_)
  rfl
 have hB:iX r o=decide (bA (cG r) o<0):=by unfold iX;rw [decide_eq_true Lo,decide_eq_true S0];rfl
 rw [hB]
 (refine Jr<|Ja I<|Ji<|Jv I<|ab (vq (.of I) (.of I) Lo) I<|Jv I<|JK I I<|Jv I<|JK I I<|ab (vq (.of I) (.of I) S0) I<|ab (eW (.of I) (.of I) (.of I) I) I<|Jv I<|JK I I<|ab (iA (eV.base kl I)) I<|JK I I<|Jv I<|JK I I ?_)
 refine ai ba I (fun w' aA=>oE o (hr.keeps aA.keeps)) ?_;refine JK I I<|JA I ?_
 with_reducible apply ab (V:=Value.bool (decide (bA (cG r) o<0)))
 case hr=>
  with_reducible apply du
  case hx=>exact Is.of I
  case hy=>exact Is.of I
  case hz=>exact Is.of I
  case e=>rfl
 case hd=>rfl
 refine Ja I<|Jn<|Je<|JT ?_
 rfl
def cq (l:List eN):List Tk:=l.map (·.tk)
def xA (r:Ro) (l:List Tk) (k:Nat):Int:=(l[k]?.map fun x=>aW [mB r x.de,bQ ((l.take k).any fun y=>decide (y.de=x.de)) 9,bQ (decide ((x.so.length:Int)≠r.lv)) 2,bQ (x.so.any (iX r)) 10]).getD 0
theorem qz {l:List Tk} (h:k<l.length):xA r l k=aW [mB r (l[k]).de,bQ ((l.take k).any fun y=>decide (y.de=(l[k]).de)) 9,bQ (decide (((l[k]).so.length:Int)≠r.lv)) 2,bQ ((l[k]).so.any (iX r)) 10]:=by
 unfold xA;rw [Zc h];rfl
def D8 (l:List Tk):Int:=aW [bQ (decide ((l.length:Int)=0)) 12,bQ (decide ((8:Int)<(l.length:Nat))) 5]
def qy (r:Ro) (l:List Tk):Int:=if D8 l≠0 then D8 l else jJ (xA r l) l.length
set_option maxHeartbeats 2000000 in
theorem sf {s d t p kv:Value} {l:List eN} (h:RR w r s d t p) (hw:Rd w kv 2 (gL l)) (hM:qY w l) :
  aj T_ 164 [RA r s d t p,kv] w (.q (qy r (cq l))):=by
 obtain ⟨h1,h2,h3,h4⟩:=h.one;have Bv:=hw;obtain ⟨aw,cw,bw,ow,rfl,Qx,CV,V4,Lp⟩:=hw;rw [dy] at *;unfold maxLen at CV;have qH:(cq l).length=l.length:=Zd _;unfold RA;refine ah func164 I I ?_
 (refine Jr<|Jy I I fun _ _=>Ja I<|Jn<|Jq<|Jr<|Jv I<|JI I<|JC I<|ai ba I (fun w' aA=>(dO _ 12 w'))<|Jv I<|JI I<|JE I<|ai ba I (fun w' aA=>(dO _ 5 w'))<|bu (aC (.o I (.o I .nil)) I I I I) I fun _ _=>ai bz I (fun w' aA=>(dG (Mem.dh aA .here I I) (cm.cons (cm.cons cm.nil))))<|Ja I<|Ji<|Jv I<|JD I<|Jn<|gB I (fun ar=>?_) fun ar=>?_;refine Jr<|Jv I<|Ja I<|Jn<|Ju<|JT ?_;rotate_left;refine Jk<|Jq<|Jr<|Jv I<|JI I<|Jv I<|Jn<|J0 ?_;rotate_right)
 ·have e1:qy r (cq l)=D8 (cq l):=if_pos (by unfold D8;rw [qH];exact ar);rw [e1];unfold D8;rw [qH]
 have Gi:D8 (cq l)=0:=by unfold D8;rw [qH];exact Zq.1 ar
 have hX:qy r (cq l)=jJ (xA r (cq l)) l.length:=by unfold qy;rw [if_neg (by rw [Gi];decide),qH]
 clear ar;rename_i b2 tM bq nf
 refine a7 (fun k:Nat=>k<=l.length/\∀ i,i<k->xA r (cq l) i=0) (fun k=>[(26,.q (k:Nat)),(25,.q (l.length:Nat)),(24,.slice aw l.length cw),(2,.p b2),(1,.slice aw l.length cw)])
  (fun k=>[JP b2 r s d t p]) (fun k=>l.length-k) ?_ ?_
 ·apply aI 0 ⟨Zi _,fun i hi=>by omega⟩
  case hs1=>exact cu
  case ht=>(try simp only [Ze,Zf,Za]);exact .cons (.there .here) .nil
 rintro k ⟨hk,hf⟩;by_cases aN:k<l.length
 ·have Lt:=V4 (jV aN);have aB:=(Lp k _ (jA aN)).2;unfold eN.cells at aB;have hx:=hM _ (Zj aN);have iF:=qz (r:=r) (l:=cq l) (k:=k) (by omega);have hgk:(cq l)[k]'(by omega)=(l[k]).tk:=Z0 _;rw [hgk] at iF;have vY:Rd w (Go.sliced aw 0 (k:Int).toNat cw 2) 2 (gL (l.take k)):=by
   have:=Bv.sliced (l:=0) (m:=k) (Zi _) (by omega);rw [ZF];rwa [List.drop_zero,show (gL l).take k=gL (l.take k) by unfold gL;rw [ZaH]] at this
  have S6:(l.take k).any (fun y=>decide (y.tk.de=(l[k]).tk.de))=((cq l).take k).any fun y=>decide (y.de=(l[k]).tk.de):=by
   unfold cq;rw [<- ZaH,List.any_map];rfl
  generalize l[k]=x at aB hx iF S6 ⊢;obtain ⟨⟨xd,xs⟩,xv⟩:=x;dsimp only at aB hx iF S6 ⊢;have Sm:=hx;obtain ⟨ax,cx,bx,ox,rfl,Qw,CU,hax,hcx⟩:=hx;rw [bX] at *;unfold maxLen at CU;have fH:∀ w',aK [] w w'->aj T_ 112 [.agg #[.int .i64 r.lv,.int .i64 r.ma,s,d,t,p],.string xd] w' (.int .i64 (mB r xd)):=fun w' hk=>dY xd (h.keeps hk)
  (refine Jr<|JA I<|Jn<|Jq<|Jd I fun ar=>Jk<|Jq<|J0<|Jr<|Jv I<|ab (au (.of I) (.of I) Lt (by omega) ar bn) I<|ab (iA (eV.base aB I)) I<|Jz I I fun _ _=>Ja I<|an (.of I) (.of I) .here I I (gJ I I) (bG I) ak<|Ji<|Jv I<|Jv I<|ab (gF (.of I) (.of I) (by omega) (by omega)) I<|ab (bD .nil (.o I .nil)) I ?_)
  rename_i b7 V3
  with_reducible apply ai
  case hr=>exact ba
  case hd=>rfl
  case hc=>
   intro w' aA;have f7:w'.cell? ⟨b7,0,none⟩=some (.string xd):=(BR.of (cs:=[.string xd,.slice ax xs.length cx]) aA (by exact .here)) 0 _ I;exact O6 (f:=249) (p:=fun y=>decide (y.tk.de=xd)) (first:=[]) (cap:=[.p b7]) (vY.keeps aA.keeps) (fun y hy w2 eM=>Uq (cE f7 I eM))
  rw [S6]
  (refine Ja I<|Ji<|bP I I ae<|JL I .here I<|ab (bD .nil (.o I .nil)) I ?_)
  with_reducible apply ai
  case hr=>exact ba
  case hd=>rfl
  case hc=>
   intro w' aA;have hR:=h.keeps aA.keeps;have hA:BR w' b2 [.q r.lv,.q r.ma,s,d,t,p]:=BR.of aA (by exact Take.there .here);exact Lx (f:=251) (p:=iX r) (first:=[]) (cap:=[.p b2]) (Sm.keeps aA.keeps) (fun o ho w2 eM=>Ur o (hR.keeps eM) (hA.keeps eM))
  refine Ja I<|Jn<|Jq ?_
  with_reducible refine cW 16 (by kernel_rfl) ?_
  (refine ao (cK (.there .here)) I<|ao lf I<|ao (ie .here) I<|a8 ba I (fun w' aA=>(fH w' (Mem.keeps aA)))<|ao lX I<|a8 ba I (fun w' aA=>(dO _ 9 w'))<|ao lf I<|ao (ie .here) I<|ao (cI (.of I)) I<|ao lf I<|ao (ie (.there .here)) I<|ao (gU (.of I) (.of I)) I<|a8 ba I (fun w' aA=>(dO _ 2 w'))<|ao lX I<|a8 ba I (fun w' aA=>(dO _ 10 w'))<|eC (aC (.o I (.o I (.o I (.o I .nil)))) I I I I) I I ?_)
  with_reducible refine dw I fun b55 aaN=>?_
  (refine ai bz I (fun w' aA=>(dG (Mem.dh aA .here I I) (cm.cons (cm.cons (cm.cons (cm.cons cm.nil))))))<|Ja I<|Ji<|Jv I<|JD I<|Jn<|gB I (fun ar=>?_) fun ar=>?_;refine Jr<|Jv I<|Ja I<|Jn<|Je<|Jm<|Jh<|Jh<|Jm<|Jh<|JT ?_;rotate_left;refine Jw<|Jj<|Jt<|Jg<|JB I (by omega)<|Jv I<|Jn ?_;rotate_right)
  ·rw [<- iF] at ar ⊢;have hB:jJ (xA r (cq l)) l.length=xA r (cq l) k:=fg hf aN ar;rw [hX,hB]
  have hz:xA r (cq l) k=0:=by rw [iF];exact Zq.1 ar
  apply aL (k+1) ⟨by omega,fun i hi=>by
   by_cases e:i=k
   ·rw [e];exact hz
   ·exact hf i (by omega)⟩ (by omega)
  case hs1=>exact cu
  case ht=>(try simp only [Ze,Zf,Za]);exact .cons bF .nil
 ·obtain rfl:k=l.length:=by omega
  have HM:jJ (xA r (cq l)) l.length=0:=dV.2 hf;rw [hX,HM];refine Jr<|JA I<|Jn<|Jq<|Jc I fun ar=>Jp<|Jl<|Jo<|Jt<|Jr<|Ja I<|Jn<|Je<|JT ?_
  rfl
def yI (v:Int) (o:ByteArray) (x:Po):Bool:=decide (x.lv=v)&&decide (x.ou=o)
theorem Ul {x:Po} (v:Int) (o:ByteArray) {b1 b2:Nat} {w:World} (f1:w.cell? ⟨b1,0,none⟩=some (.q v)) (f2:w.cell? ⟨b2,0,none⟩=some (.string o)) :
  aj T_ 315 [.agg x.cells.toArray,.p b1,.p b2] w (.bool (yI v o x)):=by
 unfold Po.cells;refine ah func315 I I ?_
 (refine Jr<|Jy I I fun _ _=>Ja I<|Ji<|ab (cK .here) I<|ab (ag (.of I) (At.base f1 I)) I<|ab (ag (.of I) (At.base f2 I)) I<|bP I I ae<|JL I .here I<|ab (aU (.o I (.o I (.o I .nil))) ak) I<|ab (uE (.of I) (.of I) (ka (fy (fy me))) I) I<|Ja I<|Jn<|Je<|JT ?_)
 simp [yI]
def RB (b:Nat) (r:Ro) (s d t p:Value):bd:=JP b r s d t p
def PB (p:Value) (l:List Po):bd:=row 188 3 p l.length (gK l)
set_option maxHeartbeats 1000000 in
theorem ye {s d t p:Value} {l:List Po} (v:Int) (o:ByteArray) {w:World} {fp:List Nat} (jv:fp.Nodup) (hs:cC (hp w) [RB b r s d t p,PB p l] fp) (cO:l.length<=1000000) :
  bb T_ 256 [.p b,.q v,.string o] w fp (fun _:Value=>True) (fun _=>.tuple #[]) (fun p'=>[RB b r s d t p',PB p' (l.filter fun x=>!yI v o x)]):=by
 unfold RB PB at *;refine dU func256 I I jv hs ?_
 (refine Jr<|Jy I I fun _ _=>Jy I I fun _ _=>Jn<|Jg<|Jv I<|Jv I<|ab (dA (.of I)) I<|bP I I ae<|JL I bF I<|ab (bD .nil (.o I (.o I .nil))) I ?_)
 rename_i b4 uQ b5 MY
 with_reducible apply eH (As:=[row 188 3 p l.length (gK l)])
 case hr=>exact ba
 case hd=>rfl
 case ht=>exact .cons cA .nil
 case hc=>
  intro w1 BE aG uf hs1 DN jZ;have h4:b4 ∉ BE:=jZ b4 _ _ (by exact Take.there .here);have h5:b5 ∉ BE:=jZ b5 _ _ (by exact .here);have f4:w1.cell? ⟨b4,0,none⟩=some (.q v):=At.lit (by exact Take.there .here) I w1 aG;have f5:w1.cell? ⟨b5,0,none⟩=some (.string o):=At.lit (by exact .here) I w1 aG;exact Pt (f:=315) (p:=yI v o) (first:=[]) (cap:=[.p b4,.p b5]) uf hs1 I cO (fun x _ w2 eM=>Ul v o (ez f4 I h4 eM) (ez f5 I h5 eM))
 intro p' _;dsimp only [id_eq,Zb,Za];refine aY (by exact .here) fun va vc e=>?_;subst e
 (refine ab (dA (.of I)) I<|bP I I ae<|an (.of I) (.of I) cA I I (eL I) (bG I) ak<|Jx ?_)
 with_reducible first|apply aR|apply aS
 case he=>exact nS I
 case hR=>
  intro w' aA;exact aD (.slice va (l.filter fun x=>!yI v o x).length vc) trivial (by exact .h2 .nil) aA I
theorem HZ {l:List Po} (h:Rd w lv 3 (ud l)) (hl:l.length<=1000) :
  bb T_ 316 [lv] w [] (fun _:Value=>True) id (fun v=>[row 188 3 v l.length (gK l)]):=by
 have h':=h;obtain ⟨a,cp,b,o,rfl,dp,bY,ha,hc⟩:=h;refine aT func316 I I ?_;cases a with
 | none =>
  have pT:l=[]:=by
   cases l with
   | nil=>rfl
   | cons x r=>exact absurd (ha (by simp [ud])) (by simp)
  subst pT
  (refine Jr<|Ja I<|Jn<|Jq<|Jr<|Jv I<|ab (gN (.of I) (.of I)) I<|Jn<|cL (.of I)<|Jr<|Ja I<|Jn<|Ju ?_)
  refine aP 188 3 ?_
  with_reducible first|apply aR|apply aS
  case he=>exact dH I I
  case hR=>
   intro w' aA;exact aD (.z) trivial (by exact .h1 .nil) aA I
 | some ad =>
  (refine Jr<|Ja I<|Jn<|Jq<|Jr<|Jv I<|ab (gN (.of I) (.of I)) I<|Jn<|bE (.of I)<|Jk<|Jr ?_)
  with_reducible apply bu
  case hr=>exact kJ
  case hd=>rfl
  intro bq nf;refine xi I I ?_;refine ch (g:=bq) (E:=188) (ys:=[]) 0 3 (by exact .here) I I I ?_
  with_reducible apply il
  case hx=>exact Is.of I
  case hy=>exact Is.of I
  case ht=>exact .here
  case hsrc=>exact fun w' aA=>h'.keeps aA.keeps
  case h1=>exact FU l
  case hz=>exact I
  case hsz=>exact I
  case hb0=>exact I
  case hb=>rw [c5];omega
  case hd=>rfl
  intro v';rw [c5,ZH,Za,<- Ao];refine Ja I<|Jn<|Je ?_
  with_reducible first|apply aR|apply aS
  case he=>exact dH I I
  case hR=>
   intro w' aA;exact aD v' trivial (by exact .h1 .nil) aA I
def WY (w:World) (b:Nat) (l:List (ByteArray×Value)):Prop:=∃ es clock,w.heap[b]? = some (.map es clock)/\KD (fun s:ByteArray=>Value.string s) l es clock
theorem WY.jE {w w':World} {md:List Nat} (h:WY w b l) (hn:b ∉ md) (hk:aK md w w'):WY w' b l:=by
 obtain ⟨es,ck,h1,h2⟩:=h;have hb:b<w.heap.size:=(Z2.1 h1).1;have:=hk.block b hb hn;exact ⟨es,ck,by rw [this,h1],h2⟩
theorem vr {ty:TypeId} {t kt et:TypeId} {k:ByteArray} {z V:Value} [hu:ij P t (.map kt et)] [HE:ij P kt .string] [hz:lU P et z]
  (hx:Is sl x (.map (some b))) (hy:Is sl y (.string k)) (hl:Looks c hs b (fun s:ByteArray=>Value.string s) l) (e:(eA k l).getD z=V) :
  cY P c sl hs ⟨dst,.lookup t x y false,ty,pos,af,g⟩ V:=e ▸ Hb KM hx hy hl
def RU (r:Ro) (x y:Po):Int:=aW [kC x.lv y.lv,kC (dI r x.ou) (dI r y.ou)]
theorem Rr {x y:Po} {b bm:Nat} (hd:DB r) (hx:fv (bW r) x.ou=true) (hy:fv (bW r) y.ou=true) (f:w.cell? ⟨b,0,none⟩=some (.map (some bm))) (hm:WY w bm (nw r)) :
  aj T_ 318 [.agg x.cells.toArray,.agg y.cells.toArray,.p b] w (.q (RU r x y)):=by
 have ex:(eA x.ou (nw r)).getD (ke 0 0 0)=ke (dI r x.ou) (jO r x.ou) (jP r x.ou):=by rw [ny hd,hx];rfl
 have ey:(eA y.ou (nw r)).getD (ke 0 0 0)=ke (dI r y.ou) (jO r y.ou) (jP r y.ou):=by rw [ny hd,hy];rfl
 unfold Po.cells;refine ah func318 I I ?_;refine Jr<|Jy I I fun _ _=>Jy I I fun _ _=>Ja I<|Jn<|Jq ?_
 with_reducible refine cW 17 (by kernel_rfl) ?_
 (refine ao lf I<|ao (ie (.there .here)) I<|ao lf I<|ao (ie .here) I<|a8 ba I (fun w' aA=>(Dh _ _ w'))<|ao (ag (.of I) (At.base f I)) I<|ao lf I<|ao (ie (.there .here)) I ?_)
 refine ao (vr (l:=nw r) (z:=ke 0 0 0) (V:=.agg #[.q (dI r x.ou),.q (jO r x.ou),.q (jP r x.ou)]) (Is.of I) (Is.of I) (fun w' aA=>hm.jE (by simp) aA.keeps) ex) I ?_
 (refine ao (Cp (.of I) I) I<|ao (ag (.of I) (At.base f I)) I<|ao lf I<|ao (ie .here) I ?_)
 refine ao (vr (l:=nw r) (z:=ke 0 0 0) (V:=.agg #[.q (dI r y.ou),.q (jO r y.ou),.q (jP r y.ou)]) (Is.of I) (Is.of I) (fun w' aA=>hm.jE (by simp) aA.keeps) ey) I ?_
 (refine ao (Cp (.of I) I) I<|a8 ba I (fun w' aA=>(Dh _ _ w'))<|eC (aC (.o I (.o I .nil)) I I I I) I I ?_)
 with_reducible refine dw I fun bq nf=>?_
 skip
 refine ai bz I (fun w' aA=>US (l:=[kC x.lv y.lv,kC (dI r x.ou) (dI r y.ou)]) (Mem.dh aA (by exact .here) I I)) ?_;refine Ja I<|Jn<|Je<|JT ?_
 rfl
end Go.Proofs.A1
namespace Go.Proofs.A1
open Go Go.SL Go.Shelf
open Tryz
open Tryz renaming prog->T_
theorem uH (r:Ro) (x y:Po):RU r x y<0↔x.lv<y.lv\/(x.lv=y.lv/\dI r x.ou<dI r y.ou):=by
 unfold RU;generalize dI r x.ou=a;generalize dI r y.ou=b;simp only [aW,kC]
 repeat' split
 all_goals omega
theorem N7 {α:Type} (r:Ro) (g:α->Po):Go.Sort.SWO (ltOf fun x y:α=>RU r (g x) (g y)):=by
 constructor
 ·intro x;unfold ltOf;rw [decide_eq_false_iff_not,uH];omega
 ·intro x y z h1 h2;unfold ltOf at *;rw [decide_eq_true_eq,uH] at *;omega
 ·intro x y z h1 h2;unfold ltOf at *;rw [decide_eq_false_iff_not,uH] at *;omega
theorem IV {r:Ro} {v:Value} {l:List Po} {M1 bm:Nat} {w:World} {fp:List Nat} (hs:cC (hp w) [PB v l] fp) (hd:DB r) (iO:∀ x∈l,fv (bW r) x.ou=true) (cO:l.length<=1000000)
  (f:w.cell? ⟨M1,0,none⟩=some (.map (some bm))) (hm:WY w bm (nw r)) (h14:M1 ∉ fp) (Qz:bm ∉ fp) :
  bb T_ 317 [v,.func (.func 318) #[] #[.p M1]] w fp (fun l':List Po=>l'.Perm l/\l'.Pairwise (fun x y=>¬ RU r y x<0)) (fun _=>.tuple #[]) (fun l'=>[PB v l']):=by
 obtain ⟨f1,f2,rfl,h1,h2⟩:=hs;obtain rfl:f2=[]:=h2;obtain ⟨rfl,hlen,h1⟩:=h1;rw [ZS] at *;rcases h1 with ⟨rfl,h0⟩ | ⟨g,cap,cur,rfl,hg,kc,jS,qI,AT⟩
 ·have pT:l=[]:=Z5 (by omega);subst pT;refine (AnyF.slices_SortFunc_none Tryz.Eh none 0 (.func (.func 318) #[] #[.p M1]) w).mono fun e w' ⟨he,hw⟩=>?_;subst hw;exact ⟨[],he,⟨.refl _,.nil⟩,.refl _ _,[],Zao,⟨[],[],I,⟨I,hlen,.inl ⟨I,h0⟩⟩,I⟩,by simp⟩
 ·have S5:g<w.heap.size:=(Z2.1 hg).1;by_cases pT:l=[]
  ·subst pT;refine (AnyF.slices_SortFunc_none Tryz.Eh (some ⟨g,0,none⟩) cap (.func (.func 318) #[] #[.p M1]) w).mono fun e w' ⟨he,hw⟩=>?_;subst hw;exact ⟨[],he,⟨.refl _,.nil⟩,.refl _ _,[g],by simp,⟨[g],[],I,⟨I,hlen,.inr ⟨g,cap,cur,I,hg,kc,jS,qI,AT⟩⟩,I⟩,fun b hb=>.inl hb⟩
  obtain ⟨x0,Sm⟩:=List.exists_mem_of_ne_nil l pT
  let α:={x:Po // fv (bW r) x.ou=true}
  let _:Inhabited α:=⟨⟨x0,iO x0 Sm⟩⟩
  let enc:α->List Value:=fun x=>x.1.cells
  have nI:cur=([]++gK l++cur.toList.drop (l.length*3)).toArray:=by
   apply Array.ext';show cur.toList=_;rw [<- AT,Za,ZV]
  generalize Vr:cur.toList.drop (l.length*3)=post at nI
  let la:List α:=l.attach.map fun x=>⟨x.1,iO x.1 x.2⟩
  have OZ:la.map (fun x:α=>x.1)=l:=by
   show (l.attach.map fun x=>(⟨x.1,iO x.1 x.2⟩:α)).map (fun x:α=>x.1)=l
   rw [Zat];exact List.attach_map_subtype_val l
  have CW:∀ m:List α,(m.map enc).flatten=gK (m.map fun x:α=>x.1):=fun m=>by
   rw [Ao];unfold ud;rw [Zat];rfl
  have EU:la.length=l.length:=by
   show (l.attach.map fun x=>(⟨x.1,iO x.1 x.2⟩:α)).length=_
   rw [Zd,List.length_attach]
  have tM:w.heap[g]? = some (.cells ([]++(la.map enc).flatten++post).toArray 188 (0,0)):=by rw [CW,OZ,<- nI];exact hg
  have key:=B3 Tryz.Eh (k:=3) isAgg188 sizeOf188 (enc:=enc) (fun _=>rfl)
   (fun x u hu=>by
    simp only [enc,Po.cells,ZO,Zp,or_false] at hu;rcases hu with rfl | rfl | rfl <;> rfl)
   (N7 r (fun x:α=>x.1)) (g:=318) (b:=g) (cap:=cap) (cb:=#[.p M1]) (l:=la) (pre:=[]) (cur:=post) (E:=188) (w:=w)
   (enters_of func318 (by kernel_rfl) I) tM (by rw [EU];omega)
   (fun w' hk x y=>Rr (r:=r) (x:=x.1) (y:=y.1) hd x.2 y.2 (ez f I h14 hk) (hm.jE Qz hk))
  rw [EU] at key;refine Calls.mono key ?_;rintro e w' ⟨he,l',jb,YJ,hk,dF⟩;have yS:(l'.map fun x:α=>x.1).length=l.length:=by rw [Zd,jb.length_eq,EU]
  rw [CW] at dF;refine ⟨l'.map fun x:α=>x.1,he,⟨?_,?_⟩,hk,[g],by simp,⟨[g],[],I,⟨I,?_,.inr ⟨g,cap,_,?_,dF,?_,jS,?_,?_⟩⟩,I⟩,fun b hb=>.inl hb⟩
  ·have:=jb.map (fun x:α=>x.1)
   rwa [OZ] at this
  ·rw [Zba];refine YJ.imp fun {x y} h=>?_;unfold ltOf at h;rwa [decide_eq_false_iff_not] at h
  ·exact jg _
  ·rw [yS]
  ·rw [yS];exact kc
  ·rw [<- qI];have:=congrArg (fun x:Array Value=>x.size) nI
   simp only [Zbs,Zg,jg,Zaj,ZH] at this ⊢;rw [yS,this]
  ·show List.take _ ([]++gK _++post)=_;rw [Za,Zag (by rw [jg];exact Zz _),Zae (by rw [jg];exact Zz _)]
end Go.Proofs.A1
namespace Go.Proofs.A1
open Go Go.SL
open Tryz
open Tryz renaming prog->T_
set_option maxHeartbeats 2000000 in
theorem uJ {r:Ro} {s d t p:Value} {w:World} (h:RR w r s d t p) (cO:kE r) (Xs:r.po.length<=1000000) :
  bb T_ 184 [RA r s d t p] w [] (fun _:Value×Value×Value×Value=>True) (fun x=>RA r x.1 x.2.1 x.2.2.1 x.2.2.2) (fun x=>[J1 r x.1,J2 r x.2.1,J3 r x.2.2.1,PB x.2.2.2 r.po]):=by
 obtain ⟨h1,h2,h3,h4⟩:=h.one;have OU:=h.po;have rb:=h.po;obtain ⟨a4,cp4,q4,o4,rfl,yV,mR,Ig,AT⟩:=rb;rw [c5] at *;unfold maxLen at mR;unfold RA;refine aT func184 I I ?_
 (refine Jr<|Jy I I fun _ _=>Jz I I fun _ _=>Ji<|ab (cK (.there .here)) I<|Jz I I fun _ _=>an (.of I) (.of I) .here I I (gr I I h1 h2 h3 I) (bG I) ak<|Jn<|Jq ?_)
 have hs0:=h.sr;have Qu:=h.de
 with_reducible refine dP 7 (by kernel_rfl) ?_
 (refine aq (fun β=>(az (.of I) ae)) dj I<|aq (fun β=>(ag (.of I) (At.lit bF I))) dj I ?_)
 dsimp only [Nat.zero_add,Nat.reduceAdd]
 with_reducible apply dW (ι:=Value) (Φ:=fun _=>True) (val:=id) (own:=fun x=>[J1 r x]) (g:=id) (B:=[]) (args:=fun _=>[s])
 case hg=>exact fun x=>⟨x,I⟩
 case hB=>rfl
 case hr=>exact fun β=>aZ (.of I) (.o I .nil) inferInstance I
 case hd=>rfl
 case hc=>exact fun β w' hb=>HY (h.sr.keeps hb.mem.keeps) (by have:=cO.1;omega)
 dsimp only [id_eq,Nat.reduceAdd]
 (refine aq (fun β=>(az (.of I) ae)) dj I<|aq (fun β=>(ag (.of I) (At.lit bF I))) dj I ?_)
 dsimp only [Nat.zero_add,Nat.reduceAdd]
 with_reducible apply dW (ι:=Value) (Φ:=fun _=>True) (val:=id) (own:=fun x=>[J2 r x]) (g:=id) (B:=[]) (args:=fun _=>[d])
 case hg=>exact fun x=>⟨x,I⟩
 case hB=>rfl
 case hr=>exact fun β=>aZ (.of I) (.o I .nil) inferInstance I
 case hd=>rfl
 case hc=>exact fun β w' hb=>H0 (h.de.keeps hb.mem.keeps) (by have:=cO.2.1;omega)
 dsimp only [id_eq,Nat.reduceAdd];refine aq (fun β=>(az (.of I) ae)) dj I ?_;refine fo fun β=>?_;dsimp only [eB,Za,Zb,List.append_eq,Nat.reduceAdd];generalize β 2=sv;generalize β 5=dv;clear β;refine aY (v:=sv) (by exact .here) fun sa sc e=>?_;subst e;refine aY (v:=dv) (by exact Take.there .here) fun da dc e=>?_;subst e;refine ct (rs:=[7]) (by kernel_rfl) (by simp) (Zw.2 ⟨?_,fun _ h=>absurd h Zp⟩);refine cF I ?_
 (refine an (.of I) (.of I) bF I I (eL I) (bG I) ak<|Jn ?_)
 refine ct (rs:=[8]) (by kernel_rfl) (by simp) (Zw.2 ⟨?_,fun _ h=>absurd h Zp⟩);refine cF I ?_
 (refine bP I I ae<|Jn ?_)
 refine ct (rs:=[9]) (by kernel_rfl) (by simp) (Zw.2 ⟨?_,fun _ h=>absurd h Zp⟩);refine cF I ?_
 (refine an (.of I) (.of I) .here I I (eL I) (bG I) ak<|Jn ?_)
 with_reducible refine cM (by kernel_rfl) ?_
 (refine Jt<|Jr<|bP I I ae<|JL I df I ?_)
 refine JN bz I (fun w1 aG=>HX (h.keeps aG.keeps).ti (by have:=cO.2.2;omega)) ?_;intro tv _;dsimp only [id_eq,Zb,Za];refine aY (v:=tv) (by exact .here) fun ta tc e=>?_;subst e
 (refine bP I I ae<|an (.of I) (.of I) (.there .here) I I (eL I) (bG I) ak<|Ji<|bP I I ae<|JL I eG I<|JI I ?_)
 with_reducible apply bu
 case hr=>
  with_reducible apply FN
  case hx=>exact Is.of I
  case hy=>exact Is.of I
  case hl=>exact Zz _
  case hb=>omega
  case hz=>rfl
  case hsz=>rfl
  case h63=>omega
 case hd=>rfl
 intro bg S5
 (refine bP I I ae<|an (.of I) (.of I) (.there .here) I I (eL I) (bG I) ak<|Ji<|bP I I ae<|JL I .here I<|bP I I ae<|JL I kU I ?_)
 with_reducible apply II
 case hx=>exact Is.of I
 case hy=>exact Is.of I
 case ht=>exact Take.there .here
 case hsrc=>exact fun w' aA=>OU.keeps aA.keeps
 case h1=>exact FU r.po
 case hfit=>
  simp [Value.cells]
 case hd=>rfl
 rw [Zae (by rw [c5];exact Zz _),<- Ao,zT _ _ (by rw [jg];simp [Value.cells])];refine cH (n:=r.po.length) (xs:=gK r.po) (cap:=r.po.length) (g:=bg) (E:=188) (sz:=3) (by exact .here) (Zz _) (by unfold maxLen;omega) ?_ (jg _) ?_
 ·rw [Zg,ZaS,jg];simp [Value.cells]
 (refine Ji<|ab (cK (.there .here)) I<|an (.of I) (.of I) eG I I (gr I I I I I I) (bG I) ak<|Jn<|Je ?_)
 with_reducible first|apply aR|apply aS
 case he=>exact kQ I inferInstance I .here ak (by rfl)
 case hR=>
  intro w' aA;exact aD (.slice sa r.sr.length sc,.slice da r.de.length dc,.slice ta r.ti.length tc,.w bg r.po.length r.po.length) trivial (by exact .cons df (.cons df (.cons cA (.cons (.there .here) .nil)))) aA I
end Go.Proofs.A1
namespace Go.Proofs.A1
structure Sw (po:List Po) (D:List ByteArray) (f:Po->Bool):Prop where
 de:∀ p∈po,p.ou∈D->f p=true
 up:∀ p∈po,∀ q∈po,f q=true->q.lv=p.lv->q.ip=p.ou->f p=true
theorem Sw.start (po:List Po) (D:List ByteArray):Sw po D fun _=>true:=⟨fun _ _ _=>rfl,fun _ _ _ _ _ _ _=>rfl⟩
theorem Sw.step {po:List Po} {D:List ByteArray} {f:Po->Bool} (h:Sw po D f) {v:Int} {o:ByteArray} (hD:o ∉ D) (hu:∀ q∈po,f q=true->¬ (q.lv=v/\q.ip=o)):Sw po D fun x=>f x&&!yI v o x:=by
 refine ⟨fun p hp hd=>?_,fun p hp q hq hf e1 e2=>?_⟩
 ·have h1:=h.de p hp hd;have h2:yI v o p=false:=by
   unfold yI;have:¬ p.ou=o:=fun e=>hD (e ▸ hd)
   simp [this]
  simp [h1,h2]
 ·rw [Bool.and_eq_true] at hf;have h1:=h.up p hp q hq hf.1 e1 e2;have h2:yI v o p=false:=by
   unfold yI;by_cases a:p.lv=v
   ·by_cases b:p.ou=o
    ·exact absurd ⟨e1.trans a,e2.trans b⟩ (hu q hq hf.1)
    ·simp [b]
   ·simp [a]
  simp [h1,h2]
theorem tQ (po:List Po) (f:Po->Bool) (v:Int) (o:ByteArray):(po.filter f).filter (fun x=>!yI v o x)=po.filter fun x=>f x&&!yI v o x:=by
 rw [List.filter_filter];congr 1;funext x;exact Bool.and_comm _ _
end Go.Proofs.A1
namespace Go.Proofs.A1
open Go Go.SL
def Ro.wp (r:Ro) (po:List Po):Ro:=⟨r.lv,r.ma,r.sr,r.de,r.ti,po⟩
variable {i:Nat} {j:Jb} {k:Nat} {p:Po} {po q:List Po} {r:Ro} {v:Int}
theorem gT.wp (h:gT r po):gT (r.wp q) po:=⟨h.qd,h.Ib,h.out,h.uO,h.MQ,h.BF,h.use⟩
theorem qw.wp (h:qw r):qw (r.wp q):=⟨h.sd,h.st,h.dt,h.TR⟩
theorem DB.wp (h:DB r):DB (r.wp q):=⟨h.nd⟩
theorem tY.wp (h:tY r) {q:List Po} (hq:gT r q):tY (r.wp q):=⟨h.lim,h.Ii.wp,h.len,h.sm,h.dm,h.tm,hq.wp⟩
theorem tY.nd (h:tY r):(cN r).Nodup:=h.Ii.parts.2.2.1
def xB (D:List ByteArray) (po:List Po):List Po:=po.filter fun p=>fv D p.ou||po.any fun q=>decide (q.lv=p.lv)&&decide (q.ip=p.ou)
def G3 (D:List ByteArray):Nat->List Po->List Po
 | 0,po=>po
 | n+1,po=>G3 D n (xB D po)
def xC (D:List ByteArray) (po:List Po):List Po:=G3 D po.length po
theorem BX {D:List ByteArray} {po:List Po} (h:xB D po=po):∀ n,G3 D n po=po
 | 0=>rfl
 | n+1=>by rw [G3,h];exact BX h n
theorem FF {D:List ByteArray}:∀ (n:Nat) (po:List Po) (f:Po->Bool),Sw po D f->(po.filter f).length<=n ->
  ∃ g:Po->Bool,Sw po D g/\G3 D n (po.filter f)=po.filter g/\xB D (po.filter g)=po.filter g
 | 0, po, f, h, hl => by
  have e:po.filter f=[]:=Z5 (by omega);exact ⟨f,h,I,by rw [e];rfl⟩
 | n + 1, po, f, h, hl => by
  have hS:Sw po D fun p=>f p&&(fv D p.ou||(po.filter f).any fun q=>decide (q.lv=p.lv)&&decide (q.ip=p.ou)):=by
   refine ⟨fun p hp hd=>?_,fun p hp q hq hf e1 e2=>?_⟩
   ·have:=h.de p hp hd;show (f p&&(fv D p.ou||_))=true;rw [this,dZ.2 hd];rfl
   ·rw [Zl] at hf;have h1:=h.up p hp q hq hf.1 e1 e2;rw [h1,Zaz,ZQ]
    right
    rw [ZN];exact ⟨q,Zy.2 ⟨hq,hf.1⟩,by simp [e1,e2]⟩
  have e:xB D (po.filter f)=po.filter fun p=>f p&&(fv D p.ou||(po.filter f).any fun q=>decide (q.lv=p.lv)&&decide (q.ip=p.ou)):=by
   unfold xB;rw [ZbD];refine Zbb fun p _=>?_;rw [Bool.and_comm]
  by_cases hfx:xB D (po.filter f)=po.filter f
  ·exact ⟨f,h,BX hfx _,hfx⟩
  ·have aN:(xB D (po.filter f)).length<(po.filter f).length:=by
    have hle:(xB D (po.filter f)).length<=(po.filter f).length:=Z8 _ _;rcases ZbC (xB D (po.filter f)).length (po.filter f).length with h1 | h1
    ·exact h1
    ·exact absurd (List.filter_sublist.eq_of_length (Nat.le_antisymm hle h1)) hfx
   rw [G3,e];exact FF n po _ hS (by rw [<- e];omega)
structure Swd (po:List Po) (D:List ByteArray) (f:Po->Bool):Prop where
 sw:Sw po D f
 us:∀ p∈po,f p=true->p.ou∈D\/∃ q∈po,f q=true/\q.lv=p.lv/\q.ip=p.ou
theorem FG (D:List ByteArray) (po:List Po):∃ g,Swd po D g/\xC D po=po.filter g:=by
 obtain ⟨g,h1,h2,h3⟩:=FF (D:=D) po.length po (fun _=>true) ⟨fun _ _ _=>rfl,fun _ _ _ _ _ _ _=>rfl⟩ (Z8 _ _);rw [ZaO.2 fun _ _=>rfl] at h2
 refine ⟨g,⟨h1,fun p hp hg=>?_⟩,h2⟩;have hm:p∈xB D (po.filter g):=by rw [h3];exact Zy.2 ⟨hp,hg⟩
 have:=(Zy.1 hm).2;rw [ZQ,dZ,ZN] at this;rcases this with h | ⟨q,hq,e⟩
 ·exact .inl h
 ·rw [Zl,decide_eq_true_eq,decide_eq_true_eq] at e;obtain ⟨a,b⟩:=Zy.1 hq;exact .inr ⟨q,a,b,e.1,e.2⟩
structure PV (r:Ro) (po:List Po):Prop where
 one:tr po
 out:∀ p∈po,p.ou∈bU r\/p.ou∈cN r
 uO:∀ p∈po,p.ip∈cG r\/p.ip∈cN r
 BF:∀ v,¬ ∃ t∈cN r,t∈eX po v ((cN r).length+1) t
theorem gT.acy (h:gT r po):PV r po:=⟨gT.one h.qd,h.out,h.uO,h.BF⟩
theorem PV.sub (h:PV r po) (f:Po->Bool):PV r (po.filter f):=by
 have hs:∀ p∈po.filter f,p∈po:=fun p hp=>(Zy.1 hp).1
 exact ⟨h.one.filter f,fun p hp=>h.out p (hs p hp),fun p hp=>h.uO p (hs p hp),fun v ⟨t,ht,hc⟩=>h.BF v ⟨t,ht,Bb h.one hs hc⟩⟩
theorem PV.short (hn:qw r) {po:List Po} (h:PV r po):∀ v o m,(cN r).length+1<=m->eX po v m o=eX po v ((cN r).length+1) o:=fun v o m hm=>
 mT (T:=cN r) (gT.tie hn h.out h.uO) (h.BF v) o hm
theorem PV.tid (hn:qw r) {po:List Po} (h:PV r po) {f:Po->Bool} (hf:Swd po (bU r) f):po.filter f=xC (bU r) po:=by
 obtain ⟨g,hg,e⟩:=FG (bU r) po;rw [e];exact Om h.one (h.short hn) hf.sw.de hf.sw.up hf.us hg.sw.de hg.sw.up hg.us
def Tk.at (t:Tk) (k:Nat):ByteArray:=t.so.getD k ⟨#[]⟩
def Tk.zero:Tk:=⟨⟨#[]⟩,[]⟩
def od (r:Ro) (t:Tk) (k:Nat):Bool:=!decide (t.at k=⟨#[]⟩)&&!decide (t.at k=k8 r (k:Nat) t.de)
def nV (r:Ro) (t:Tk):Nat->List Po->List Po
 | 0,po=>po
 | k+1,po=>if od r t k then (nV r t k po).filter (fun x=>!yI (k:Nat) t.de x) else nV r t k po
def jK (r:Ro) (l:List Tk):Nat->List Po
 | 0=>r.po
 | i+1=>nV r (l.getD i Tk.zero) (l.getD i Tk.zero).so.length (jK r l i)
def dash:ByteArray:=⟨#[45]⟩
def nG (r:Ro) (t:Tk) (k:Nat):Bool:=od r t k&&!decide (t.at k=dash)
def nn (r:Ro) (t:Tk):Nat->List Po->Option (List Po)
 | 0,po=>some po
 | k+1,po=>(nn r t k po).bind fun q=>if nG r t k then (ri (r.wp q) (k:Nat) (t.at k) t.de).map fun p=>lN r q (k:Nat) (t.at k) p t.de else some q
def iu (r:Ro) (l:List Tk) (po:List Po):Nat->Option (List Po)
 | 0=>some po
 | i+1=>(iu r l po i).bind (nn r (l.getD i Tk.zero) (l.getD i Tk.zero).so.length)
theorem G6 {t:Tk} (h:nn r t k po=none):∀ {m},k<=m->nn r t m po=none:=by
 intro m hm
 induction hm with
 | refl=>exact h
 | step _ ih=>rw [nn,ih];rfl
theorem yw {l:List Tk} (h:iu r l po k=none):∀ {m},k<=m->iu r l po m=none:=by
 intro m hm
 induction hm with
 | refl=>exact h
 | step _ ih=>rw [iu,ih];rfl
def Ae (r:Ro) (l:List Tk) (po:List Po):Nat:=((List.range l.length).find? fun i=>(iu r l po (i+1)).isNone).getD 0
theorem N1 {l:List Tk} (hi:i<l.length) {q:List Po} (h1:iu r l po i=some q) (h2:iu r l po (i+1)=none):Ae r l po=i:=by
 unfold Ae;have:(List.range l.length).find? (fun i=>(iu r l po (i+1)).isNone)=some i:=by
  rw [List.find?_eq_some_iff_append];refine ⟨by rw [h2];rfl,List.range i,(List.range (l.length-i-1)).map (fun x=>x+i+1),?_,fun j hj=>?_⟩
  ·apply List.ext_getElem
   ·simp;omega
   ·intro n a b;rw [Zbm];rcases Zas n i with c | c | c
    ·rw [ZaC (by simpa using c)];simp
    ·subst c;rw [Zar (by simp)];simp
    ·rw [Zar (by simp;omega)];simp only [ZaM];obtain ⟨d,hd⟩:∃ d,n-i=d+1:=⟨n-i-1,by omega⟩;simp only [hd,List.getElem_cons_succ,Z0,Zbm];omega
  ·have hj:=ZP.1 hj;cases hn:iu r l po (j+1) with
   | some _=>rfl
   | none=>rw [yw hn (show j+1<=i by omega)] at h1;cases h1
 rw [this];rfl
def lq (r:Ro) (l:List Tk):Int:=fU (fun t=>(r.de.getD (bA (bU r) t.de).toNat ⟨⟨#[]⟩,0,false⟩).pr) l
def Ro.nil:Ro:=⟨0,0,[],[],[],[]⟩
def fx (r:Ro) (l:List Tk):Ro×Int×Int:=
 if 0<=lq r l then (Ro.nil,lq r l,31) else
 match iu r l (xC (bU r) (jK r l l.length)) l.length with
 | none=>(Ro.nil,(Ae r l (xC (bU r) (jK r l l.length)):Nat),18)
 | some po=>(r.wp po,0,0)
structure Bn (r:Ro) (l:List Tk):Prop where
 de:∀ t∈l,t.de∈bU r
 nd:(l.map Tk.de).Nodup
 lv:∀ t∈l,(t.so.length:Int)=r.lv
 so:∀ t∈l,∀ s∈t.so,s=⟨#[]⟩\/s=dash\/s∈cG r
 y6:l.length<=8
theorem Bn.wp {l:List Tk} (h:Bn r l) (q:List Po):Bn (r.wp q) l:=⟨h.de,h.nd,h.lv,h.so,h.y6⟩
def Pr (r:Ro) (t:Tk) (k:Nat) (p:Po):Bool:=(List.range k).any fun i=>od r t i&&yI (i:Nat) t.de p
theorem nK (r:Ro) (t:Tk):∀ (k:Nat) (po:List Po),nV r t k po=po.filter fun p=>!Pr r t k p
 | 0,po=>by rw [nV,ZaO.2 fun p _=>by simp [Pr]]
 | k + 1, po => by
  rw [nV,nK r t k po];have e:∀ p,Pr r t (k+1) p=(Pr r t k p||(od r t k&&yI (k:Nat) t.de p)):=fun p=>by
   unfold Pr;rw [List.range_succ,List.any_append];simp
  split
  ·rename_i h;rw [ZbD];refine Zbb fun p _=>?_;rw [e,h,Zaz,Bool.not_or,Bool.and_comm]
  ·rename_i h;refine Zbb fun p _=>?_;rw [e,ZaL.2 h,Bool.false_and,Bool.or_false]
def LR (r:Ro) (l:List Tk) (i:Nat) (p:Po):Bool:=(List.range i).any fun j=>Pr r (l.getD j Tk.zero) (l.getD j Tk.zero).so.length p
theorem kR (r:Ro) (l:List Tk):∀ i,jK r l i=r.po.filter fun p=>!LR r l i p
 | 0=>by rw [jK,ZaO.2 fun p _=>by simp [LR]]
 | i + 1 => by
  rw [jK,nK,kR r l i,ZbD];refine Zbb fun p _=>?_;have e:LR r l (i+1) p=(LR r l i p||Pr r (l.getD i Tk.zero) (l.getD i Tk.zero).so.length p):=by
   unfold LR;rw [List.range_succ,List.any_append];simp
  rw [e,Bool.not_or,Bool.and_comm]
theorem Gz {t:Tk}:Pr r t k p=true↔∃ i,i<k/\od r t i=true/\p.lv=(i:Nat)/\p.ou=t.de:=by
 unfold Pr yI;simp [ZN]
theorem Ps {l:List Tk}:LR r l l.length p=true↔∃ t∈l,∃ i,i<t.so.length/\od r t i=true/\p.lv=(i:Nat)/\p.ou=t.de:=by
 unfold LR;rw [ZN];constructor
 ·rintro ⟨j,hj,h⟩;have hj:=ZP.1 hj;rw [Zk,Zc hj] at h;exact ⟨l[j],Zj hj,Gz.1 h⟩
 ·rintro ⟨t,ht,h⟩;obtain ⟨j,hj,rfl⟩:=Zx ht;refine ⟨j,ZP.2 hj,?_⟩;rw [Zk,Zc hj];exact Gz.2 h
theorem l8 {r:Ro} {W:List Po->Jb->Option (List Nat)}:∀ {a b:List Jb} {po:List Po},sF r W po (a++b)=(sF r W po a).bind fun q=>sF r W q b
 | [],b,po=>rfl
 | j :: a, b, po => by
  rw [Zb,sF,sF];cases W po j with
  | none=>rfl
  | some p=>exact l8
def vV (r:Ro) (t:Tk):Nat->List Jb
 | 0=>[]
 | k+1=>vV r t k++if nG r t k then [⟨(k:Nat),t.at k,t.de⟩] else []
def vU (r:Ro) (l:List Tk):Nat->List Jb
 | 0=>[]
 | i+1=>vU r l i++vV r (l.getD i Tk.zero) (l.getD i Tk.zero).so.length
def jW (r:Ro) (po:List Po) (j:Jb):Option (List Nat):=if fv (bU r) j.d then ri (r.wp po) j.v j.s j.d else none
theorem Na {so de:ByteArray} {p:List Nat} (h:ri r v so de=some p):(fJ r r.po v so).least (oq r de) p:=by
 unfold ri at h;split at h
 ·cases h
 ·rename_i e;cases h;exact Wn.TB e
theorem Qb (r:Ro):∀ po j p,jW r po j=some p->(fJ r po j.v j.s).ok p/\(fJ r po j.v j.s).fin p=jO r j.d:=by
 intro po j p h;unfold jW at h;split at h
 ·rename_i hd;have hl:=Na h;exact ⟨hl.1,hl.2.1.trans (LS (r:=r) (dZ.1 hd)).symm⟩
 ·cases h
theorem sH {r:Ro} {t:Tk} (ht:t.de∈bU r):∀ (k:Nat) (po:List Po),nn r t k po=sF r (jW r) po (vV r t k)
 | 0,po=>rfl
 | k + 1, po => by
  rw [nn,vV,l8,sH ht k po];congr 1;funext q;cases nG r t k with
  | false=>rfl
  | true =>
   rw [if_pos I,if_pos I,sF];unfold jW;rw [if_pos (dZ.2 ht)];cases ri (r.wp q) (k:Nat) (t.at k) t.de with
   | none=>rfl
   | some p=>rfl
theorem sG {r:Ro} {l:List Tk} (hl:∀ t∈l,t.de∈bU r) (po:List Po):∀ i,i<=l.length->iu r l po i=sF r (jW r) po (vU r l i)
 | 0,_=>rfl
 | i + 1, hi => by
  rw [iu,vU,l8,sG hl po i (by omega)];congr 1;funext q;refine sH ?_ _ _;rw [Zk,Zc (by omega)];exact hl _ (Zj _)
theorem oN {t:Tk}:j∈vV r t k↔∃ i,i<k/\nG r t i=true/\j=⟨(i:Nat),t.at i,t.de⟩:=by
 induction k with
 | zero=>simp [vV]
 | succ k ih =>
  rw [vV,Zv,ih];constructor
  ·rintro (⟨i,h1,h2,h3⟩ | h)
   ·exact ⟨i,by omega,h2,h3⟩
   ·split at h
    ·rename_i hb;exact ⟨k,by omega,hb,ZE.1 h⟩
    ·cases h
  ·rintro ⟨i,h1,h2,h3⟩;by_cases e:i=k
   ·subst e
    right
    rw [if_pos h2,h3];exact ZE.2 I
   ·exact .inl ⟨i,by omega,h2,h3⟩
theorem oM {l:List Tk} (hi:i<=l.length):j∈vU r l i↔∃ m,∃ hm:m<i,∃ k,k<(l[m]'(by omega)).so.length/\nG r (l[m]'(by omega)) k=true/\j=⟨(k:Nat),(l[m]'(by omega)).at k,(l[m]'(by omega)).de⟩:=by
 induction i with
 | zero=>simp [vU]
 | succ i ih =>
  rw [vU,Zv,ih (by omega),Zk,Zc (show i<l.length by omega),Zal,oN];constructor
  ·rintro (⟨m,hm,h⟩ | h)
   ·exact ⟨m,by omega,h⟩
   ·exact ⟨i,by omega,h⟩
  ·rintro ⟨m,hm,h⟩;by_cases e:m=i
   ·subst e;exact .inr h
   ·exact .inl ⟨m,by omega,h⟩
def JbD (a b:Jb):Prop:=¬(b.v=a.v/\b.d=a.d)
theorem AI (r:Ro) (t:Tk):∀ k,(vV r t k).Pairwise JbD
 | 0=>.nil
 | k + 1 => by
  rw [vV,List.pairwise_append];refine ⟨AI r t k,?_,fun a ha b hb=>?_⟩
  ·split
   ·exact List.pairwise_singleton _ _
   ·exact .nil
  ·split at hb
   ·obtain ⟨i,h1,_,rfl⟩:=oN.1 ha;rw [ZE.1 hb];rintro ⟨e,_⟩;dsimp only at e;omega
   ·cases hb
theorem y9 {l:List Tk} (hn:(l.map Tk.de).Nodup) {i j:Nat} (hi:i<l.length) (hj:j<l.length) (hne:i≠j):l[i].de≠l[j].de:=by
 intro e;have h:=Zaa.1 hn;have hl:(l.map Tk.de).length=l.length:=Zd _;rcases Zas i j with c | c | c
 ·exact h i j (by omega) (by omega) c (by simpa using e)
 ·exact hne c
 ·exact h j i (by omega) (by omega) c (by simpa using e.symm)
theorem AH {r:Ro} {l:List Tk} (hn:(l.map Tk.de).Nodup):∀ i,i<=l.length->(vU r l i).Pairwise JbD
 | 0,_=>.nil
 | i + 1, hi => by
  rw [vU,List.pairwise_append];refine ⟨AH hn i (by omega),AI r _ _,fun a ha b hb=>?_⟩;rw [Zk,Zc (show i<l.length by omega),Zal] at hb;obtain ⟨m,hm,k,_,_,rfl⟩:=(oM (by omega)).1 ha;obtain ⟨k',_,_,rfl⟩:=oN.1 hb;rintro ⟨_,e⟩;exact y9 hn (show i<l.length by omega) (show m<l.length by omega) (by omega) e
theorem lD {t:Tk}:od r t k=true↔t.at k≠⟨#[]⟩/\t.at k≠k8 r (k:Nat) t.de:=by
 unfold od;simp
theorem mQ {t:Tk}:nG r t k=true↔t.at k≠⟨#[]⟩/\t.at k≠k8 r (k:Nat) t.de/\t.at k≠dash:=by
 unfold nG;rw [Zl,lD];simp [and_assoc]
theorem Tk.at_mem {t:Tk} (h:k<t.so.length):t.at k∈t.so:=by
 unfold Tk.at
 rw [Zk,Zc h];exact Zj h
def pb (r:Ro) (l:List Tk):List Po:=xC (bU r) (jK r l l.length)
def Uj (r:Ro) (l:List Tk) (v:Int) (y:ByteArray):Prop:=∃ t∈l,∃ i,i<t.so.length/\od r t i=true/\v=(i:Nat)/\y=t.de
theorem qO (h:tY r) {l:List Tk} (hl:Bn r l):gT r (pb r l)/\(∀ v y,y∈bU r->¬ Uj r l v y->ed (pb r l) v y=ed r.po v y/\qP (pb r l) v (cG r) y=qP r.po v (cG r) y)/\∀ v y,Uj r l v y->ed (pb r l) v y=none:=by
 obtain ⟨f,hf,e⟩:=FG (bU r) (jK r l l.length);have hg:∀ p,(!LR r l l.length p)=true↔¬ Uj r l p.lv p.ou:=fun p=>by
  rw [Zbu,<- Zax];exact not_congr Ps
 unfold pb;rw [e,kR] at *;obtain ⟨k1,k2,k3⟩:=Pq (g:=fun p=>!LR r l l.length p) (f:=f) h.uL h.val (fun p hp ht=>(hg p).2 fun ⟨t,htl,i,_,_,_,e5⟩=>h.uL.dt _ (hl.de t htl) (e5 ▸ ht)) hf.sw.de hf.sw.up hf.us;refine ⟨k1,fun v y hy hd=>k2 v y hy fun p _ e1 e2=>(hg p).2 (by rw [e1,e2];exact hd),fun v y hd=>k3 v y fun p _ e1 e2=>?_⟩;have:¬ (!LR r l l.length p)=true:=fun q=>(hg p).1 q (by rw [e1,e2];exact hd)
 exact Zax _ ▸ this
theorem AG (h:tY r) {l:List Tk} (hl:Bn r l) {t:Tk} (ht:t∈l) {k:Nat} (hk:k<t.so.length) (hj:nG r t k=true):(0<=((k:Nat):Int)/\((k:Nat):Int)<r.lv)/\t.at k∈cG r/\t.de∈bU r/\ed (pb r l) (k:Nat) t.de=none:=by
 have h1:=hl.lv t ht;obtain ⟨j1,j2,j3⟩:=mQ.1 hj;refine ⟨by omega,?_,hl.de t ht,(qO h hl).2.2 _ _ ⟨t,ht,k,hk,lD.2 ⟨j1,j2⟩,I,I⟩⟩;rcases hl.so t ht _ (Tk.at_mem hk) with e | e | e
 ·exact absurd e j1
 ·exact absurd e j3
 ·exact e
theorem Sd (h:tY r) {l:List Tk} (hl:Bn r l) {i:Nat} (hi:i<l.length) {k:Nat} (hk:k<=l[i].so.length) {q0 q:List Po} (h0:iu r l (pb r l) i=some q0) (h1:nn r l[i] k q0=some q) :
  gT r q/\∀ m,k<=m->m<l[i].so.length->od r l[i] m=true->ed q (m:Nat) l[i].de=none:=by
 have lR:=hl.de l[i] (Zj hi);rw [sG hl.de _ i (by omega)] at h0;rw [sH lR] at h1;have h2:sF r (jW r) (pb r l) (vU r l i++vV r l[i] k)=some q:=by rw [l8,h0];exact h1
 have yT:∀ j∈vU r l i++vV r l[i] k,∃ m,∃ hm:m<l.length,∃ n,n<l[m].so.length/\nG r l[m] n=true/\j=⟨(n:Nat),l[m].at n,l[m].de⟩/\(m=i->n<k):=by
  intro j hj;rcases Zv.1 hj with hj | hj
  ·obtain ⟨m,hm,n,e1,e2,e3⟩:=(oM (by omega)).1 hj;exact ⟨m,by omega,n,e1,e2,e3,fun e=>by omega⟩
  ·obtain ⟨n,e1,e2,e3⟩:=oN.1 hj;exact ⟨i,hi,n,by omega,e2,e3,fun _=>e1⟩
 obtain ⟨k1,_,k3⟩:=zZ h.uL h.nd (Qb r) _ _ _ (qO h hl).1 (fun j hj=>by
   obtain ⟨m,hm,n,e1,e2,rfl,_⟩:=yT j hj;exact AG h hl (Zj hm) e1 e2) (List.pairwise_append.2 ⟨AH hl.nd i (by omega),AI r _ _,fun a ha b hb=>by
   obtain ⟨m,hm,n,_,_,rfl⟩:=(oM (by omega)).1 ha;obtain ⟨n',_,_,rfl⟩:=oN.1 hb;rintro ⟨_,e⟩;exact y9 hl.nd hi (show m<l.length by omega) (by omega) e⟩) h2
 refine ⟨k1,fun m aG k6 EX=>?_⟩;rw [(k3 (m:Nat) l[i].de lR fun j hj ⟨e1,e2⟩=>by
  obtain ⟨x,hx,n,_,_,rfl,e5⟩:=yT j hj;by_cases c:x=i
  ·subst c;have:=e5 I;dsimp only at e1;omega
  ·exact y9 hl.nd hx hi c e2.symm).2]
 exact (qO h hl).2.2 _ _ ⟨l[i],Zj hi,m,k6,EX,I,I⟩
theorem Ru (h:tY r) {l:List Tk} (hl:Bn r l) {q:List Po} (h0:iu r l (pb r l) l.length=some q) :
  gT r q/\(∀ v y,y∈bU r->¬ Uj r l v y->qP q v (cG r) y=qP r.po v (cG r) y) /\
  ∀ t∈l,∀ k,k<t.so.length->od r t k=true->qP q (k:Nat) (cG r) t.de=if t.at k=dash then ⟨#[]⟩ else t.at k:=by
 rw [sG hl.de _ _ (Zz _)] at h0;have yT:∀ j∈vU r l l.length,∃ t∈l,∃ n,n<t.so.length/\nG r t n=true/\j=⟨(n:Nat),t.at n,t.de⟩:=by
  intro j hj;obtain ⟨m,hm,n,e1,e2,e3⟩:=(oM (Zz _)).1 hj;exact ⟨_,Zj hm,n,e1,e2,e3⟩
 obtain ⟨k1,k2,k3⟩:=zZ h.uL h.nd (Qb r) _ _ _ (qO h hl).1 (fun j hj=>by
   obtain ⟨t,ht,n,e1,e2,rfl⟩:=yT j hj;exact AG h hl ht e1 e2) (AH hl.nd _ (Zz _)) h0
 have hDr:∀ t∈l,∀ n,n<t.so.length->nG r t n=true->Uj r l (n:Nat) t.de:=fun t ht n hn hj=>by
  obtain ⟨j1,j2,_⟩:=mQ.1 hj;exact ⟨t,ht,n,hn,lD.2 ⟨j1,j2⟩,I,I⟩
 refine ⟨k1,fun v y hy hd=>?_,fun t ht k hk EX=>?_⟩
 ·rw [(k3 v y hy fun j hj ⟨e1,e2⟩=>by
   obtain ⟨t,ht,n,a1,a2,rfl⟩:=yT j hj;exact hd (by rw [e1,e2];exact hDr t ht n a1 a2)).1]
  exact ((qO h hl).2.1 v y hy hd).2
 ·by_cases VX:t.at k=dash
  ·rw [if_pos VX,(k3 (k:Nat) t.de (hl.de t ht) fun j hj ⟨e1,e2⟩=>by
    obtain ⟨t',Hw,n,a1,a2,rfl⟩:=yT j hj;dsimp only at e1 e2;obtain ⟨x,hx,rfl⟩:=Zx ht;obtain ⟨x',DI,rfl⟩:=Zx Hw;have e:x=x':=Classical.byContradiction fun c=>y9 hl.nd hx DI c e2
    subst e;have e3:k=n:=by omega
    subst e3;exact (mQ.1 a2).2.2 VX).1]
   exact H2 (fun hs=>h.uL.sd _ hs (hl.de t ht)) ((qO h hl).2.2 _ _ ⟨t,ht,k,hk,EX,I,I⟩)
  ·rw [if_neg VX];obtain ⟨d1,d2⟩:=lD.1 EX;have hj:nG r t k=true:=mQ.2 ⟨d1,d2,VX⟩;obtain ⟨x,hx,rfl⟩:=Zx ht;exact k2 ⟨(k:Nat),l[x].at k,l[x].de⟩ ((oM (Zz _)).2 ⟨x,hx,k,hk,hj,I⟩)
theorem rj {o:ByteArray}:nh po v o=true↔∃ p∈po,p.lv=v/\p.ip=o:=by
 unfold nh AL;rw [ZN];exact ⟨fun ⟨p,hp,h⟩=>⟨p,hp,by simpa using h⟩,fun ⟨p,hp,h⟩=>⟨p,hp,by simpa using h⟩⟩
end Go.Proofs.A1
