/- Parts of the proof: KO KP KQ KR KS KT KU KW KX KYq P5p P5q P5r P5t. -/
import Derived.Test.YteonnodafmegaaaGreatDoorOM08
import Derived.Test.YteonnodafmegaaaGreatDoorOM04
import Derived.Test.YteonnodafmegaaaGreatDoorOM03
import Derived.Shelf.Slices.In.SortNone
import Derived.Test.YteonnodafmegaaaGreatDoorOM02
import Derived.Test.YteonnodafmegaaaGreatDoorOM05
import Derived.Test.YteonnodafmegaaaGreatDoorOM07
import Derived.Test.YteonnodafmegaaaGreatDoorOM01
set_option linter.unusedSectionVars false
set_option linter.unusedVariables false
set_option linter.unusedSimpArgs false
namespace Go.Proofs.A1
open Go Go.SL Go.Shelf Go.RowKit
open Tryz
open Tryz renaming prog->T_
def rU (l:List Int):List Int:=l.mergeSort fun x y=>decide (x<=y)
theorem rT (l:List Int):(rU l).length=l.length:=List.length_mergeSort _
theorem KG (l:List Int):List.Perm (rU l) l:=List.mergeSort_perm _ _
theorem O0 (l:List Int):(rU l).Pairwise (·<=·):=by
 have:=List.pairwise_mergeSort (le:=fun x y:Int=>decide (x<=y)) (fun a b c h1 h2=>by simp at *;omega) (fun a b=>by simp;omega) l
 exact this.imp fun h=>by simpa using h
theorem Le {α:Type} [Inhabited α] {enc:α->Value} {w:World} {g n:Nat} {os:Array Obj} {cur:Array Value} {e:TypeId} {fr:Nat×Nat} (d:Array α) (hb:w.heap[g]? = some (.cells cur e fr)) :
  (Go.Sort.grow (Go.Sort.putRow enc (Go.Sort.ahead w n) g 0 d) os).heap[g]? = some (.cells (Go.Sort.putCells enc 0 d cur) e fr):=by
 have hg:g<w.heap.size:=(Z6.1 hb).1;rw [Go.Sort.heap_grow_old _ _ (by simpa using hg)];simp [Go.Sort.putRow,Go.Sort.mapBlock,Go.Sort.ahead,Zbk,hb,Go.Sort.onCells]
theorem HJ {α:Type} [Inhabited α] {enc:α->Value} {w:World} {g n:Nat} {os:Array Obj} (d:Array α):aJ [g] w (Go.Sort.grow (Go.Sort.putRow enc (Go.Sort.ahead w n) g 0 d) os):=by
 refine ⟨I,I,I,Nat.le_add_right _ _,by simp,fun k hk hne=>?_⟩;rw [Go.Sort.heap_grow_old _ _ (by simpa using hk)];have:g≠k:=fun e=>hne (by rw [e];simp)
 simp [Go.Sort.putRow,Go.Sort.mapBlock,Go.Sort.ahead,Zbk,this]
theorem KA {α:Type} [Inhabited α] {enc:α->Value} (cur:Array Value) (ts:List α) (h:ts.length<=cur.size):(Go.Sort.putCells enc 0 ts.toArray cur).toList.take ts.length=ts.map enc:=by
 apply Zat;intro j;by_cases hj:j<ts.length
 ·rw [List.getElem?_take_of_lt hj,ZaH];simp [Go.Sort.putCells,hj,show j<cur.size by omega]
 ·rw [List.getElem?_take_eq_none (by omega),Zak (by simp;omega)]
variable {L L':List Int} {i:Nat} {l:List Int} {m:Int} {r:Ro} {so:ByteArray} {v:Int} {w:World}
theorem E8 {g:Nat} {cur:Array Value} {e:TypeId} (hb:w.heap[g]? = some (.cells cur e (0,0))) (ht:cur.toList.take l.length=l.map (Value.int .i64)):Go.Sort.Holds (Value.int .i64) w g 0 l.toArray:=by
 intro j hj;have pF:j<l.length:=by simpa using hj
 refine ⟨?_,by simp [World.frozen?,hb]⟩;have h1:(cur.toList.take l.length)[j]? = (l.map (Value.int .i64))[j]?:=by rw [ht]
 rw [List.getElem?_take_of_lt pF] at h1;simp only [World.cell?,hb,ZD];simp only [Option.isSome_none,ZaT,if_false];rw [ZaH] at h1;rw [h1];simp [pF]
theorem Tx {v:Value} {n:Nat} {fp:List Nat} (hn:n=l.length) (hl:n<=1000000) (hs:cr (hp w) [row 3 1 v n (l.map (Value.int .i64))] fp) :
  a8 T_ 156 [v] w fp (fun _:Unit=>True) (fun _=>.tuple #[]) (fun _=>[row 3 1 v n ((rU l).map (Value.int .i64))]):=by
 obtain ⟨f1,f2,rfl,h1,h2⟩:=hs;obtain rfl:f2=[]:=h2;obtain ⟨rfl,hlen,h1⟩:=h1;rw [ZJ];rcases h1 with ⟨rfl,h0⟩ | ⟨g,cap,cur,rfl,hg,kL,ke,oR,tR⟩
 ·have nN:l=[]:=Z8 (by omega);refine (Any.slices_Sort_int_none Tryz.GB none 0 w).mono fun e w' ⟨he,hw⟩=>?_;subst hw;refine ⟨(),he,trivial,.refl _ _,[],Zan,⟨[],[],I,⟨I,?_,.inl ⟨I,h0⟩⟩,I⟩,by simp⟩;rw [Zd,rT];omega
 ·rw [Zar] at oR tR;have Oc:g<w.heap.size:=(Z6.1 hg).1;subst hn;refine (slices_Sort_int g 0 cap l w (E8 hg tR) Oc (by omega)).mono fun e w' ⟨he,m,os,hw⟩=>?_;subst hw;refine ⟨(),he,trivial,HJ _,[g],by simp,⟨[g],[],I,⟨I,?_,.inr ⟨g,cap,_,I,Le _ hg,kL,ke,?_,?_⟩⟩,I⟩,by simp [Value.ownBlock]⟩
  ·rw [Zd,rT];omega
  ·simp [Go.Sort.putCells,oR]
  ·rw [Zar];have:=KA (enc:=Value.int .i64) cur (rU l) (by rw [rT];omega);rw [rT] at this;exact this
def Nf (r:Ro) (v:Int) (so de:ByteArray):Int:=if qY r v so de≠0 then qY r v so de else if N2 r v so (k7 r de) then 24 else 0
def Ip (r:Ro) (v:Int) (so de:ByteArray):List Int:=if qY r v so de≠0 then [] else if N2 r v so (k7 r de) then [] else xz r v so
theorem WU (h:i<L.length) (cur:List Value):(L.map (Value.int .i64)++cur)[i*1]? = some (.q L[i]):=by
 rw [Zar,ZB (by rw [Zd];exact h),ZE,Zc h];rfl
structure xS (r:Ro) (v:Int) (so:ByteArray) (L:List Int) (m:Int) (L':List Int) (k:Nat):Prop where
 pre:L <+: L'
 nd:L'.Nodup
 rc:∀ x∈L',(dG r r.po v so).Rc x
 dn:∀ j,j<k->∀ t,(gj r v m r.ti.length)[j]? = some t->(ia r t).to∈L'
theorem xS.B4 (dU:rQ r) {v:Int} {so:ByteArray} (hs:so∈cK r) {L L':List Int} {m:Int} {k:Nat} (h:xS r v so L m L' k):L'.length<=4:=by
 have hl:=dU.lim;refine GF h.nd fun x hx=>?_;have:=wz dU hs (h.rc x hx);omega
theorem xS.stay {k t:Nat} (h:xS r v so L m L' k) (ht:(gj r v m r.ti.length)[k]? = some t) (hc:(ia r t).to∈L'):xS r v so L m L' (k+1):=by
 refine ⟨h.pre,h.nd,h.rc,fun j hj t' HY=>?_⟩;by_cases e:j=k
 ·subst e;rw [ht] at HY;cases HY;exact hc
 ·exact h.dn j (by omega) t' HY
theorem xS.add {k t:Nat} (h:xS r v so L m L' k) (hm:m∈L) (ht:(gj r v m r.ti.length)[k]? = some t) (hc:¬ (ia r t).to∈L'):xS r v so L m (L'++[(ia r t).to]) (k+1):=by
 have gN:=Z5 ht;unfold gj at gN;rw [Zr,ZW,rr v so,Zm,decide_eq_true_eq] at gN;have hrc:(dG r r.po v so).Rc (ia r t).to:=Wn.Rc.fe (N:=dG r r.po v so) gN.1 gN.2.2 (by rw [gN.2.1];exact h.rc m (h.pre.subset hm));have h2:xS r v so L m (L'++[(ia r t).to]) k:=by
  refine ⟨h.pre.trans (ZaU _ _),?_,fun x hx=>?_,fun j hj t' HY=>ZF _ (h.dn j hj t' HY)⟩
  ·rw [ZG];refine ⟨h.nd,by simp,fun a ha b hb e=>?_⟩;rw [ZL] at hb;subst hb;subst e;exact hc ha
  ·rcases Zz.1 hx with hx | hx
   ·exact h.rc x hx
   ·rw [ZL.1 hx];exact hrc
 exact h2.stay ht (by simp)
theorem xT.next (h:xT r v so L i) (hi:L[i]? = some m) (hJ:xS r v so L m L' (gj r v m r.ti.length).length):xT r v so L' (i+1)/\i+1<=L'.length:=by
 have jO:=(Zn.1 hi).1;have w9:=hJ.pre.length_le;refine ⟨⟨hJ.nd,hJ.rc,fun x hx=>hJ.pre.subset (h.rt x hx),fun j x hj hx t ht hf=>?_⟩,by omega⟩;have Uh:L[j]? = some x:=by
  rw [<- hx];obtain ⟨q,rfl⟩:=hJ.pre;rw [ZB (by omega)]
 by_cases e:j=i
 ·subst e;rw [hi] at Uh;cases Uh;have hm:t∈gj r v m r.ti.length:=by unfold gj;exact Zr.2 ⟨ZW.2 ht,hf⟩
  obtain ⟨q,hq,e⟩:=Zw hm;exact hJ.dn q hq t (by rw [Zc hq,e])
 ·exact hJ.pre.subset (h.dn j x (by omega) Uh t ht hf)
set_option maxHeartbeats 2000000 in
theorem aaf {s d t p:Value} (v:Int) (so de:ByteArray) {w:World} (h:RR w r s d t p) (cZ:nk r):a8 T_ 36 [RA r s d t p,.q v,.string so,.string de] w [] (fun _:Value=>True) (fun x=>.tuple #[x,.q (Nf r v so de)]) (fun x=>[row 3 1 x (Ip r v so de).length ((Ip r v so de).map (Value.int .i64))]):=by
 obtain ⟨h1,h2,h3,h4⟩:=h.one;have mZ:=h.de;obtain ⟨a3,ud,b3,o3,rfl,mP,gF,rN,oR⟩:=mZ;rw [cd] at *;unfold maxLen at gF;unfold RA;refine aS func36 I I ?_
 (refine Jr<|Jy I I fun _ _=>Ja I<|Ja I<|Jn<|Jq<|Jr<|ab (cm .here) I<|Jv I<|Jv I<|Jv I ?_)
 rename_i b4 tS;refine ai mi I (fun w' aB=>rC (s:=s) (d:=.slice a3 r.de.length ud) (t:=t) (p:=p) v so de (h.keeps aB.keeps) cZ) ?_
 (refine Ja I<|Ji<|Jv I<|JD I<|Jn<|gm I (fun az=>?_) fun az=>?_;refine Jr<|Jv I<|Ja I<|Ja I<|Jn<|Ju ?_;rotate_left;refine Jk<|Jr<|ab (cm .here) I<|Jv I<|Jv I ?_;rotate_right)
 ·have e1:Ip r v so de=[]:=if_pos az;have e2:Nf r v so de=qY r v so de:=if_pos az;rw [e1,e2];refine aN 3 1 ?_
  with_reducible first|apply aO|apply aQ
  case he=>exact gH I I I
  case hR=>
   intro w' aB;exact aD (.z) trivial (by exact .h1 .nil) aB I
 have e0:qY r v so de=0:=Zp.1 az;obtain ⟨dU,hv,oK,gq⟩:=Af e0;have e1:Ip r v so de=if N2 r v so (k7 r de) then [] else xz r v so:=if_neg az
 have e2:Nf r v so de=if N2 r v so (k7 r de) then 24 else 0:=if_neg az
 clear az;have ht6:=dU.len.2.2;obtain ⟨j0,uF⟩:∃ i:Nat,bC (cE r) de=(i:Nat):=⟨(bC (cE r) de).toNat,by have:=dP gq;omega⟩;have Dk:j0<r.de.length:=by
  obtain ⟨hl,_⟩:=fD (l:=cE r) (s:=de) (by omega);rw [uF,ZH] at hl;unfold cE at hl;rwa [Zd] at hl
 have X6:k7 r de=(r.de[j0]).mx:=by unfold k7;rw [uF,ZH,Zk,Zc Dk];rfl
 have uX:∀ w',aJ [] w w'->aj T_ 155 [.agg #[.q r.lv,.q r.ma,s,.slice a3 r.de.length ud,t,p],.string de] w' (.q (j0:Nat)):=fun w' hk=>uF ▸ gK de (h.keeps hk)
 have yC:=rN (iq Dk);have pI:=(oR j0 _ (fR Dk)).2;unfold De.cells at pI;have Bo:=pI 1 _ I;rw [e1,e2];refine JN ef I (fun w1 aT=>Gg (s:=s) (d:=.slice a3 r.de.length ud) (t:=t) (p:=p) v so (h.keeps aT.keeps) (by omega) oK) ?_;intro rv _;dsimp only [id_eq,Zb,Za];refine aM (by exact .here) fun ra rc_ e=>?_;subst e;have hC:=xT.begin (v:=v) dU oK;generalize iu r v so r.ti.length=L0 at hC ⊢
 (refine Jz I I fun _ _=>ao (.of I) (.of I) .here I I (dR I) (bz I) ak<|Jn<|Jq<|Jr<|Ja I<|Jn<|J0 ?_)
 rename_i SR ac6
 refine F1 (ι:=Nat×Value×List Int) (fun x=>xT r v so x.2.2 x.1/\x.1<=x.2.2.length) (fun x=>[(12,.q (x.1:Nat)),(11,.p SR),(4,.p b4),(1,.q v),(2,.string so),(3,.string de)])
  (fun x=>[bE SR (.cells #[x.2.1] 49 (0,0)),row 3 1 x.2.1 x.2.2.length (x.2.2.map (Value.int .i64)),JP b4 r s (.slice a3 r.de.length ud) t p]) (fun x=>4-x.1) ?_ ?_
 ·apply yX (0,.slice ra L0.length rc_,L0) ⟨hC,Zi _⟩
  case hs1=>exact bS
  case ht=>
   exact .h3 .nil
 rintro ⟨i,ov,L⟩ ⟨hC,hiL⟩ D;dsimp only at hC hiL ⊢;have h4L:=hC.B4 dU oK;have D8:L.length=L.length:=rfl;refine aM (by exact Take.there .here) fun oa oc e=>?_;subst e;by_cases aK:i<L.length
 ·refine Jq<|Jr<|Jv I<|JL I .here I<|JI I<|JA I<|Jn<|Jd I fun az=>Jk<|Jq<|J0<|Jq ?_;refine dy (by exact Take.there .here) (by omega) fun g iz cur e oD Dd C9 Fb=>?_;cases e;have c1:=WU aK cur
  with_reducible refine cN 6 (by kernel_rfl) ?_
  (refine aA (cm bL) I ?_;refine gn I I ?_;refine aA (gX (.there .here)) I ?_;refine gn I I ?_;refine aA (an (.of I) (.of I) I (by omega) az aW) I ?_;refine aA (ag (.of I) (At.mz .here c1)) I ?_)
  with_reducible refine cT ?_
  refine dC (by exact .here) oD Dd C9 Fb ?_
  with_reducible apply jH
  case hr=>exact ef
  case hd=>rfl
  case ht=>exact bB.nil
  case hc=>
   intro w1 fp aT _ hs1;obtain rfl:fp=[]:=hs1;exact tM (s:=s) (d:=.slice a3 r.de.length ud) (t:=t) (p:=p) v L[i] (h.keeps aT.keeps)
  intro y _;dsimp only [id_eq,Zb,Za];refine Jn<|J0 ?_;have Dm:L[i]? = some L[i]:=Zc aK;have gN:L[i]∈L:=Zj aK;generalize L[i]=m at Dm gN ⊢
  refine jR (ps:=[40,41]) (f:=240) (first:=[]) (cap:=[.pointer (some ⟨y.1,0,none⟩),.pointer (some ⟨y.2.1,0,none⟩),.pointer (some ⟨y.2.2,0,none⟩)]) (ι:=Value×List Int) (κ:=Empty)
   (rst:=[JP b4 r s (.slice a3 r.de.length ud) t p]) ?hg
   [JP y.1 r s (.slice a3 r.de.length ud) t p,bE y.2.1 (.cells #[.q m] 3 (0,0)),bE y.2.2 (.cells #[.q v] 3 (0,0))] (N5 r v m) ?hit
   (fun k x=>xS r v so L m x.2 k)
   (fun x=>[bE SR (.cells #[x.1] 49 (0,0)),row 3 1 x.1 x.2.length (x.2.map (Value.int .i64))])
   (fun _=>False) (fun _=>[]) (fun _=>.ret) (.w g L.length oc,L) ⟨List.prefix_rfl,hC.nd,hC.rc,fun j hj=>absurd hj (ZN _)⟩ ?ht ?hlen ?hps ?round ?kn ?kj
  case hg=>exact Is.of I
  case hit=>intro w' aB;exact LL v m h RO.nil (by omega)
  case ht=>
   dsimp only [Zb,Za];exact .cons dD (.cons cX (.h3 .nil))
  case hlen=>intro vs pC;obtain ⟨x,_,rfl⟩:=Zx.1 pC;rfl
  case hps=>intro t ht;simp only [ZS,Zo,or_false] at ht;rcases ht with rfl | rfl <;> exact ZaA rfl
  case kj=>intro y;cases y
  case kn=>
   rintro ⟨RS,L2⟩ D2 hJ;dsimp only [Zb,Za] at hJ ⊢;rw [vv] at hJ;obtain ⟨hC2,acp⟩:=hC.next Dm hJ;refine Jj<|Jj<|Jt<|Jg<|Jv I<|JB I (by omega)<|Ja I<|Jn ?_;apply Cg (i+1,RS,L2) ⟨hC2,acp⟩ (show 4-(i+1)<4-i by omega)
   case hs1=>exact bS
   case ht=>
    exact .h2 (.cons cX .nil)
  case round=>
   rintro l2 rc W2 YD k ⟨RS,L2⟩ vs hsz hk hJ hB hF;dsimp only at hJ;obtain ⟨RF,Xo,rfl,jO,UQ⟩:=ET hk;have aer:=hJ.B4 dU oK;have D8:L2.length=L2.length:=rfl;have UJ:(L2.map (Value.int .i64)).length=L2.length*1:=by rw [Zd,Zar]
   have MD:∀ (w':World) (RS:Value),Rd w' RS 1 (ints L2)->aj T_ 154 [RS,.q (ia r RF).to] w' (.bool (L2.contains (ia r RF).to)):=fun w' RS hr=>l9 _ hr
   dsimp only [Ti.cells,List.zip_cons_cons,List.zip_nil_right,mV,Zb,Za]
   (refine Jg<|Jz I I fun _ _=>ao (.of I) (.of I) .here I I (fx I I I) (bz I) ak<|Jn ?_)
   with_reducible apply ns
   case ht=>exact Take.there .here
   refine aM (E:=3) (sz:=1) cX fun va vc e=>?_;subst e
   (refine J0<|Jr<|JL I bL I<|bJ I I ae<|JL I (.there .here) I ?_)
   cases Dp:L2.contains (ia r RF).to with
   | true =>
    have QA:∀ (w':World),Rd w' (.slice va L2.length vc) 1 (ints L2)->aj T_ 154 [.slice va L2.length vc,.q (ia r RF).to] w' (.bool true):=fun w' hr=>Dp ▸ MD w' _ hr
    (refine ai bb I (fun w' aB=>(QA w' (lF aB cX D8)))<|JH I<|Jn<|ch (.of I)<|Jw<|Jj ?_)
    apply mC (.slice va L2.length vc,L2)
    case ht=>exact .here
    case hx=>exact hJ.stay Xo (ZaI.1 Dp)
    case h2=>exact .cons (.there .here) (.cons (.there .here) .nil)
   | false =>
    have QA:∀ (w':World),Rd w' (.slice va L2.length vc) 1 (ints L2)->aj T_ 154 [.slice va L2.length vc,.q (ia r RF).to] w' (.bool false):=fun w' hr=>Dp ▸ MD w' _ hr
    (refine ai bb I (fun w' aB=>(QA w' (lF aB cX D8)))<|JH I<|Jn<|cW (.of I)<|Jg<|JL I bL I<|bJ I I ae<|JL I (.there .here) I<|bj (aG (.o I .nil) I I I I) I fun _ _=>?_)
    refine bu (.of I) (.of I) dD .here ak (by rfl) (dR I) (by rfl) (by rfl) (by rfl) ed (by rfl) ?_;intro v';refine aM (by exact .here) fun a' c6 e=>?_;subst e
    (refine ao (.of I) (.of I) dD I I (dR I) (bz I) ak<|Jx<|Jj ?_)
    apply mC (.slice a' (L2.length+1) c6,L2++[(ia r RF).to])
    case ht=>exact cX
    case hx=>exact hJ.add gN Xo (fun hm=>by rw [ZaI.2 hm] at Dp;cases Dp)
    case h2=>
     show bB _ [bE SR (.cells #[.slice a' (L2.length+1) c6] 49 (0,0)),row 3 1 (.slice a' (L2.length+1) c6) (L2++[(ia r RF).to]).length ((L2++[(ia r RF).to]).map (Value.int .i64))] _;rw [Zg,Zv];exact .h2 .nil
 ·obtain rfl:i=L.length:=by omega
  have uH:=hC.done dU oK;have hcb:L.contains (k7 r de)=N2 r v so (k7 r de):=by rw [ZaQ,ZaI,uH,Lc]
  have QA:∀ (w':World),Rd w' (.slice oa L.length oc) 1 (ints L)->aj T_ 154 [.slice oa L.length oc,.q (r.de[j0]).mx] w' (.bool (N2 r v so (k7 r de))):=fun w' hr=>by
   rw [<- hcb,X6];exact l9 _ hr
  refine Jq<|Jr<|Jv I<|JL I .here I<|JI I<|JA I<|Jn<|Jc I fun az=>Jp<|Jl<|Jo<|Jt<|Jq<|Jq ?_
  with_reducible refine cN 10 (by kernel_rfl) ?_
  (refine aA (gX .here) I<|lS I I ae<|aA (gX bL) I<|aA (cm bL) I<|gn I I<|dp bb I (fun w' aB=>(uX w' (Mem.keeps aB)))<|aA (an (.of I) (.of I) yC (by omega) (by omega) aW) I<|lS I I ae<|aA (ag (.of I) (At.base Bo I)) I<|dp bb I (fun w' aB=>(QA w' (lF aB (.there .here) D8))) ?_)
  with_reducible refine cT ?_
  cases hrb:N2 r v so (k7 r de) with
  | true =>
   (refine Jn<|cW (.of I)<|Jr<|Ja I<|Ja I<|Jn<|Ju ?_)
   refine aN 3 1 ?_
   with_reducible first|apply aO|apply aQ
   case he=>exact gH I I I
   case hR=>
    intro w' aB;exact aD (.z) trivial (by exact .h1 .nil) aB I
  | false =>
   (refine Jn<|ch (.of I)<|Jk<|Jr<|JL I .here I ?_)
   with_reducible apply gA (As:=[row 3 1 (.slice oa L.length oc) L.length (L.map (Value.int .i64))])
   case hr=>exact bM
   case hd=>rfl
   case ht=>exact iP
   case hc=>
    intro w1 Bv aT uV hs1 Dt _;exact Tx I (by omega) hs1
   intro _ _;have Qj:rU L=xz r v so:=Nc dU oK hC.nd uH (KG L) (O0 L);have hlc:(xz r v so).length=L.length:=by rw [<- Qj,rT]
   rw [Qj];dsimp only [id_eq,Zb,Za];refine Ji<|JL I (.there .here) I<|Ja I<|Ja I<|Jn<|Je ?_
   with_reducible first|apply aO|apply aQ
   case he=>exact gH I I I
   case hR=>
    intro w' aB;exact aD (.slice oa L.length oc) trivial (show bB _ [row 3 1 (.slice oa L.length oc) (xz r v so).length ((xz r v so).map (Value.int .i64))] _ by rw [hlc];exact .h1 .nil) aB I
end Go.Proofs.A1
namespace Go.Proofs.A1
open Go Go.SL
open Tryz
open Tryz renaming prog->T_
variable {L:List Int} {P:Program} {af:Array Edge} {b:Nat} {c:Cx} {cap:List Value} {cv:Value} {dst:Option Tmp} {f:FuncId} {first:List Value} {g:Option (Nat×Bool)} {hs:List bd} {k:Nat} {l:List (ByteArray×Value)} {lv:Value} {p:Int->Bool} {pos:String} {r:Ro} {sl:aL} {w:World} {x y:Operand}
theorem Ma {l:List Int} [bW T_ f] {w:World} (h:Rd w lv 1 (ints l)) (cV:∀ x∈l,∀ w',aJ [] w w'->aj T_ f (first++[.q x]++cap) w' (.bool (p x))) :
  aj T_ 247 [lv,.func (.func f) first.toArray cap.toArray] w (.q (iN p l)):=by
 obtain ⟨a,cp,b,o,rfl,dd,bO,ha,hc⟩:=h;rw [dw] at *;unfold maxLen at bO;refine ah func247 I I ?_;refine Jr<|Ja I<|Jn<|Jq<|Jr<|Jv I<|JI I<|Jv I<|Jn<|J0 ?_;refine aV (fun k:Nat=>k<=l.length/\∀ i,i<k->(l[i]?.map p).getD false=false) (fun k=>[(8,.int .i64 k),(7,.int .i64 l.length),(0,.slice a l.length cp),(1,.func (.func f) first.toArray cap.toArray)]) (fun _=>[]) (fun k=>l.length-k) ?_ ?_
 ·apply aI 0 ⟨Zi _,fun i h=>by omega⟩
  case hs1=>exact bS
  case ht=>(try simp only [Ze,Zf,Za]);exact .nil
 rintro k ⟨hk,hf⟩;by_cases aK:k<l.length
 ·have cq:=ha (kb aK);have c0:w.cell? ⟨b,o+k*1,none⟩=some (.q l[k]):=(hc k _ (iV aK)).2 0 _ I;have jq:=cV _ (Zj aK);have hps:(l[k]?.map p).getD false=p l[k]:=by simp [aK]
  (refine Jr<|JA I<|Jn<|Jq<|Jd I fun az=>Jk<|Jq<|J0<|Jr<|Jv I<|Ja I<|Ji<|Jv I<|Jv I<|Jv I<|ab (fT cq az) I<|ab (ag (.of I) (At.base c0 I)) I<|ai bM I (fun w' aB=>(jq w' (Mem.keeps aB)))<|Jn<|nj I (fun az=>?_) fun az=>?_;refine Jr<|Jv I<|Ja I<|Jn<|Je<|Jm<|Jh<|Jh<|Jm<|Jh<|JT ?_;rotate_left;refine Jw<|Jj<|Jt<|Jg<|JB I (by omega)<|Jv I<|Jn ?_;rotate_right)
  ·rw [gP hf aK az]
  ·apply aH (k+1) ⟨by omega,fun i hi=>by
    by_cases e:i=k
    ·rw [e,hps];exact az
    ·exact hf i (by omega)⟩ (by omega)
   case hs1=>exact bS
   case ht=>(try simp only [Ze,Zf,Za]);exact .nil
 ·obtain rfl:k=l.length:=by omega
  refine Jr<|JA I<|Jn<|Jq<|Jc I fun az=>Jp<|Jl<|Jo<|Jt<|Jr<|Ja I<|Jn<|Je<|JT ?_;rw [fS hf]
theorem xk {l:List Int} [bW T_ f] {w:World} (h:Rd w lv 1 (ints l)) (cV:∀ x∈l,∀ w',aJ [] w w'->aj T_ f (first++[.q x]++cap) w' (.bool (p x))) :
  aj T_ 161 [lv,.func (.func f) first.toArray cap.toArray] w (.bool (l.any p)):=by
 have jq:∀ w',aJ [] w w'->aj T_ 247 [lv,.func (.func f) first.toArray cap.toArray] w' (.q (iN p l)):=fun w' hk=>
  Ma (h.keeps hk) fun x hx w2 fq=>cV x hx w2 (hk.trans fq)
 rw [<- kU];refine ah func161 I I ?_
 (refine Jr<|Ja I<|Ji<|Jv I<|Jv I<|ai bb I (fun w' aB=>(jq w' (Mem.keeps aB)))<|JG I<|Ja I<|Jn<|Je<|JT ?_)
 rfl
theorem xB (x:Int) {b:Nat} {w:World} (h:Rd w cv 1 (ints L)) (f1:w.cell? ⟨b,0,none⟩=some cv) :
  aj T_ 157 [.q x,.p b] w (.bool (L.contains x)):=by
 have h1:=Rd.one h;refine ah func157 I I ?_
 (refine Jr<|Ja I<|Ji<|ab (ag (.of I) (At.base f1 I)) I<|Jv I ?_)
 refine ai bb I (fun w' aB=>l9 x (h.keeps aB.keeps)) ?_;refine Ja I<|Jn<|Je<|JT ?_
 rfl
theorem xA (x:Int) {b b2:Nat} {w:World} (h:Rd w cv 1 (ints L)) (f1:w.cell? ⟨b,0,none⟩=some cv) (f2:w.cell? ⟨b2,0,none⟩=some (.func (.func 157) #[] #[.p b])) :
  aj T_ 158 [.q x,.p b2] w (.bool (!L.contains x)):=by
 refine ah func158 I I ?_
 (refine Jr<|Ja I<|Ji<|ab (ag (.of I) (At.base f2 I)) I<|Jv I ?_)
 refine ai bM I (fun w' aB=>xB x (h.keeps aB.keeps) (eR f1 I (by simp) aB.keeps)) ?_;refine JH I<|Ja I<|Jn<|Je<|JT ?_
 rfl
def uu (r:Ro) (v:Int) (L:List Int) (x:Ti):Bool:=L.contains x.fr&&!L.contains x.to&&!gL r.po v x.nm
theorem Vs {s d t p:Value} (v:Int) {cv:Value} {L:List Int} (x:Ti) {b b2 b3 b5 b6:Nat} {w:World} (hr:RR w r s d t p) (h:Rd w cv 1 (ints L)) (f1:w.cell? ⟨b,0,none⟩=some cv) (f2:w.cell? ⟨b2,0,none⟩=some (.func (.func 157) #[] #[.p b]))
  (f3:w.cell? ⟨b3,0,none⟩=some (.func (.func 158) #[] #[.p b2])) (hA:BR w b5 (RC r s d t p)) (f6:w.cell? ⟨b6,0,none⟩=some (.q v)) :
  aj T_ 160 [.agg x.cells.toArray,.p b2,.p b3,.p b5,.p b6] w (.bool (uu r v L x)):=by
 have h1:=Rd.one hr.sr;have h2:=Rd.one hr.de;have h3:=Rd.one hr.ti;have h4:=Rd.one hr.po;have kW:∀ (j:Nat) (u:Value),[Value.int .i64 r.lv,.q r.ma,s,d,t,p][j]? = some u->w.cell? ⟨b5,0+j,none⟩=some u:=hA;unfold Ti.cells;refine ah func160 I I ?_
 (refine Jr<|Jy I I fun _ _=>Ja I<|Ji<|ab (ag (.of I) (At.base f2 I)) I<|bJ I I ae<|JL I .here I ?_)
 cases kL:L.contains x.fr with
 | false =>
  have hB:uu r v L x=false:=by unfold uu;rw [kL];rfl
  rw [hB];refine ai bM I (fun w' aB=>kL ▸ xB x.fr (h.keeps aB.keeps) (eR f1 I (by simp) aB.keeps)) ?_
  (refine Jv I<|aF I I inferInstance (fun hg br=>(ag (.of I) (At.base f3 I))) I<|aF I I inferInstance (fun hg br=>(aq (.of I) ae)) I<|aF I I inferInstance (fun hg br=>(ag (.bF br I) (At.lit .here I))) I<|ew I I I I<|ab (c8 (.of I) (.of I) (.of I) I) I<|Jv I<|aF I I inferInstance (fun hg br=>(jA (.of I) (eZ.base kW I) I)) I<|aF I I inferInstance (fun hg br=>(ag (.of I) (At.base f6 I))) I<|aF I I inferInstance (fun hg br=>(aq (.of I) ae)) I<|aF I I inferInstance (fun hg br=>(ag (.bF br I) (At.lit .here I))) I<|ew I I I I<|aF I I inferInstance (fun hg br=>(dN (.bF br I))) I<|ab (c8 (.of I) (.of I) (.of I) I) I<|Ja I<|Jn<|Je<|JT ?_)
  rfl
 | true =>
  have hB:uu r v L x=(!L.contains x.to&&!gL r.po v x.nm):=by unfold uu;rw [kL];rfl
  rw [hB];refine ai bM I (fun w' aB=>kL ▸ xB x.fr (h.keeps aB.keeps) (eR f1 I (by simp) aB.keeps)) ?_
  (refine Jv I<|JK I I<|ab (ag (.of I) (At.base f3 I)) I<|JK I I<|bJ I I ae<|JK I I<|JL I .here I<|JK I I ?_)
  cases ke:L.contains x.to with
  | true =>
   with_reducible apply ai
   case hr=>exact bM
   case hd=>rfl
   case hc=>
    intro w' aB;have q:=xA x.to (h.keeps aB.keeps) (eR f1 I (by simp) aB.keeps) (eR f2 I (by simp) aB.keeps);rw [ke] at q;exact q
   (refine ab (c8 (.of I) (.of I) (.of I) I) I<|Jv I<|aF I I inferInstance (fun hg br=>(jA (.of I) (eZ.base kW I) I)) I<|aF I I inferInstance (fun hg br=>(ag (.of I) (At.base f6 I))) I<|aF I I inferInstance (fun hg br=>(aq (.of I) ae)) I<|aF I I inferInstance (fun hg br=>(ag (.bF br I) (At.lit .here I))) I<|ew I I I I<|aF I I inferInstance (fun hg br=>(dN (.bF br I))) I<|ab (c8 (.of I) (.of I) (.of I) I) I<|Ja I<|Jn<|Je<|JT ?_)
   rfl
  | false =>
   with_reducible apply ai
   case hr=>exact bM
   case hd=>rfl
   case hc=>
    intro w' aB;have q:=xA x.to (h.keeps aB.keeps) (eR f1 I (by simp) aB.keeps) (eR f2 I (by simp) aB.keeps);rw [ke] at q;exact q
   (refine ab (fA (.of I) (.of I) (.of I) I) I<|Jv I<|JK I I<|ab (iO (eZ.base kW I)) I<|JK I I<|ab (ag (.of I) (At.base f6 I)) I<|JK I I<|bJ I I ae<|JK I I<|JL I .here I<|JK I I ?_)
   cases hb:gL r.po v x.nm with
   | true =>
    with_reducible apply ai
    case hr=>exact ef
    case hd=>rfl
    case hc=>
     intro w' aB;have q:=rF v x.nm (hr.keeps aB.keeps);rw [hb] at q;exact q
    (refine JK I I<|JH I<|ab (c8 (.of I) (.of I) (.of I) I) I<|Ja I<|Jn<|Je<|JT ?_)
    rfl
   | false =>
    with_reducible apply ai
    case hr=>exact ef
    case hd=>rfl
    case hc=>
     intro w' aB;have q:=rF v x.nm (hr.keeps aB.keeps);rw [hb] at q;exact q
    (refine JK I I<|JH I<|ab (fA (.of I) (.of I) (.of I) I) I<|Ja I<|Jn<|Je<|JT ?_)
    rfl
theorem bh {α:Type} {l:List Oper} {i:Nat} {v:α}:oF l i (fun _=>v):=fun _ _ _=>rfl
def C5 (L:List Int) (k:Nat):Int:=if k=0 then -1 else L.getD (k-1) 0
theorem EW (h:k<L.length):C5 L (k+1)=L[k]:=by
 unfold C5;rw [if_neg (by omega),Zax,Zk,Zc h];rfl
def Wh (r:Ro) (L:List Int) (k:Nat):Int:=(L[k]?.map fun x=>aZ [fQ r x,cn (decide (x<=C5 L k)) 11]).getD 0
theorem Vt (h:k<L.length):Wh r L k=aZ [fQ r L[k],cn (decide (L[k]<=C5 L k)) 11]:=by
 unfold Wh;rw [Zc h];rfl
def ctA (r:Ro) (v:Int) (so de:ByteArray) (L:List Int):Int:=aZ [qY r v so de,cn (decide ((4:Int)<(L.length:Nat))) 5]
def Wf (r:Ro) (L:List Int):Int:=jd (Wh r L) L.length
def We (r:Ro) (v:Int) (so de:ByteArray) (L:List Int):Bool:=r.ti.any (uu r v L)||(iu r v so r.ti.length).any (fun x=>!L.contains x)||L.contains (k7 r de)
def ctX (r:Ro) (v:Int) (so de:ByteArray) (L:List Int):Int:=if ctA r v so de L≠0 then ctA r v so de L else if Wf r L≠0 then Wf r L else cn (We r v so de L) 19
set_option maxHeartbeats 2000000 in
theorem FI {s d t p cv:Value} (v:Int) (so de:ByteArray) {L:List Int} {w:World} (h:RR w r s d t p) (cZ:nk r) (hw:Rd w cv 1 (ints L)) :
  aj T_ 37 [RA r s d t p,.q v,.string so,.string de,cv] w (.q (ctX r v so de L)):=by
 obtain ⟨h1,h2,h3,h4⟩:=h.one;have BY:=hw;obtain ⟨aw,cw,bw,ow,rfl,Sj,Dh,Yg,MA⟩:=hw;rw [dw] at *;unfold maxLen at Dh;have hcw:∀ w',aJ [] w w'->aj T_ 151 [.agg #[.int .i64 r.lv,.int .i64 r.ma,s,d,t,p],.int .i64 v,.string so,.string de] w' (.int .i64 (qY r v so de)):=fun w' hk=>rC v so de (h.keeps hk) cZ
 unfold RA;refine ah func37 I I ?_;refine Jr<|Jy I I fun _ _=>Jy I I fun _ _=>Jy I I fun _ _=>Ja I<|Jn<|Jq<|Jq ?_
 with_reducible refine cY 10 (by kernel_rfl) ?_
 (refine ar (cm bL) I<|ar (gX (.there .here)) I<|ar k8 I<|ar k8 I<|aX mi I (fun w' aB=>(hcw w' (Mem.keeps aB)))<|ar (gX .here) I<|ar (bZ (.of I)) I<|ar (lV (.of I) (.of I)) I<|aX bb I (fun w' aB=>(eG _ 5 w'))<|eC (aG (.o I (.o I .nil)) I I I I) I I ?_)
 with_reducible refine dA I fun bq ml=>?_
 (refine ai bM I (fun w' aB=>(ee (Mem.dz aB .here I I) (bY.cons (bY.cons bY.nil))))<|Ja I<|Ji<|Jv I<|JD I<|Jn<|gm I (fun az=>?_) fun az=>?_;refine Jr<|Jv I<|Ja I<|Jn<|Ju<|JT ?_;rotate_left;refine Jk<|Jr<|Ja I<|Jn<|Jq<|Jr<|JL I (.there .here) I<|JI I<|Jv I<|Jn<|J0 ?_;rotate_right)
 ·have e1:ctX r v so de L=ctA r v so de L:=if_pos az;rw [e1];rfl
 have Du:ctA r v so de L=0:=Zp.1 az;have hX:ctX r v so de L=if Wf r L≠0 then Wf r L else cn (We r v so de L) 19:=if_neg az
 clear az;obtain ⟨dU,hv,oK,gq⟩:=Af (cz.1 Du _ Zu);have h6:L.length<=4:=by
  have:=(bT (by decide)).1 (cz.1 Du (cn (decide ((4:Int)<(L.length:Nat))) 5) (by simp));simp only [decide_eq_false_iff_not] at this;omega
 have ht6:=dU.len.2.2;rename_i b5 Ia b6 hb6 b9 hb9
 refine aV (fun k:Nat=>k<=L.length/\∀ i,i<k->Wh r L i=0) (fun k=>[(35,.q (k:Nat)),(34,.q (L.length:Nat)),(33,.slice aw L.length cw),(12,.q (C5 L k)),(9,.p b9),(6,.p b6),(5,.p b5),(2,.string so),(3,.string de)])
  (fun k=>[bE b9 (.cells #[.slice aw L.length cw] 49 (0,0)),bE b6 (.cells #[.q v] 3 (0,0)),JP b5 r s d t p]) (fun k=>L.length-k) ?_ ?_
 ·apply aI 0 ⟨Zi _,fun i hi=>by omega⟩
  case hs1=>exact bS
  case ht=>(try simp only [Ze,Zf,Za]);exact .cons (.there .here) (.cons (.there .here) (.cons (.there .here) .nil))
 rintro k ⟨hk,hf⟩;by_cases aK:k<L.length
 ·have MG:=Yg (kb aK);have c0:w.cell? ⟨bw,ow+k*1,none⟩=some (.q L[k]):=(MA k _ (iV aK)).2 0 _ I;have iy:=Vt (r:=r) aK;have hhs:∀ w',aJ [] w w'->aj T_ 136 [.agg #[.q r.lv,.q r.ma,s,d,t,p],.q L[k]] w' (.q (fQ r L[k])):=fun w' hk=>GO (s:=s) (d:=d) (t:=t) (p:=p) L[k] h
  (refine Jr<|JA I<|Jn<|Jq<|Jd I fun az=>Jk<|Jq<|J0<|Jr<|ab (an (.of I) (.of I) MG (by omega) az aW) I<|ab (ag (.of I) (At.base c0 I)) I<|Ja I<|Jn<|Jq<|Jr<|ab (cm bL) I<|Jv I<|ai bb I (fun w' aB=>(hhs w' (Mem.keeps aB)))<|Jv I<|Jv I<|JF I<|ai bb I (fun w' aB=>(eG _ 11 w'))<|bj (aG (.o I (.o I .nil)) I I I I) I fun _ _=>ai bM I (fun w' aB=>(ee (Mem.dz aB .here I I) (bY.cons (bY.cons bY.nil))))<|Ja I<|Ji<|Jv I<|JD I<|Jn<|gm I (fun az=>?_) fun az=>?_;refine Jr<|Jv I<|Ja I<|Jn<|Ju<|Jm<|Jh<|Jh<|Jm<|Jh<|JT ?_;rotate_left;refine Jk<|Jg<|Jv I<|Ja I<|Jx<|Jj<|Jt<|Jg<|JB I (by omega)<|Jv I<|Jn ?_;rotate_right)
  ·rw [<- iy] at az ⊢;have hB:Wf r L=Wh r L k:=eV hf aK az;rw [<- hB] at az ⊢;rw [hX,if_pos az]
  have hz:Wh r L k=0:=by rw [iy];exact Zp.1 az
  have uE:=EW aK;apply aH (k+1) ⟨by omega,fun i hi=>by
   by_cases e:i=k
   ·rw [e];exact hz
   ·exact hf i (by omega)⟩ (by omega)
  case hs1=>rw [uE];exact .cons I (.cons I (.cons I (.cons I (.cons I (.cons I (.cons I (.cons I (.cons I .nil))))))))
  case ht=>exact iP
 ·obtain rfl:k=L.length:=by omega
  have Yt:Wf r L=0:=dQ.2 hf;rw [hX,if_neg (by rw [Yt];decide)]
  (refine Jr<|JA I<|Jn<|Jq<|Jc I fun az=>Jp<|Jl<|Jo<|Jt<|Jr<|ab (bD .nil (.o I .nil)) I<|Jz I I fun _ _=>ao (.of I) (.of I) .here I I (dR I) (bz I) ak<|Ji<|ab (bD .nil (.o I .nil)) I<|Jz I I fun _ _=>ao (.of I) (.of I) .here I I (dR I) (bz I) ak<|Ji<|bJ I I ae<|JL I dD I<|ab (bD .nil (.o I (.o I (.o I (.o I .nil))))) I ?_)
  rename_i I8 ajm YX ac4
  with_reducible apply ai
  case hr=>exact bb
  case hd=>rfl
  case hc=>
   intro w' aB;have hR:=h.keeps aB.keeps;have f9:w'.cell? ⟨b9,0,none⟩=some (.slice aw L.length cw):=At.lit bL I w' aB;have f16:w'.cell? ⟨I8,0,none⟩=some (.func (.func 157) #[] #[.p b9]):=At.lit (by exact Take.there .here) I w' aB;have f17:w'.cell? ⟨YX,0,none⟩=some (.func (.func 158) #[] #[.p I8]):=At.lit (by exact .here) I w' aB;have f6:w'.cell? ⟨b6,0,none⟩=some (.q v):=At.lit cX I w' aB;have hA:BR w' b5 [.q r.lv,.q r.ma,s,d,t,p]:=BR.of aB dD;exact Br (f:=160) (p:=uu r v L) (first:=[]) (cap:=[.p I8,.p YX,.p b5,.p b6]) hR.ti (fun x hx w2 fq=>Vs v x (hR.keeps fq) (BY.keeps (aB.keeps.trans fq)) (cJ f9 I fq) (cJ f16 I fq) (cJ f17 I fq) (hA.keeps fq) (cJ f6 I fq))
  refine Ja I<|Jn<|Jq ?_;cases nM:r.ti.any (uu r v L) with
  | true =>
   have hC:We r v so de L=true:=by unfold We;rw [nM];rfl
   rw [hC]
   with_reducible refine dE 23 (by kernel_rfl) ?_
   (refine au (fun β=>(aP (.of I))) dO I<|au (fun β=>(aP (.of I))) dO I<|dV I (fun _=>rfl) (Or.inr I) I<|dV I (fun _=>rfl) (Or.inr I) I<|dV I (fun _=>rfl) (Or.inr I) I<|dV I (fun _=>rfl) (Or.inr I) I<|dV I (fun _=>rfl) (Or.inr I) I<|dV I (fun _=>rfl) (Or.inr I) I<|au (fun β=>(fA (.of I) (.of I) (.of I) I)) dO I<|au (fun β=>(aP (.of I))) dO I<|dV I (fun _=>rfl) (Or.inr I) I<|dV I (fun _=>rfl) (Or.inr I) I<|dV I (fun _=>rfl) (Or.inr I) I<|dV I (fun _=>rfl) (Or.inr I) I<|dV I (fun _=>rfl) (Or.inr I) I<|dV I (fun _=>rfl) (Or.inr I) I<|dV I (fun _=>rfl) (Or.inr I) I<|dV I (fun _=>rfl) (Or.inr I) I<|dV I (fun _=>rfl) (Or.inr I) I<|dV I (fun _=>rfl) (Or.inr I) I<|au (fun β=>(fA (.of I) (.of I) (.of I) I)) dO I ?_)
   dsimp only [Nat.zero_add,Nat.reduceAdd]
   with_reducible apply dq (B:=[]) (F:=fun _=>.q (cn true 19)) (args:=fun _=>[.bool true,.q 19])
   case hB=>rfl
   case hr=>exact fun β=>a7 (.of I) (.o I (.o I .nil)) inferInstance I
   case hi=>exact bh
   case hd=>rfl
   case hc=>exact fun β w' hb=>eG _ _ _
   refine au (fun β=>(cM (.of I))) dO I ?_;refine eS fun β=>?_;dsimp only [dY,Za,Zb,List.append_eq,Nat.reduceAdd]
   with_reducible refine cu (by kernel_rfl) ?_
   refine Jt<|Je<|JT ?_
   rfl
  | false =>
   have hC:We r v so de L=((iu r v so r.ti.length).any (fun x=>!L.contains x)||L.contains (k7 r de)):=by unfold We;rw [nM];rfl
   rw [hC];obtain ⟨j0,uF⟩:∃ i:Nat,bC (cE r) de=(i:Nat):=⟨(bC (cE r) de).toNat,by have:=dP gq;omega⟩;have Dk:j0<r.de.length:=by
    obtain ⟨hl,_⟩:=fD (l:=cE r) (s:=de) (by omega);rw [uF,ZH] at hl;unfold cE at hl;rwa [Zd] at hl
   have X6:k7 r de=(r.de[j0]).mx:=by unfold k7;rw [uF,ZH,Zk,Zc Dk];rfl
   have Qn:∀ w',aJ [] w w'->a8 T_ 152 [.agg #[.q r.lv,.q r.ma,s,d,t,p],.q v,.string so] w' [] (fun _:Value=>True) id (fun x=>[row 3 1 x (iu r v so r.ti.length).length ((iu r v so r.ti.length).map (Value.int .i64))]):=fun w' hk=>Gg (s:=s) (d:=d) (t:=t) (p:=p) v so (h.keeps hk) (by omega) oK
   have uX:∀ w',aJ [] w w'->aj T_ 155 [.agg #[.q r.lv,.q r.ma,s,d,t,p],.string de] w' (.q (j0:Nat)):=fun w' hk=>uF ▸ gK de (h.keeps hk)
   generalize iu r v so r.ti.length=R0 at Qn ⊢;cases hro:R0.any (fun x=>!L.contains x) with
   | true =>
    rw [Bool.true_or]
    with_reducible refine dE 23 (by kernel_rfl) ?_
    (refine au (fun β=>(aP (.of I))) dO I<|au (fun β=>(aP (.of I))) dO I<|df I (fun _=>rfl)<|au (fun β=>(bK (.of I) dD ak (by rfl))) dO I<|df I (fun _=>rfl)<|au (fun β=>(ag (.of I) (At.lit cX I))) dO I<|df I (fun _=>rfl)<|au (fun β=>(aP (.of I))) dO I ?_)
    dsimp only [Nat.zero_add,Nat.reduceAdd];refine df I (fun _=>rfl) ?_
    with_reducible apply eB (ι:=Value) (Φ:=fun _=>True) (val:=id) (own:=fun x=>[row 3 1 x R0.length (R0.map (Value.int .i64))]) (g:=id) (B:=[]) (args:=fun _=>[.agg #[.q r.lv,.q r.ma,s,d,t,p],.q v,.string so])
    case hg=>exact fun x=>⟨x,I⟩
    case hB=>rfl
    case hr=>exact fun β=>a7 (.of I) (.o I (.o I (.o I .nil))) inferInstance I
    case hd=>rfl
    case hc=>exact fun β w' hb=>Qn w' hb.mem.keeps
    dsimp only [id_eq,Nat.reduceAdd]
    (refine df I (fun _=>rfl)<|au (fun β=>(ag (.of I) (At.lit .here I))) dO I ?_)
    dsimp only [Nat.zero_add,Nat.reduceAdd];refine df I (fun _=>rfl) ?_
    with_reducible apply dq (B:=[5]) (F:=fun _=>.bool true) (args:=fun β=>[β 5,.func (.func 158) #[] #[.p I8]])
    case hB=>first | rfl | kernel_rfl
    case hr=>exact fun β=>a7 (.of I) (.o I (.o I .nil)) inferInstance I
    case hi=>exact bh
    case hd=>rfl
    case hc=>
     intro β w' hb;have m5:=hb.at 5 Zu (s:=⟨fun β=>β 5,fun β=>[row 3 1 (β 5) R0.length (R0.map (Value.int .i64))]⟩) (by kernel_rfl)
     dsimp only [Zb,Za] at m5;have s1:Rd w' (β 5) 1 (ints R0):=lF m5 (by exact .here) I;have f9:w'.cell? ⟨b9,0,none⟩=some (.slice aw L.length cw):=At.lit cX I w' m5;have f16:w'.cell? ⟨I8,0,none⟩=some (.func (.func 157) #[] #[.p b9]):=At.lit bL I w' m5;have q:=xk (f:=158) (p:=fun x=>!L.contains x) (first:=[]) (cap:=[.p I8]) s1 (fun x hx w2 fq=>xA x (BY.keeps (hb.mem.keeps.trans fq)) (cJ f9 I fq) (cJ f16 I fq))
     rw [hro] at q;exact q
    (refine au (fun β=>(fA (.of I) (.of I) (.of I) I)) dO I<|au (fun β=>(aP (.of I))) dO I<|dV I (fun _=>rfl) (Or.inr I) I<|dV I (fun _=>rfl) (Or.inr I) I<|dV I (fun _=>rfl) (Or.inr I) I<|dV I (fun _=>rfl) (Or.inr I) I<|dV I (fun _=>rfl) (Or.inr I) I<|dV I (fun _=>rfl) (Or.inr I) I<|dV I (fun _=>rfl) (Or.inr I) I<|dV I (fun _=>rfl) (Or.inr I) I<|dV I (fun _=>rfl) (Or.inr I) I<|dV I (fun _=>rfl) (Or.inr I) I<|au (fun β=>(fA (.of I) (.of I) (.of I) I)) dO I ?_)
    dsimp only [Nat.zero_add,Nat.reduceAdd]
    with_reducible apply dq (B:=[]) (F:=fun _=>.q (cn true 19)) (args:=fun _=>[.bool true,.q 19])
    case hB=>rfl
    case hr=>exact fun β=>a7 (.of I) (.o I (.o I .nil)) inferInstance I
    case hi=>exact bh
    case hd=>rfl
    case hc=>exact fun β w' hb=>eG _ _ _
    refine au (fun β=>(cM (.of I))) dO I ?_;refine eS fun β=>?_;dsimp only [dY,Za,Zb,List.append_eq,Nat.reduceAdd]
    with_reducible refine cu (by kernel_rfl) ?_
    refine Jt<|Je<|JT ?_
    rfl
   | false =>
    rw [Bool.false_or];have mZ:=h.de;obtain ⟨a3,ud,b3,o3,rfl,mP,gF,rN,oR⟩:=mZ;rw [cd] at *;unfold maxLen at gF;have yC:=rN (iq Dk);have pI:=(oR j0 _ (fR Dk)).2;unfold De.cells at pI;have Bo:=pI 1 _ I;rw [<- X6] at Bo;cases hlc:L.contains (k7 r de) with
    | true =>
     with_reducible refine dE 23 (by kernel_rfl) ?_
     (refine au (fun β=>(aP (.of I))) dO I<|au (fun β=>(aP (.of I))) dO I<|df I (fun _=>rfl)<|au (fun β=>(bK (.of I) dD ak (by rfl))) dO I<|df I (fun _=>rfl)<|au (fun β=>(ag (.of I) (At.lit cX I))) dO I<|df I (fun _=>rfl)<|au (fun β=>(aP (.of I))) dO I ?_)
     dsimp only [Nat.zero_add,Nat.reduceAdd];refine df I (fun _=>rfl) ?_
     with_reducible apply eB (ι:=Value) (Φ:=fun _=>True) (val:=id) (own:=fun x=>[row 3 1 x R0.length (R0.map (Value.int .i64))]) (g:=id) (B:=[]) (args:=fun _=>[.agg #[.q r.lv,.q r.ma,s,.slice a3 r.de.length ud,t,p],.q v,.string so])
     case hg=>exact fun x=>⟨x,I⟩
     case hB=>rfl
     case hr=>exact fun β=>a7 (.of I) (.o I (.o I (.o I .nil))) inferInstance I
     case hd=>rfl
     case hc=>exact fun β w' hb=>Qn w' hb.mem.keeps
     dsimp only [id_eq,Nat.reduceAdd]
     (refine df I (fun _=>rfl)<|au (fun β=>(ag (.of I) (At.lit .here I))) dO I ?_)
     dsimp only [Nat.zero_add,Nat.reduceAdd];refine df I (fun _=>rfl) ?_
     with_reducible apply dq (B:=[5]) (F:=fun _=>.bool false) (args:=fun β=>[β 5,.func (.func 158) #[] #[.p I8]])
     case hB=>first | rfl | kernel_rfl
     case hr=>exact fun β=>a7 (.of I) (.o I (.o I .nil)) inferInstance I
     case hi=>exact bh
     case hd=>rfl
     case hc=>
      intro β w' hb;have m5:=hb.at 5 Zu (s:=⟨fun β=>β 5,fun β=>[row 3 1 (β 5) R0.length (R0.map (Value.int .i64))]⟩) (by kernel_rfl)
      dsimp only [Zb,Za] at m5;have s1:Rd w' (β 5) 1 (ints R0):=lF m5 (by exact .here) I;have f9:w'.cell? ⟨b9,0,none⟩=some (.slice aw L.length cw):=At.lit cX I w' m5;have f16:w'.cell? ⟨I8,0,none⟩=some (.func (.func 157) #[] #[.p b9]):=At.lit bL I w' m5;have q:=xk (f:=158) (p:=fun x=>!L.contains x) (first:=[]) (cap:=[.p I8]) s1 (fun x hx w2 fq=>xA x (BY.keeps (hb.mem.keeps.trans fq)) (cJ f9 I fq) (cJ f16 I fq))
      rw [hro] at q;exact q
     (refine au (fun β=>(c8 (.of I) (.of I) (.of I) I)) dO I<|au (fun β=>(aP (.of I))) dO I<|df I (fun _=>rfl)<|au (fun β=>(ag (.of I) (At.lit (.there .here) I))) dO I<|df I (fun _=>rfl)<|au (fun β=>(aq (.of I) ae)) dO I<|df I (fun _=>rfl)<|au (fun β=>(ag (.of I) (At.lit dD I))) dO I<|df I (fun _=>rfl)<|au (fun β=>(bK (.of I) dD ak (by rfl))) dO I<|df I (fun _=>rfl)<|au (fun β=>(aP (.of I))) dO I ?_)
     dsimp only [Nat.zero_add,Nat.reduceAdd];refine df I (fun _=>rfl) ?_
     with_reducible apply dq (B:=[]) (F:=fun _=>.q (j0:Nat)) (args:=fun _=>[.agg #[.q r.lv,.q r.ma,s,.slice a3 r.de.length ud,t,p],.string de])
     case hB=>rfl
     case hr=>exact fun β=>a7 (.of I) (.o I (.o I .nil)) inferInstance I
     case hi=>exact bh
     case hd=>rfl
     case hc=>exact fun β w' hb=>uX w' hb.mem.keeps
     (refine df I (fun _=>rfl)<|au (fun β=>(an (.of I) (.of I) yC (by omega) (by omega) aW)) dO I<|df I (fun _=>rfl)<|au (fun β=>(aq (.of I) ae)) dO I<|df I (fun _=>rfl)<|au (fun β=>(ag (.of I) (At.base Bo I))) dO I ?_)
     dsimp only [Nat.zero_add,Nat.reduceAdd];refine df I (fun _=>rfl) ?_
     with_reducible apply dq (B:=[]) (F:=fun _=>.bool true) (args:=fun _=>[.q (k7 r de),.p b9])
     case hB=>rfl
     case hr=>exact fun β=>a7 (Is.of I) (IH.cons (Is.of I) IH.nil) inferInstance dZ
     case hi=>exact bh
     case hd=>rfl
     case hc=>
      intro β w' hb;have m5:=hb.mem;have f9:w'.cell? ⟨b9,0,none⟩=some (.slice aw L.length cw):=At.lit bL I w' m5;have q:=xB (k7 r de) (BY.keeps hb.mem.keeps) f9;rw [hlc] at q;exact q
     refine au (fun β=>(fA (.of I) (.of I) (.of I) I)) dO I ?_;dsimp only [Nat.zero_add,Nat.reduceAdd]
     with_reducible apply dq (B:=[]) (F:=fun _=>.q (cn true 19)) (args:=fun _=>[.bool true,.q 19])
     case hB=>rfl
     case hr=>exact fun β=>a7 (.of I) (.o I (.o I .nil)) inferInstance I
     case hi=>exact bh
     case hd=>rfl
     case hc=>exact fun β w' hb=>eG _ _ _
     refine au (fun β=>(cM (.of I))) dO I ?_;refine eS fun β=>?_;dsimp only [dY,Za,Zb,List.append_eq,Nat.reduceAdd]
     with_reducible refine cu (by kernel_rfl) ?_
     refine Jt<|Je<|JT ?_
     rfl
    | false =>
     with_reducible refine dE 23 (by kernel_rfl) ?_
     (refine au (fun β=>(aP (.of I))) dO I<|au (fun β=>(aP (.of I))) dO I<|df I (fun _=>rfl)<|au (fun β=>(bK (.of I) dD ak (by rfl))) dO I<|df I (fun _=>rfl)<|au (fun β=>(ag (.of I) (At.lit cX I))) dO I<|df I (fun _=>rfl)<|au (fun β=>(aP (.of I))) dO I ?_)
     dsimp only [Nat.zero_add,Nat.reduceAdd];refine df I (fun _=>rfl) ?_
     with_reducible apply eB (ι:=Value) (Φ:=fun _=>True) (val:=id) (own:=fun x=>[row 3 1 x R0.length (R0.map (Value.int .i64))]) (g:=id) (B:=[]) (args:=fun _=>[.agg #[.q r.lv,.q r.ma,s,.slice a3 r.de.length ud,t,p],.q v,.string so])
     case hg=>exact fun x=>⟨x,I⟩
     case hB=>rfl
     case hr=>exact fun β=>a7 (.of I) (.o I (.o I (.o I .nil))) inferInstance I
     case hd=>rfl
     case hc=>exact fun β w' hb=>Qn w' hb.mem.keeps
     dsimp only [id_eq,Nat.reduceAdd]
     (refine df I (fun _=>rfl)<|au (fun β=>(ag (.of I) (At.lit .here I))) dO I ?_)
     dsimp only [Nat.zero_add,Nat.reduceAdd];refine df I (fun _=>rfl) ?_
     with_reducible apply dq (B:=[5]) (F:=fun _=>.bool false) (args:=fun β=>[β 5,.func (.func 158) #[] #[.p I8]])
     case hB=>first | rfl | kernel_rfl
     case hr=>exact fun β=>a7 (.of I) (.o I (.o I .nil)) inferInstance I
     case hi=>exact bh
     case hd=>rfl
     case hc=>
      intro β w' hb;have m5:=hb.at 5 Zu (s:=⟨fun β=>β 5,fun β=>[row 3 1 (β 5) R0.length (R0.map (Value.int .i64))]⟩) (by kernel_rfl)
      dsimp only [Zb,Za] at m5;have s1:Rd w' (β 5) 1 (ints R0):=lF m5 (by exact .here) I;have f9:w'.cell? ⟨b9,0,none⟩=some (.slice aw L.length cw):=At.lit cX I w' m5;have f16:w'.cell? ⟨I8,0,none⟩=some (.func (.func 157) #[] #[.p b9]):=At.lit bL I w' m5;have q:=xk (f:=158) (p:=fun x=>!L.contains x) (first:=[]) (cap:=[.p I8]) s1 (fun x hx w2 fq=>xA x (BY.keeps (hb.mem.keeps.trans fq)) (cJ f9 I fq) (cJ f16 I fq))
      rw [hro] at q;exact q
     (refine au (fun β=>(c8 (.of I) (.of I) (.of I) I)) dO I<|au (fun β=>(aP (.of I))) dO I<|df I (fun _=>rfl)<|au (fun β=>(ag (.of I) (At.lit (.there .here) I))) dO I<|df I (fun _=>rfl)<|au (fun β=>(aq (.of I) ae)) dO I<|df I (fun _=>rfl)<|au (fun β=>(ag (.of I) (At.lit dD I))) dO I<|df I (fun _=>rfl)<|au (fun β=>(bK (.of I) dD ak (by rfl))) dO I<|df I (fun _=>rfl)<|au (fun β=>(aP (.of I))) dO I ?_)
     dsimp only [Nat.zero_add,Nat.reduceAdd];refine df I (fun _=>rfl) ?_
     with_reducible apply dq (B:=[]) (F:=fun _=>.q (j0:Nat)) (args:=fun _=>[.agg #[.q r.lv,.q r.ma,s,.slice a3 r.de.length ud,t,p],.string de])
     case hB=>rfl
     case hr=>exact fun β=>a7 (.of I) (.o I (.o I .nil)) inferInstance I
     case hi=>exact bh
     case hd=>rfl
     case hc=>exact fun β w' hb=>uX w' hb.mem.keeps
     (refine df I (fun _=>rfl)<|au (fun β=>(an (.of I) (.of I) yC (by omega) (by omega) aW)) dO I<|df I (fun _=>rfl)<|au (fun β=>(aq (.of I) ae)) dO I<|df I (fun _=>rfl)<|au (fun β=>(ag (.of I) (At.base Bo I))) dO I ?_)
     dsimp only [Nat.zero_add,Nat.reduceAdd];refine df I (fun _=>rfl) ?_
     with_reducible apply dq (B:=[]) (F:=fun _=>.bool false) (args:=fun _=>[.q (k7 r de),.p b9])
     case hB=>rfl
     case hr=>exact fun β=>a7 (Is.of I) (IH.cons (Is.of I) IH.nil) inferInstance dZ
     case hi=>exact bh
     case hd=>rfl
     case hc=>
      intro β w' hb;have m5:=hb.mem;have f9:w'.cell? ⟨b9,0,none⟩=some (.slice aw L.length cw):=At.lit bL I w' m5;have q:=xB (k7 r de) (BY.keeps hb.mem.keeps) f9;rw [hlc] at q;exact q
     refine au (fun β=>(c8 (.of I) (.of I) (.of I) I)) dO I ?_;dsimp only [Nat.zero_add,Nat.reduceAdd]
     with_reducible apply dq (B:=[]) (F:=fun _=>.q (cn false 19)) (args:=fun _=>[.bool false,.q 19])
     case hB=>rfl
     case hr=>exact fun β=>a7 (.of I) (.o I (.o I .nil)) inferInstance I
     case hi=>exact bh
     case hd=>rfl
     case hc=>exact fun β w' hb=>eG _ _ _
     refine au (fun β=>(cM (.of I))) dO I ?_;refine eS fun β=>?_;dsimp only [dY,Za,Zb,List.append_eq,Nat.reduceAdd]
     with_reducible refine cu (by kernel_rfl) ?_
     refine Jt<|Je<|JT ?_
     rfl
structure Tk where
 de:ByteArray
 so:List ByteArray
structure fy where
 tk:Tk
 v:Value
def fy.cells (x:fy):List Value:=[.string x.tk.de,x.v]
def iD (l:List fy):List (List Value):=l.map fy.cells
theorem dI (l:List fy):(iD l).length=l.length:=by simp [iD]
theorem j7 {l:List fy} (h:k<l.length):(iD l)[k]? = some (l[k]).cells:=by simp [iD,h]
theorem jM {l:List fy} (h:k<l.length):iD l≠[]:=by intro e;have:=congrArg List.length e;rw [dI] at this;simp at this;subst this;simp at h
def te (w:World) (l:List fy):Prop:=∀ x∈l,Rd w x.v 1 (gi x.tk.so)
theorem te.keeps {w w':World} {l:List fy} (h:te w l) (hk:aJ [] w w'):te w' l:=fun x hx=>(h x hx).keeps hk
theorem GH {l:List fy} {p:fy->Bool} [bW T_ f] {w:World} (h:Rd w lv 2 (iD l)) (cV:∀ x∈l,∀ w',aJ [] w w'->aj T_ f (first++[.agg x.cells.toArray]++cap) w' (.bool (p x))) :
  aj T_ 252 [lv,.func (.func f) first.toArray cap.toArray] w (.q (iN p l)):=by
 obtain ⟨a,cp,b,o,rfl,dd,bO,ha,hc⟩:=h;rw [dI] at *;unfold maxLen at bO;refine ah func252 I I ?_;refine Jr<|Ja I<|Jn<|Jq<|Jr<|Jv I<|JI I<|Jv I<|Jn<|J0 ?_;refine aV (fun k:Nat=>k<=l.length/\∀ i,i<k->(l[i]?.map p).getD false=false) (fun k=>[(8,.int .i64 k),(7,.int .i64 l.length),(0,.slice a l.length cp),(1,.func (.func f) first.toArray cap.toArray)]) (fun _=>[]) (fun k=>l.length-k) ?_ ?_
 ·apply aI 0 ⟨Zi _,fun i h=>by omega⟩
  case hs1=>exact bS
  case ht=>(try simp only [Ze,Zf,Za]);exact .nil
 rintro k ⟨hk,hf⟩;by_cases aK:k<l.length
 ·have cq:=ha (jM aK);have aC:=(hc k _ (j7 aK)).2;have jq:=cV _ (Zj aK);have hps:(l[k]?.map p).getD false=p l[k]:=by simp [aK]
  unfold fy.cells at aC jq
  (refine Jr<|JA I<|Jn<|Jq<|Jd I fun az=>Jk<|Jq<|J0<|Jr<|Jv I<|Ja I<|Ji<|Jv I<|Jv I<|Jv I<|ab (fT cq az) I<|ab (iO (eZ.base aC I)) I<|ai bM I (fun w' aB=>(jq w' (Mem.keeps aB)))<|Jn<|nj I (fun az=>?_) fun az=>?_;refine Jr<|Jv I<|Ja I<|Jn<|Je<|Jm<|Jh<|Jh<|Jm<|Jh<|JT ?_;rotate_left;refine Jw<|Jj<|Jt<|Jg<|JB I (by omega)<|Jv I<|Jn ?_;rotate_right)
  ·rw [gP hf aK az]
  ·apply aH (k+1) ⟨by omega,fun i hi=>by
    by_cases e:i=k
    ·rw [e,hps];exact az
    ·exact hf i (by omega)⟩ (by omega)
   case hs1=>exact bS
   case ht=>(try simp only [Ze,Zf,Za]);exact .nil
 ·obtain rfl:k=l.length:=by omega
  refine Jr<|JA I<|Jn<|Jq<|Jc I fun az=>Jp<|Jl<|Jo<|Jt<|Jr<|Ja I<|Jn<|Je<|JT ?_;rw [fS hf]
theorem QF {l:List fy} {p:fy->Bool} [bW T_ f] {w:World} (h:Rd w lv 2 (iD l)) (cV:∀ x∈l,∀ w',aJ [] w w'->aj T_ f (first++[.agg x.cells.toArray]++cap) w' (.bool (p x))) :
  aj T_ 248 [lv,.func (.func f) first.toArray cap.toArray] w (.bool (l.any p)):=by
 have jq:∀ w',aJ [] w w'->aj T_ 252 [lv,.func (.func f) first.toArray cap.toArray] w' (.q (iN p l)):=fun w' hk=>
  GH (h.keeps hk) fun x hx w2 fq=>cV x hx w2 (hk.trans fq)
 rw [<- kU];refine ah func248 I I ?_
 (refine Jr<|Ja I<|Ji<|Jv I<|Jv I<|ai bb I (fun w' aB=>(jq w' (Mem.keeps aB)))<|JG I<|Ja I<|Jn<|Je<|JT ?_)
 rfl
theorem Wx {x:fy} {y:ByteArray} (f1:w.cell? ⟨b,0,none⟩=some (.string y)):aj T_ 249 [.agg x.cells.toArray,.p b] w (.bool (decide (x.tk.de=y))):=by
 unfold fy.cells;refine ah func249 I I ?_
 (refine Jr<|Jy I I fun _ _=>Ja I<|Ji<|bJ I I ae<|JL I .here I<|bJ I I ae<|ab (ag (.of I) (At.base f1 I)) I<|ab (dF (.of I) (.of I)) I<|Ja I<|Jn<|Je<|JT ?_)
 rfl
theorem vZ {ty:TypeId} {t u:TypeId} {a b:ByteArray} (hx:Is sl x (.string a)) (hy:Is sl y (.string b)) (e:a≠b) :
  di P c sl hs ⟨dst,.binOp .neq t x y u,ty,pos,af,g⟩ (.bool true):=by
 have:=fN (P:=P) (c:=c) (hs:=hs) (dst:=dst) (ty:=ty) (pos:=pos) (af:=af) (g:=g) (t:=t) (u:=u) hx hy;rwa [decide_eq_true e] at this
theorem CJ {ty:TypeId} {t u:TypeId} {a b:ByteArray} (hx:Is sl x (.string a)) (hy:Is sl y (.string b)) (e:a=b) :
  di P c sl hs ⟨dst,.binOp .neq t x y u,ty,pos,af,g⟩ (.bool false):=by
 have:=fN (P:=P) (c:=c) (hs:=hs) (dst:=dst) (ty:=ty) (pos:=pos) (af:=af) (g:=g) (t:=t) (u:=u) hx hy;rwa [decide_eq_false (not_not_intro e)] at this
def jC (r:Ro) (o:ByteArray):Bool:=decide (o≠⟨#[]⟩)&&decide (o≠⟨#[45]⟩)&&decide (bC (cK r) o<0)
theorem Wz {s d t p:Value} (o:ByteArray) {b:Nat} {w:World} (hr:RR w r s d t p) (hA:BR w b (RC r s d t p)) :
  aj T_ 251 [.string o,.p b] w (.bool (jC r o)):=by
 have h1:=Rd.one hr.sr;have h2:=Rd.one hr.de;have h3:=Rd.one hr.ti;have h4:=Rd.one hr.po;have kW:∀ (j:Nat) (u:Value),[Value.int .i64 r.lv,.q r.ma,s,d,t,p][j]? = some u->w.cell? ⟨b,0+j,none⟩=some u:=hA;refine ah func251 I I ?_;by_cases Mz:o=⟨#[]⟩
 ·have hB:jC r o=false:=by unfold jC;rw [decide_eq_false (not_not_intro Mz)];rfl
  rw [hB]
  (refine Jr<|Ja I<|Ji<|Jv I<|ab (CJ (.of I) (.of I) Mz) I<|Jv I<|iQ I I I I<|aF I I inferInstance (fun hg br=>(fN (.bF br I) (.of I))) I<|ab (c8 (.of I) (.of I) (.of I) I) I<|Jv I<|aF I I inferInstance (fun hg br=>(jA (.of I) (eZ.base kW I) I)) I<|iQ I I I I<|ew I I I I<|ew I I I I<|ab (c8 (.of I) (.of I) (.of I) I) I<|Ja I<|Jn<|Je<|JT ?_)
  rfl
 by_cases UW:o=⟨#[45]⟩
 ·have hB:jC r o=false:=by unfold jC;rw [decide_eq_false (not_not_intro UW),Bool.and_false];rfl
  rw [hB]
  (refine Jr<|Ja I<|Ji<|Jv I<|ab (vZ (.of I) (.of I) Mz) I<|Jv I<|JK I I<|Jv I<|JK I I<|ab (CJ (.of I) (.of I) UW) I<|ab (c8 (.of I) (.of I) (.of I) I) I<|Jv I<|aF I I inferInstance (fun hg br=>(jA (.of I) (eZ.base kW I) I)) I<|iQ I I I I<|ew I I I I<|ew I I I I<|ab (c8 (.of I) (.of I) (.of I) I) I<|Ja I<|Jn<|Je<|JT ?_)
  rfl
 have hB:jC r o=decide (bC (cK r) o<0):=by unfold jC;rw [decide_eq_true Mz,decide_eq_true UW];rfl
 rw [hB]
 (refine Jr<|Ja I<|Ji<|Jv I<|ab (vZ (.of I) (.of I) Mz) I<|Jv I<|JK I I<|Jv I<|JK I I<|ab (vZ (.of I) (.of I) UW) I<|ab (fA (.of I) (.of I) (.of I) I) I<|Jv I<|JK I I<|ab (iO (eZ.base kW I)) I<|JK I I<|Jv I<|JK I I ?_)
 refine ai bb I (fun w' aB=>oY o (hr.keeps aB.keeps)) ?_;refine JK I I<|JA I ?_
 with_reducible apply ab (V:=Value.bool (decide (bC (cK r) o<0)))
 case hr=>
  with_reducible apply fV
  case hx=>exact Is.of I
  case hy=>exact Is.of I
  case hz=>exact Is.of I
  case e=>rfl
 case hd=>rfl
 refine Ja I<|Jn<|Je<|JT ?_
 rfl
def bQ (l:List fy):List Tk:=l.map (·.tk)
def yj (r:Ro) (l:List Tk) (k:Nat):Int:=(l[k]?.map fun x=>aZ [oL r x.de,cn ((l.take k).any fun y=>decide (y.de=x.de)) 9,cn (decide ((x.so.length:Int)≠r.lv)) 2,cn (x.so.any (jC r)) 10]).getD 0
theorem q5 {l:List Tk} (h:k<l.length):yj r l k=aZ [oL r (l[k]).de,cn ((l.take k).any fun y=>decide (y.de=(l[k]).de)) 9,cn (decide (((l[k]).so.length:Int)≠r.lv)) 2,cn ((l[k]).so.any (jC r)) 10]:=by
 unfold yj;rw [Zc h];rfl
def En (l:List Tk):Int:=aZ [cn (decide ((l.length:Int)=0)) 12,cn (decide ((8:Int)<(l.length:Nat))) 5]
def uR (r:Ro) (l:List Tk):Int:=if En l≠0 then En l else jd (yj r l) l.length
set_option maxHeartbeats 2000000 in
theorem sY {s d t p kv:Value} {l:List fy} (h:RR w r s d t p) (hw:Rd w kv 2 (iD l)) (hM:te w l) :
  aj T_ 164 [RA r s d t p,kv] w (.q (uR r (bQ l))):=by
 obtain ⟨h1,h2,h3,h4⟩:=h.one;have BY:=hw;obtain ⟨aw,cw,bw,ow,rfl,Sj,Dh,Yg,MA⟩:=hw;rw [dI] at *;unfold maxLen at Dh;have nL:(bQ l).length=l.length:=Zd _;unfold RA;refine ah func164 I I ?_
 (refine Jr<|Jy I I fun _ _=>Ja I<|Jn<|Jq<|Jr<|Jv I<|JI I<|JC I<|ai bb I (fun w' aB=>(eG _ 12 w'))<|Jv I<|JI I<|JE I<|ai bb I (fun w' aB=>(eG _ 5 w'))<|bj (aG (.o I (.o I .nil)) I I I I) I fun _ _=>ai bM I (fun w' aB=>(ee (Mem.dz aB .here I I) (bY.cons (bY.cons bY.nil))))<|Ja I<|Ji<|Jv I<|JD I<|Jn<|gm I (fun az=>?_) fun az=>?_;refine Jr<|Jv I<|Ja I<|Jn<|Ju<|JT ?_;rotate_left;refine Jk<|Jq<|Jr<|Jv I<|JI I<|Jv I<|Jn<|J0 ?_;rotate_right)
 ·have e1:uR r (bQ l)=En (bQ l):=if_pos (by unfold En;rw [nL];exact az);rw [e1];unfold En;rw [nL]
 have Du:En (bQ l)=0:=by unfold En;rw [nL];exact Zp.1 az
 have hX:uR r (bQ l)=jd (yj r (bQ l)) l.length:=by unfold uR;rw [if_neg (by rw [Du];decide),nL]
 clear az;rename_i b2 rM bq ml
 refine aV (fun k:Nat=>k<=l.length/\∀ i,i<k->yj r (bQ l) i=0) (fun k=>[(26,.q (k:Nat)),(25,.q (l.length:Nat)),(24,.slice aw l.length cw),(2,.p b2),(1,.slice aw l.length cw)])
  (fun k=>[JP b2 r s d t p]) (fun k=>l.length-k) ?_ ?_
 ·apply aI 0 ⟨Zi _,fun i hi=>by omega⟩
  case hs1=>exact bS
  case ht=>(try simp only [Ze,Zf,Za]);exact .cons (.there .here) .nil
 rintro k ⟨hk,hf⟩;by_cases aK:k<l.length
 ·have MG:=Yg (jM aK);have aC:=(MA k _ (j7 aK)).2;unfold fy.cells at aC;have hx:=hM _ (Zj aK);have iy:=q5 (r:=r) (l:=bQ l) (k:=k) (by omega);have hgk:(bQ l)[k]'(by omega)=(l[k]).tk:=ZZ _;rw [hgk] at iy;have uB:Rd w (Go.sliced aw 0 (k:Int).toNat cw 2) 2 (iD (l.take k)):=by
   have:=BY.sliced (l:=0) (m:=k) (Zi _) (by omega);rw [ZH];rwa [List.drop_zero,show (iD l).take k=iD (l.take k) by unfold iD;rw [ZaX]] at this
  have U0:(l.take k).any (fun y=>decide (y.tk.de=(l[k]).tk.de))=((bQ l).take k).any fun y=>decide (y.de=(l[k]).tk.de):=by
   unfold bQ;rw [<- ZaX,List.any_map];rfl
  generalize l[k]=x at aC hx iy U0 ⊢;obtain ⟨⟨xd,xs⟩,xv⟩:=x;dsimp only at aC hx iy U0 ⊢;have Ug:=hx;obtain ⟨ax,cx,bx,ox,rfl,Si,Dg,Yf,hcx⟩:=hx;rw [bG] at *;unfold maxLen at Dg;have gq:∀ w',aJ [] w w'->aj T_ 112 [.agg #[.int .i64 r.lv,.int .i64 r.ma,s,d,t,p],.string xd] w' (.int .i64 (oL r xd)):=fun w' hk=>eY xd (h.keeps hk)
  (refine Jr<|JA I<|Jn<|Jq<|Jd I fun az=>Jk<|Jq<|J0<|Jr<|Jv I<|ab (an (.of I) (.of I) MG (by omega) az aW) I<|ab (iO (eZ.base aC I)) I<|Jz I I fun _ _=>Ja I<|ao (.of I) (.of I) .here I I (gO I I) (bz I) ak<|Ji<|Jv I<|Jv I<|ab (iU (.of I) (.of I) (by omega) (by omega)) I<|ab (bD .nil (.o I .nil)) I ?_)
  rename_i b7 Sm
  with_reducible apply ai
  case hr=>exact bb
  case hd=>rfl
  case hc=>
   intro w' aB;have f7:w'.cell? ⟨b7,0,none⟩=some (.string xd):=(BR.of (cs:=[.string xd,.slice ax xs.length cx]) aB (by exact .here)) 0 _ I;exact QF (f:=249) (p:=fun y=>decide (y.tk.de=xd)) (first:=[]) (cap:=[.p b7]) (uB.keeps aB.keeps) (fun y hy w2 fq=>Wx (cJ f7 I fq))
  rw [U0]
  (refine Ja I<|Ji<|bJ I I ae<|JL I .here I<|ab (bD .nil (.o I .nil)) I ?_)
  with_reducible apply ai
  case hr=>exact bb
  case hd=>rfl
  case hc=>
   intro w' aB;have hR:=h.keeps aB.keeps;have hA:BR w' b2 [.q r.lv,.q r.ma,s,d,t,p]:=BR.of aB (by exact Take.there .here);exact MI (f:=251) (p:=jC r) (first:=[]) (cap:=[.p b2]) (Ug.keeps aB.keeps) (fun o ho w2 fq=>Wz o (hR.keeps fq) (hA.keeps fq))
  refine Ja I<|Jn<|Jq ?_
  with_reducible refine cY 16 (by kernel_rfl) ?_
  (refine ar (cm (.there .here)) I<|ar k6 I<|ar (gX .here) I<|aX bb I (fun w' aB=>(gq w' (Mem.keeps aB)))<|ar k8 I<|aX bb I (fun w' aB=>(eG _ 9 w'))<|ar k6 I<|ar (gX .here) I<|ar (bZ (.of I)) I<|ar k6 I<|ar (gX (.there .here)) I<|ar (jl (.of I) (.of I)) I<|aX bb I (fun w' aB=>(eG _ 2 w'))<|ar k8 I<|aX bb I (fun w' aB=>(eG _ 10 w'))<|eC (aG (.o I (.o I (.o I (.o I .nil)))) I I I I) I I ?_)
  with_reducible refine dA I fun b55 ac3=>?_
  (refine ai bM I (fun w' aB=>(ee (Mem.dz aB .here I I) (bY.cons (bY.cons (bY.cons (bY.cons bY.nil))))))<|Ja I<|Ji<|Jv I<|JD I<|Jn<|gm I (fun az=>?_) fun az=>?_;refine Jr<|Jv I<|Ja I<|Jn<|Je<|Jm<|Jh<|Jh<|Jm<|Jh<|JT ?_;rotate_left;refine Jw<|Jj<|Jt<|Jg<|JB I (by omega)<|Jv I<|Jn ?_;rotate_right)
  ·rw [<- iy] at az ⊢;have hB:jd (yj r (bQ l)) l.length=yj r (bQ l) k:=eV hf aK az;rw [hX,hB]
  have hz:yj r (bQ l) k=0:=by rw [iy];exact Zp.1 az
  apply aH (k+1) ⟨by omega,fun i hi=>by
   by_cases e:i=k
   ·rw [e];exact hz
   ·exact hf i (by omega)⟩ (by omega)
  case hs1=>exact bS
  case ht=>(try simp only [Ze,Zf,Za]);exact .cons bL .nil
 ·obtain rfl:k=l.length:=by omega
  have Yt:jd (yj r (bQ l)) l.length=0:=dQ.2 hf;rw [hX,Yt];refine Jr<|JA I<|Jn<|Jq<|Jc I fun az=>Jp<|Jl<|Jo<|Jt<|Jr<|Ja I<|Jn<|Je<|JT ?_
  rfl
def rJ (v:Int) (o:ByteArray) (x:Po):Bool:=decide (x.lv=v)&&decide (x.ou=o)
theorem Ws {x:Po} (v:Int) (o:ByteArray) {b1 b2:Nat} {w:World} (f1:w.cell? ⟨b1,0,none⟩=some (.q v)) (f2:w.cell? ⟨b2,0,none⟩=some (.string o)) :
  aj T_ 315 [.agg x.cells.toArray,.p b1,.p b2] w (.bool (rJ v o x)):=by
 unfold Po.cells;refine ah func315 I I ?_
 (refine Jr<|Jy I I fun _ _=>Ja I<|Ji<|ab (cm .here) I<|ab (ag (.of I) (At.base f1 I)) I<|ab (ag (.of I) (At.base f2 I)) I<|bJ I I ae<|JL I .here I<|ab (aU (.o I (.o I (.o I .nil))) ak) I<|ab (vo (.of I) (.of I) (kI (fX (fX mJ))) I) I<|Ja I<|Jn<|Je<|JT ?_)
 simp [rJ]
def RB (b:Nat) (r:Ro) (s d t p:Value):bd:=JP b r s d t p
def PB (p:Value) (l:List Po):bd:=row 188 3 p l.length (gl l)
set_option maxHeartbeats 1000000 in
theorem yR {s d t p:Value} {l:List Po} (v:Int) (o:ByteArray) {w:World} {fp:List Nat} (jw:fp.Nodup) (hs:cr (hp w) [RB b r s d t p,PB p l] fp) (cZ:l.length<=1000000) :
  a8 T_ 256 [.p b,.q v,.string o] w fp (fun _:Value=>True) (fun _=>.tuple #[]) (fun p'=>[RB b r s d t p',PB p' (l.filter fun x=>!rJ v o x)]):=by
 unfold RB PB at *;refine ek func256 I I jw hs ?_
 (refine Jr<|Jy I I fun _ _=>Jy I I fun _ _=>Jn<|Jg<|Jv I<|Jv I<|ab (ez (.of I)) I<|bJ I I ae<|JL I bL I<|ab (bD .nil (.o I (.o I .nil))) I ?_)
 rename_i b4 tS b5 Ia
 with_reducible apply gA (As:=[row 188 3 p l.length (gl l)])
 case hr=>exact bb
 case hd=>rfl
 case ht=>exact .cons cX .nil
 case hc=>
  intro w1 Bv aT uV hs1 Dt lp;have h4:b4 ∉ Bv:=lp b4 _ _ (by exact Take.there .here);have h5:b5 ∉ Bv:=lp b5 _ _ (by exact .here);have f4:w1.cell? ⟨b4,0,none⟩=some (.q v):=At.lit (by exact Take.there .here) I w1 aT;have f5:w1.cell? ⟨b5,0,none⟩=some (.string o):=At.lit (by exact .here) I w1 aT;exact Q5 (f:=315) (p:=rJ v o) (first:=[]) (cap:=[.p b4,.p b5]) uV hs1 I cZ (fun x _ w2 fq=>Ws v o (eR f4 I h4 fq) (eR f5 I h5 fq))
 intro p' _;dsimp only [id_eq,Zb,Za];refine aM (by exact .here) fun va vc e=>?_;subst e
 (refine ab (ez (.of I)) I<|bJ I I ae<|ao (.of I) (.of I) cX I I (dR I) (bz I) ak<|Jx ?_)
 with_reducible first|apply aO|apply aQ
 case he=>exact qV I
 case hR=>
  intro w' aB;exact aD (.slice va (l.filter fun x=>!rJ v o x).length vc) trivial (by exact .h2 .nil) aB I
theorem Iv {l:List Po} (h:Rd w lv 3 (tG l)) (hl:l.length<=1000) :
  a8 T_ 316 [lv] w [] (fun _:Value=>True) id (fun v=>[row 188 3 v l.length (gl l)]):=by
 have h':=h;obtain ⟨a,cp,b,o,rfl,dd,bO,ha,hc⟩:=h;refine aS func316 I I ?_;cases a with
 | none =>
  have nN:l=[]:=by
   cases l with
   | nil=>rfl
   | cons x r=>exact absurd (ha (by simp [tG])) (by simp)
  subst nN
  (refine Jr<|Ja I<|Jn<|Jq<|Jr<|Jv I<|ab (iv (.of I) (.of I)) I<|Jn<|cW (.of I)<|Jr<|Ja I<|Jn<|Ju ?_)
  refine aN 188 3 ?_
  with_reducible first|apply aO|apply aQ
  case he=>exact dB I I
  case hR=>
   intro w' aB;exact aD (.z) trivial (by exact .h1 .nil) aB I
 | some ad =>
  (refine Jr<|Ja I<|Jn<|Jq<|Jr<|Jv I<|ab (iv (.of I) (.of I)) I<|Jn<|ch (.of I)<|Jk<|Jr ?_)
  with_reducible apply bj
  case hr=>exact lB
  case hd=>rfl
  intro bq ml;refine PU I I ?_;refine bU (g:=bq) (E:=188) (ys:=[]) 0 3 (by exact .here) I I I ?_
  with_reducible apply eX
  case hx=>exact Is.of I
  case hy=>exact Is.of I
  case ht=>exact .here
  case hsrc=>exact fun w' aB=>h'.keeps aB.keeps
  case h1=>exact AX l
  case hz=>exact I
  case hsz=>exact I
  case hb0=>exact I
  case hb=>rw [cR];omega
  case hd=>rfl
  intro v';rw [cR,ZD,Za,<- AV];refine Ja I<|Jn<|Je ?_
  with_reducible first|apply aO|apply aQ
  case he=>exact dB I I
  case hR=>
   intro w' aB;exact aD v' trivial (by exact .h1 .nil) aB I
def MpW (w:World) (b:Nat) (l:List (ByteArray×Value)):Prop:=∃ es clock,w.heap[b]? = some (.map es clock)/\LJ (fun s:ByteArray=>Value.string s) l es clock
theorem MpW.ka {w w':World} {md:List Nat} (h:MpW w b l) (hn:b ∉ md) (hk:aJ md w w'):MpW w' b l:=by
 obtain ⟨es,ck,h1,h2⟩:=h;have hb:b<w.heap.size:=(Z6.1 h1).1;have:=hk.block b hb hn;exact ⟨es,ck,by rw [this,h1],h2⟩
theorem v8 {ty:TypeId} {t kt et:TypeId} {k:ByteArray} {z V:Value} [hu:ja P t (.map kt et)] [H6:ja P kt .string] [hz:mn P et z]
  (hx:Is sl x (.map (some b))) (hy:Is sl y (.string k)) (hl:Looks c hs b (fun s:ByteArray=>Value.string s) l) (e:(fc k l).getD z=V) :
  di P c sl hs ⟨dst,.lookup t x y false,ty,pos,af,g⟩ V:=e ▸ HD LV hx hy hl
def TQ (r:Ro) (x y:Po):Int:=aZ [lr x.lv y.lv,lr (eE r x.ou) (eE r y.ou)]
theorem TA {x y:Po} {b bm:Nat} (hd:Ea r) (hx:jr (eL r) x.ou=true) (hy:jr (eL r) y.ou=true) (f:w.cell? ⟨b,0,none⟩=some (.map (some bm))) (hm:MpW w bm (pe r)) :
  aj T_ 318 [.agg x.cells.toArray,.agg y.cells.toArray,.p b] w (.q (TQ r x y)):=by
 have ex:(fc x.ou (pe r)).getD (mq 0 0 0)=mq (eE r x.ou) (kP r x.ou) (kq r x.ou):=by rw [rf hd,hx];rfl
 have ey:(fc y.ou (pe r)).getD (mq 0 0 0)=mq (eE r y.ou) (kP r y.ou) (kq r y.ou):=by rw [rf hd,hy];rfl
 unfold Po.cells;refine ah func318 I I ?_;refine Jr<|Jy I I fun _ _=>Jy I I fun _ _=>Ja I<|Jn<|Jq ?_
 with_reducible refine cY 17 (by kernel_rfl) ?_
 (refine ar k6 I<|ar (gX (.there .here)) I<|ar k6 I<|ar (gX .here) I<|aX bb I (fun w' aB=>(DE _ _ w'))<|ar (ag (.of I) (At.base f I)) I<|ar k6 I<|ar (gX (.there .here)) I ?_)
 refine ar (v8 (l:=pe r) (z:=mq 0 0 0) (V:=.agg #[.q (eE r x.ou),.q (kP r x.ou),.q (kq r x.ou)]) (Is.of I) (Is.of I) (fun w' aB=>hm.ka (by simp) aB.keeps) ex) I ?_
 (refine ar (CM (.of I) I) I<|ar (ag (.of I) (At.base f I)) I<|ar k6 I<|ar (gX .here) I ?_)
 refine ar (v8 (l:=pe r) (z:=mq 0 0 0) (V:=.agg #[.q (eE r y.ou),.q (kP r y.ou),.q (kq r y.ou)]) (Is.of I) (Is.of I) (fun w' aB=>hm.ka (by simp) aB.keeps) ey) I ?_
 (refine ar (CM (.of I) I) I<|aX bb I (fun w' aB=>(DE _ _ w'))<|eC (aG (.o I (.o I .nil)) I I I I) I I ?_)
 with_reducible refine dA I fun bq ml=>?_
 skip
 refine ai bM I (fun w' aB=>W6 (l:=[lr x.lv y.lv,lr (eE r x.ou) (eE r y.ou)]) (Mem.dz aB (by exact .here) I I)) ?_;refine Ja I<|Jn<|Je<|JT ?_
 rfl
end Go.Proofs.A1
namespace Go.Proofs.A1
open Go Go.SL Go.Shelf
open Tryz
open Tryz renaming prog->T_
theorem vq (r:Ro) (x y:Po):TQ r x y<0↔x.lv<y.lv\/(x.lv=y.lv/\eE r x.ou<eE r y.ou):=by
 unfold TQ;generalize eE r x.ou=a;generalize eE r y.ou=b;simp only [aZ,lr]
 repeat' split
 all_goals omega
theorem Px {α:Type} (r:Ro) (g:α->Po):Go.Sort.SWO (ltOf fun x y:α=>TQ r (g x) (g y)):=by
 constructor
 ·intro x;unfold ltOf;rw [decide_eq_false_iff_not,vq];omega
 ·intro x y z h1 h2;unfold ltOf at *;rw [decide_eq_true_eq,vq] at *;omega
 ·intro x y z h1 h2;unfold ltOf at *;rw [decide_eq_false_iff_not,vq] at *;omega
theorem KJ {r:Ro} {v:Value} {l:List Po} {Oo bm:Nat} {w:World} {fp:List Nat} (hs:cr (hp w) [PB v l] fp) (hd:Ea r) (jn:∀ x∈l,jr (eL r) x.ou=true) (cZ:l.length<=1000000)
  (f:w.cell? ⟨Oo,0,none⟩=some (.map (some bm))) (hm:MpW w bm (pe r)) (h14:Oo ∉ fp) (hbm:bm ∉ fp) :
  a8 T_ 317 [v,.func (.func 318) #[] #[.p Oo]] w fp (fun l':List Po=>l'.Perm l/\l'.Pairwise (fun x y=>¬ TQ r y x<0)) (fun _=>.tuple #[]) (fun l'=>[PB v l']):=by
 obtain ⟨f1,f2,rfl,h1,h2⟩:=hs;obtain rfl:f2=[]:=h2;obtain ⟨rfl,hlen,h1⟩:=h1;rw [ZJ] at *;rcases h1 with ⟨rfl,h0⟩ | ⟨g,cap,cur,rfl,hg,kL,ke,oR,tR⟩
 ·have nN:l=[]:=Z8 (by omega);subst nN;refine (AnyF.slices_SortFunc_none Tryz.Ew none 0 (.func (.func 318) #[] #[.p Oo]) w).mono fun e w' ⟨he,hw⟩=>?_;subst hw;exact ⟨[],he,⟨.refl _,.nil⟩,.refl _ _,[],Zan,⟨[],[],I,⟨I,hlen,.inl ⟨I,h0⟩⟩,I⟩,by simp⟩
 ·have UZ:g<w.heap.size:=(Z6.1 hg).1;by_cases nN:l=[]
  ·subst nN;refine (AnyF.slices_SortFunc_none Tryz.Ew (some ⟨g,0,none⟩) cap (.func (.func 318) #[] #[.p Oo]) w).mono fun e w' ⟨he,hw⟩=>?_;subst hw;exact ⟨[],he,⟨.refl _,.nil⟩,.refl _ _,[g],by simp,⟨[g],[],I,⟨I,hlen,.inr ⟨g,cap,cur,I,hg,kL,ke,oR,tR⟩⟩,I⟩,fun b hb=>.inl hb⟩
  obtain ⟨x0,Ug⟩:=List.exists_mem_of_ne_nil l nN
  let α:={x:Po // jr (eL r) x.ou=true}
  let _:Inhabited α:=⟨⟨x0,jn x0 Ug⟩⟩
  let enc:α->List Value:=fun x=>x.1.cells
  have od:cur=([]++gl l++cur.toList.drop (l.length*3)).toArray:=by
   apply Array.ext';show cur.toList=_;rw [<- tR,Za,Z0]
  generalize XD:cur.toList.drop (l.length*3)=post at od
  let la:List α:=l.attach.map fun x=>⟨x.1,jn x.1 x.2⟩
  have UL:la.map (fun x:α=>x.1)=l:=by
   show (l.attach.map fun x=>(⟨x.1,jn x.1 x.2⟩:α)).map (fun x:α=>x.1)=l
   rw [ZaE];exact List.attach_map_subtype_val l
  have Dj:∀ m:List α,(m.map enc).flatten=gl (m.map fun x:α=>x.1):=fun m=>by
   rw [AV];unfold tG;rw [ZaE];rfl
  have E9:la.length=l.length:=by
   show (l.attach.map fun x=>(⟨x.1,jn x.1 x.2⟩:α)).length=_
   rw [Zd,List.length_attach]
  have rM:w.heap[g]? = some (.cells ([]++(la.map enc).flatten++post).toArray 188 (0,0)):=by rw [Dj,UL,<- od];exact hg
  have key:=Cr Tryz.Ew (k:=3) isAgg188 sizeOf188 (enc:=enc) (fun _=>rfl)
   (fun x u hu=>by
    simp only [enc,Po.cells,ZS,Zo,or_false] at hu;rcases hu with rfl | rfl | rfl <;> rfl)
   (Px r (fun x:α=>x.1)) (g:=318) (b:=g) (cap:=cap) (cb:=#[.p Oo]) (l:=la) (pre:=[]) (cur:=post) (E:=188) (w:=w)
   (enters_of func318 (by kernel_rfl) I) rM (by rw [E9];omega)
   (fun w' hk x y=>TA (r:=r) (x:=x.1) (y:=y.1) hd x.2 y.2 (eR f I h14 hk) (hm.ka hbm hk))
  rw [E9] at key;refine Calls.mono key ?_;rintro e w' ⟨he,l',jD,hpw,hk,dK⟩;have zJ:(l'.map fun x:α=>x.1).length=l.length:=by rw [Zd,jD.length_eq,E9]
  rw [Dj] at dK;refine ⟨l'.map fun x:α=>x.1,he,⟨?_,?_⟩,hk,[g],by simp,⟨[g],[],I,⟨I,?_,.inr ⟨g,cap,_,?_,dK,?_,ke,?_,?_⟩⟩,I⟩,fun b hb=>.inl hb⟩
  ·have:=jD.map (fun x:α=>x.1)
   rwa [UL] at this
  ·rw [Zbx];refine hpw.imp fun {x y} h=>?_;unfold ltOf at h;rwa [decide_eq_false_iff_not] at h
  ·exact ic _
  ·rw [zJ]
  ·rw [zJ];exact kL
  ·rw [<- oR];have:=congrArg (fun x:Array Value=>x.size) od
   simp only [Zbn,Zg,ic,Zaa,ZD] at this ⊢;rw [zJ,this]
  ·show List.take _ ([]++gl _++post)=_;rw [Za,Zah (by rw [ic];exact Zy _),Zab (by rw [ic];exact Zy _)]
end Go.Proofs.A1
namespace Go.Proofs.A1
open Go Go.SL
open Tryz
open Tryz renaming prog->T_
set_option maxHeartbeats 2000000 in
theorem AY {r:Ro} {s d t p:Value} {w:World} (h:RR w r s d t p) (cZ:nk r) (hpf:r.po.length<=1000000) :
  a8 T_ 184 [RA r s d t p] w [] (fun _:Value×Value×Value×Value=>True) (fun x=>RA r x.1 x.2.1 x.2.2.1 x.2.2.2) (fun x=>[J1 r x.1,J2 r x.2.1,J3 r x.2.2.1,PB x.2.2.2 r.po]):=by
 obtain ⟨h1,h2,h3,h4⟩:=h.one;have Qr:=h.po;have oQ:=h.po;obtain ⟨a4,cp4,q4,o4,rfl,qT,jE,zM,tR⟩:=oQ;rw [cR] at *;unfold maxLen at jE;unfold RA;refine aS func184 I I ?_
 (refine Jr<|Jy I I fun _ _=>Jz I I fun _ _=>Ji<|ab (cm (.there .here)) I<|Jz I I fun _ _=>ao (.of I) (.of I) .here I I (eF I I h1 h2 h3 I) (bz I) ak<|Jn<|Jq ?_)
 have hs0:=h.sr;have V6:=h.de
 with_reducible refine dE 7 (by kernel_rfl) ?_
 (refine au (fun β=>(aq (.of I) ae)) dO I<|au (fun β=>(ag (.of I) (At.lit bL I))) dO I ?_)
 dsimp only [Nat.zero_add,Nat.reduceAdd]
 with_reducible apply eB (ι:=Value) (Φ:=fun _=>True) (val:=id) (own:=fun x=>[J1 r x]) (g:=id) (B:=[]) (args:=fun _=>[s])
 case hg=>exact fun x=>⟨x,I⟩
 case hB=>rfl
 case hr=>exact fun β=>a7 (.of I) (.o I .nil) inferInstance I
 case hd=>rfl
 case hc=>exact fun β w' hb=>Iu (h.sr.keeps hb.mem.keeps) (by have:=cZ.1;omega)
 dsimp only [id_eq,Nat.reduceAdd]
 (refine au (fun β=>(aq (.of I) ae)) dO I<|au (fun β=>(ag (.of I) (At.lit bL I))) dO I ?_)
 dsimp only [Nat.zero_add,Nat.reduceAdd]
 with_reducible apply eB (ι:=Value) (Φ:=fun _=>True) (val:=id) (own:=fun x=>[J2 r x]) (g:=id) (B:=[]) (args:=fun _=>[d])
 case hg=>exact fun x=>⟨x,I⟩
 case hB=>rfl
 case hr=>exact fun β=>a7 (.of I) (.o I .nil) inferInstance I
 case hd=>rfl
 case hc=>exact fun β w' hb=>Iw (h.de.keeps hb.mem.keeps) (by have:=cZ.2.1;omega)
 dsimp only [id_eq,Nat.reduceAdd];refine au (fun β=>(aq (.of I) ae)) dO I ?_;refine eS fun β=>?_;dsimp only [dY,Za,Zb,List.append_eq,Nat.reduceAdd];generalize β 2=sv;generalize β 5=dv;clear β;refine aM (v:=sv) (by exact .here) fun sa sc e=>?_;subst e;refine aM (v:=dv) (by exact Take.there .here) fun da dc e=>?_;subst e;refine bI (rs:=[7]) (by kernel_rfl) (by simp) (Zq.2 ⟨?_,fun _ h=>absurd h Zo⟩);refine bP I ?_
 (refine ao (.of I) (.of I) bL I I (dR I) (bz I) ak<|Jn ?_)
 refine bI (rs:=[8]) (by kernel_rfl) (by simp) (Zq.2 ⟨?_,fun _ h=>absurd h Zo⟩);refine bP I ?_
 (refine bJ I I ae<|Jn ?_)
 refine bI (rs:=[9]) (by kernel_rfl) (by simp) (Zq.2 ⟨?_,fun _ h=>absurd h Zo⟩);refine bP I ?_
 (refine ao (.of I) (.of I) .here I I (dR I) (bz I) ak<|Jn ?_)
 with_reducible refine cu (by kernel_rfl) ?_
 (refine Jt<|Jr<|bJ I I ae<|JL I dD I ?_)
 refine JN bM I (fun w1 aT=>It (h.keeps aT.keeps).ti (by have:=cZ.2.2;omega)) ?_;intro tv _;dsimp only [id_eq,Zb,Za];refine aM (v:=tv) (by exact .here) fun ta tc e=>?_;subst e
 (refine bJ I I ae<|ao (.of I) (.of I) (.there .here) I I (dR I) (bz I) ak<|Ji<|bJ I I ae<|JL I eu I<|JI I ?_)
 with_reducible apply bj
 case hr=>
  with_reducible apply Pq
  case hx=>exact Is.of I
  case hy=>exact Is.of I
  case hl=>exact Zy _
  case hb=>omega
  case hz=>rfl
  case hsz=>rfl
  case h63=>omega
 case hd=>rfl
 intro bg UZ
 (refine bJ I I ae<|ao (.of I) (.of I) (.there .here) I I (dR I) (bz I) ak<|Ji<|bJ I I ae<|JL I .here I<|bJ I I ae<|JL I kr I ?_)
 with_reducible apply Kv
 case hx=>exact Is.of I
 case hy=>exact Is.of I
 case ht=>exact Take.there .here
 case hsrc=>exact fun w' aB=>Qr.keeps aB.keeps
 case h1=>exact AX r.po
 case hfit=>
  simp [Value.cells]
 case hd=>rfl
 rw [Zab (by rw [cR];exact Zy _),<- AV,AG _ _ (by rw [ic];simp [Value.cells])];refine dC (n:=r.po.length) (xs:=gl r.po) (cap:=r.po.length) (g:=bg) (E:=188) (sz:=3) (by exact .here) (Zy _) (by unfold maxLen;omega) ?_ (ic _) ?_
 ·rw [Zg,ZaS,ic];simp [Value.cells]
 (refine Ji<|ab (cm (.there .here)) I<|ao (.of I) (.of I) eu I I (eF I I I I I I) (bz I) ak<|Jn<|Je ?_)
 with_reducible first|apply aO|apply aQ
 case he=>exact iK I inferInstance I .here ak (by rfl)
 case hR=>
  intro w' aB;exact aD (.slice sa r.sr.length sc,.slice da r.de.length dc,.slice ta r.ti.length tc,.w bg r.po.length r.po.length) trivial (by exact .cons dD (.cons dD (.cons cX (.cons (.there .here) .nil)))) aB I
end Go.Proofs.A1
namespace Go.Proofs.A1
structure Sw (po:List Po) (D:List ByteArray) (f:Po->Bool):Prop where
 de:∀ p∈po,p.ou∈D->f p=true
 up:∀ p∈po,∀ q∈po,f q=true->q.lv=p.lv->q.ip=p.ou->f p=true
theorem Sw.start (po:List Po) (D:List ByteArray):Sw po D fun _=>true:=⟨fun _ _ _=>rfl,fun _ _ _ _ _ _ _=>rfl⟩
theorem Sw.step {po:List Po} {D:List ByteArray} {f:Po->Bool} (h:Sw po D f) {v:Int} {o:ByteArray} (hD:o ∉ D) (hu:∀ q∈po,f q=true->¬ (q.lv=v/\q.ip=o)):Sw po D fun x=>f x&&!rJ v o x:=by
 refine ⟨fun p hp hd=>?_,fun p hp q hq hf e1 e2=>?_⟩
 ·have h1:=h.de p hp hd;have h2:rJ v o p=false:=by
   unfold rJ;have:¬ p.ou=o:=fun e=>hD (e ▸ hd)
   simp [this]
  simp [h1,h2]
 ·rw [Bool.and_eq_true] at hf;have h1:=h.up p hp q hq hf.1 e1 e2;have h2:rJ v o p=false:=by
   unfold rJ;by_cases a:p.lv=v
   ·by_cases b:p.ou=o
    ·exact absurd ⟨e1.trans a,e2.trans b⟩ (hu q hq hf.1)
    ·simp [b]
   ·simp [a]
  simp [h1,h2]
theorem pM (po:List Po) (f:Po->Bool) (v:Int) (o:ByteArray):(po.filter f).filter (fun x=>!rJ v o x)=po.filter fun x=>f x&&!rJ v o x:=by
 rw [List.filter_filter];congr 1;funext x;exact Bool.and_comm _ _
end Go.Proofs.A1
namespace Go.Proofs.A1
open Go Go.SL
def Ro.wp (r:Ro) (po:List Po):Ro:=⟨r.lv,r.ma,r.sr,r.de,r.ti,po⟩
variable {S:List Po} {T:List ByteArray} {i:Nat} {j:Jb} {k m:Nat} {p:Po} {po q:List Po} {r:Ro} {v:Int}
theorem jh.wp (h:jh r po):jh (r.wp q) po:=⟨h.rU,h.LS,h.out,h.xX,h.RY,h.D9,h.use⟩
theorem oE.wp (h:oE r):oE (r.wp q):=⟨h.sd,h.st,h.dt,h.VQ⟩
theorem Ea.wp (h:Ea r):Ea (r.wp q):=⟨h.nd⟩
theorem rQ.wp (h:rQ r) {q:List Po} (hq:jh r q):rQ (r.wp q):=⟨h.lim,h.SK.wp,h.len,h.sm,h.dm,h.tm,hq.wp⟩
theorem rQ.nd (h:rQ r):(cQ r).Nodup:=h.SK.parts.2.2.1
def yk (D:List ByteArray) (po:List Po):List Po:=po.filter fun p=>jr D p.ou||po.any fun q=>decide (q.lv=p.lv)&&decide (q.ip=p.ou)
def Hx (D:List ByteArray):Nat->List Po->List Po
 | 0,po=>po
 | n+1,po=>Hx D n (yk D po)
def vR (D:List ByteArray) (po:List Po):List Po:=Hx D po.length po
theorem Cl {D:List ByteArray} {po:List Po} (h:yk D po=po):∀ n,Hx D n po=po
 | 0=>rfl
 | n+1=>by rw [Hx,h];exact Cl h n
theorem F4 {D:List ByteArray}:∀ (n:Nat) (po:List Po) (f:Po->Bool),Sw po D f->(po.filter f).length<=n ->
  ∃ g:Po->Bool,Sw po D g/\Hx D n (po.filter f)=po.filter g/\yk D (po.filter g)=po.filter g
 | 0, po, f, h, hl => by
  have e:po.filter f=[]:=Z8 (by omega);exact ⟨f,h,I,by rw [e];rfl⟩
 | n + 1, po, f, h, hl => by
  have hS:Sw po D fun p=>f p&&(jr D p.ou||(po.filter f).any fun q=>decide (q.lv=p.lv)&&decide (q.ip=p.ou)):=by
   refine ⟨fun p hp hd=>?_,fun p hp q hq hf e1 e2=>?_⟩
   ·have:=h.de p hp hd;show (f p&&(jr D p.ou||_))=true;rw [this,fI.2 hd];rfl
   ·rw [Zm] at hf;have h1:=h.up p hp q hq hf.1 e1 e2;rw [h1,Zao,ZT]
    right
    rw [ZR];exact ⟨q,Zr.2 ⟨hq,hf.1⟩,by simp [e1,e2]⟩
  have e:yk D (po.filter f)=po.filter fun p=>f p&&(jr D p.ou||(po.filter f).any fun q=>decide (q.lv=p.lv)&&decide (q.ip=p.ou)):=by
   unfold yk;rw [Zbu];refine Zbc fun p _=>?_;rw [Bool.and_comm]
  by_cases hfx:yk D (po.filter f)=po.filter f
  ·exact ⟨f,h,Cl hfx _,hfx⟩
  ·have aK:(yk D (po.filter f)).length<(po.filter f).length:=by
    have hle:(yk D (po.filter f)).length<=(po.filter f).length:=ZV _ _;rcases Zbt (yk D (po.filter f)).length (po.filter f).length with h1 | h1
    ·exact h1
    ·exact absurd (List.filter_sublist.eq_of_length (Nat.le_antisymm hle h1)) hfx
   rw [Hx,e];exact F4 n po _ hS (by rw [<- e];omega)
structure Swd (po:List Po) (D:List ByteArray) (f:Po->Bool):Prop where
 sw:Sw po D f
 us:∀ p∈po,f p=true->p.ou∈D\/∃ q∈po,f q=true/\q.lv=p.lv/\q.ip=p.ou
theorem F5 (D:List ByteArray) (po:List Po):∃ g,Swd po D g/\vR D po=po.filter g:=by
 obtain ⟨g,h1,h2,h3⟩:=F4 (D:=D) po.length po (fun _=>true) ⟨fun _ _ _=>rfl,fun _ _ _ _ _ _ _=>rfl⟩ (ZV _ _);rw [Zaz.2 fun _ _=>rfl] at h2
 refine ⟨g,⟨h1,fun p hp hg=>?_⟩,h2⟩;have hm:p∈yk D (po.filter g):=by rw [h3];exact Zr.2 ⟨hp,hg⟩
 have:=(Zr.1 hm).2;rw [ZT,fI,ZR] at this;rcases this with h | ⟨q,hq,e⟩
 ·exact .inl h
 ·rw [Zm,decide_eq_true_eq,decide_eq_true_eq] at e;obtain ⟨a,b⟩:=Zr.1 hq;exact .inr ⟨q,a,b,e.1,e.2⟩
structure Oq (r:Ro) (po:List Po):Prop where
 one:th po
 out:∀ p∈po,p.ou∈cE r\/p.ou∈cQ r
 xX:∀ p∈po,p.ip∈cK r\/p.ip∈cQ r
 D9:∀ v,¬ ∃ t∈cQ r,t∈fJ po v ((cQ r).length+1) t
theorem jh.acy (h:jh r po):Oq r po:=⟨jh.one h.rU,h.out,h.xX,h.D9⟩
theorem Oq.sub (h:Oq r po) (f:Po->Bool):Oq r (po.filter f):=by
 have hs:∀ p∈po.filter f,p∈po:=fun p hp=>(Zr.1 hp).1
 exact ⟨h.one.filter f,fun p hp=>h.out p (hs p hp),fun p hp=>h.xX p (hs p hp),fun v ⟨t,ht,hc⟩=>h.D9 v ⟨t,ht,BH h.one hs hc⟩⟩
theorem Oq.short (hn:oE r) {po:List Po} (h:Oq r po):∀ v o m,(cQ r).length+1<=m->fJ po v m o=fJ po v ((cQ r).length+1) o:=fun v o m hm=>
 qz (T:=cQ r) (jh.tie hn h.out h.xX) (h.D9 v) o hm
theorem Oq.tid (hn:oE r) {po:List Po} (h:Oq r po) {f:Po->Bool} (hf:Swd po (cE r) f):po.filter f=vR (cE r) po:=by
 obtain ⟨g,hg,e⟩:=F5 (cE r) po;rw [e];exact PO h.one (h.short hn) hf.sw.de hf.sw.up hf.us hg.sw.de hg.sw.up hg.us
def Tk.at (t:Tk) (k:Nat):ByteArray:=t.so.getD k ⟨#[]⟩
def Tk.zero:Tk:=⟨⟨#[]⟩,[]⟩
def lH (r:Ro) (t:Tk) (k:Nat):Bool:=!decide (t.at k=⟨#[]⟩)&&!decide (t.at k=j4 r (k:Nat) t.de)
def kY (r:Ro) (t:Tk):Nat->List Po->List Po
 | 0,po=>po
 | k+1,po=>if lH r t k then (kY r t k po).filter (fun x=>!rJ (k:Nat) t.de x) else kY r t k po
def iL (r:Ro) (l:List Tk):Nat->List Po
 | 0=>r.po
 | i+1=>kY r (l.getD i Tk.zero) (l.getD i Tk.zero).so.length (iL r l i)
def dash:ByteArray:=⟨#[45]⟩
def mr (r:Ro) (t:Tk) (k:Nat):Bool:=lH r t k&&!decide (t.at k=dash)
def mo (r:Ro) (t:Tk):Nat->List Po->Option (List Po)
 | 0,po=>some po
 | k+1,po=>(mo r t k po).bind fun q=>if mr r t k then (lf (r.wp q) (k:Nat) (t.at k) t.de).map fun p=>kN r q (k:Nat) (t.at k) p t.de else some q
def ib (r:Ro) (l:List Tk) (po:List Po):Nat->Option (List Po)
 | 0=>some po
 | i+1=>(ib r l po i).bind (mo r (l.getD i Tk.zero) (l.getD i Tk.zero).so.length)
theorem zh {t:Tk} (h:mo r t k po=none):∀ {m},k<=m->mo r t m po=none:=by
 intro m hm
 induction hm with
 | refl=>exact h
 | step _ ih=>rw [mo,ih];rfl
theorem tC {l:List Tk} (h:ib r l po k=none):∀ {m},k<=m->ib r l po m=none:=by
 intro m hm
 induction hm with
 | refl=>exact h
 | step _ ih=>rw [ib,ih];rfl
def CQ (r:Ro) (l:List Tk) (po:List Po):Nat:=((List.range l.length).find? fun i=>(ib r l po (i+1)).isNone).getD 0
theorem Gh {l:List Tk} (hi:i<l.length) {q:List Po} (h1:ib r l po i=some q) (h2:ib r l po (i+1)=none):CQ r l po=i:=by
 unfold CQ;have:(List.range l.length).find? (fun i=>(ib r l po (i+1)).isNone)=some i:=by
  rw [List.find?_eq_some_iff_append];refine ⟨by rw [h2];rfl,List.range i,(List.range (l.length-i-1)).map (fun x=>x+i+1),?_,fun j hj=>?_⟩
  ·apply List.ext_getElem
   ·simp;omega
   ·intro n a b;rw [Zbj];rcases Zaq n i with c | c | c
    ·rw [ZaJ (by simpa using c)];simp
    ·subst c;rw [Zav (by simp)];simp
    ·rw [Zav (by simp;omega)];simp only [Zau];obtain ⟨d,hd⟩:∃ d,n-i=d+1:=⟨n-i-1,by omega⟩;simp only [hd,List.getElem_cons_succ,ZZ,Zbj];omega
  ·have hj:=ZW.1 hj;cases hn:ib r l po (j+1) with
   | some _=>rfl
   | none=>rw [tC hn (show j+1<=i by omega)] at h1;cases h1
 rw [this];rfl
def mL (r:Ro) (l:List Tk):Int:=iN (fun t=>(r.de.getD (bC (cE r) t.de).toNat ⟨⟨#[]⟩,0,false⟩).pr) l
def Ro.nil:Ro:=⟨0,0,[],[],[],[]⟩
def gI (r:Ro) (l:List Tk):Ro×Int×Int:=
 if 0<=mL r l then (Ro.nil,mL r l,31) else
 match ib r l (vR (cE r) (iL r l l.length)) l.length with
 | none=>(Ro.nil,(CQ r l (vR (cE r) (iL r l l.length)):Nat),18)
 | some po=>(r.wp po,0,0)
structure IB (r:Ro) (l:List Tk):Prop where
 de:∀ t∈l,t.de∈cE r
 nd:(l.map Tk.de).Nodup
 lv:∀ t∈l,(t.so.length:Int)=r.lv
 so:∀ t∈l,∀ s∈t.so,s=⟨#[]⟩\/s=dash\/s∈cK r
 B4:l.length<=8
theorem IB.wp {l:List Tk} (h:IB r l) (q:List Po):IB (r.wp q) l:=⟨h.de,h.nd,h.lv,h.so,h.B4⟩
def Q3 (r:Ro) (t:Tk) (k:Nat) (p:Po):Bool:=(List.range k).any fun i=>lH r t i&&rJ (i:Nat) t.de p
theorem lI (r:Ro) (t:Tk):∀ (k:Nat) (po:List Po),kY r t k po=po.filter fun p=>!Q3 r t k p
 | 0,po=>by rw [kY,Zaz.2 fun p _=>by simp [Q3]]
 | k + 1, po => by
  rw [kY,lI r t k po];have e:∀ p,Q3 r t (k+1) p=(Q3 r t k p||(lH r t k&&rJ (k:Nat) t.de p)):=fun p=>by
   unfold Q3;rw [Zbw,List.any_append];simp
  split
  ·rename_i h;rw [Zbu];refine Zbc fun p _=>?_;rw [e,h,Zao,Bool.not_or,Bool.and_comm]
  ·rename_i h;refine Zbc fun p _=>?_;rw [e,ZaG.2 h,Bool.false_and,Bool.or_false]
def M7 (r:Ro) (l:List Tk) (i:Nat) (p:Po):Bool:=(List.range i).any fun j=>Q3 r (l.getD j Tk.zero) (l.getD j Tk.zero).so.length p
theorem je (r:Ro) (l:List Tk):∀ i,iL r l i=r.po.filter fun p=>!M7 r l i p
 | 0=>by rw [iL,Zaz.2 fun p _=>by simp [M7]]
 | i + 1 => by
  rw [iL,lI,je r l i,Zbu];refine Zbc fun p _=>?_;have e:M7 r l (i+1) p=(M7 r l i p||Q3 r (l.getD i Tk.zero) (l.getD i Tk.zero).so.length p):=by
   unfold M7;rw [Zbw,List.any_append];simp
  rw [e,Bool.not_or,Bool.and_comm]
theorem G4 {t:Tk}:Q3 r t k p=true↔∃ i,i<k/\lH r t i=true/\p.lv=(i:Nat)/\p.ou=t.de:=by
 unfold Q3 rJ;simp [ZR]
theorem Q4 {l:List Tk}:M7 r l l.length p=true↔∃ t∈l,∃ i,i<t.so.length/\lH r t i=true/\p.lv=(i:Nat)/\p.ou=t.de:=by
 unfold M7;rw [ZR];constructor
 ·rintro ⟨j,hj,h⟩;have hj:=ZW.1 hj;rw [Zk,Zc hj] at h;exact ⟨l[j],Zj hj,G4.1 h⟩
 ·rintro ⟨t,ht,h⟩;obtain ⟨j,hj,rfl⟩:=Zw ht;refine ⟨j,ZW.2 hj,?_⟩;rw [Zk,Zc hj];exact G4.2 h
theorem mG {r:Ro} {W:List Po->Jb->Option (List Nat)}:∀ {a b:List Jb} {po:List Po},tA r W po (a++b)=(tA r W po a).bind fun q=>tA r W q b
 | [],b,po=>rfl
 | j :: a, b, po => by
  rw [Zb,tA,tA];cases W po j with
  | none=>rfl
  | some p=>exact mG
def wY (r:Ro) (t:Tk):Nat->List Jb
 | 0=>[]
 | k+1=>wY r t k++if mr r t k then [⟨(k:Nat),t.at k,t.de⟩] else []
def wX (r:Ro) (l:List Tk):Nat->List Jb
 | 0=>[]
 | i+1=>wX r l i++wY r (l.getD i Tk.zero) (l.getD i Tk.zero).so.length
def jW (r:Ro) (po:List Po) (j:Jb):Option (List Nat):=if jr (cE r) j.d then lf (r.wp po) j.v j.s j.d else none
theorem FQ {so de:ByteArray} {p:List Nat} (h:lf r v so de=some p):(dG r r.po v so).least (k7 r de) p:=by
 unfold lf at h;split at h
 ·cases h
 ·rename_i e;cases h;exact Wn.Vv e
theorem R1 (r:Ro):∀ po j p,jW r po j=some p->(dG r po j.v j.s).ok p/\(dG r po j.v j.s).fin p=kP r j.d:=by
 intro po j p h;unfold jW at h;split at h
 ·rename_i hd;have hl:=FQ h;exact ⟨hl.1,hl.2.1.trans (M8 (r:=r) (fI.1 hd)).symm⟩
 ·cases h
theorem tD {r:Ro} {t:Tk} (ht:t.de∈cE r):∀ (k:Nat) (po:List Po),mo r t k po=tA r (jW r) po (wY r t k)
 | 0,po=>rfl
 | k + 1, po => by
  rw [mo,wY,mG,tD ht k po];congr 1;funext q;cases mr r t k with
  | false=>rfl
  | true =>
   rw [if_pos I,if_pos I,tA];unfold jW;rw [if_pos (fI.2 ht)];cases lf (r.wp q) (k:Nat) (t.at k) t.de with
   | none=>rfl
   | some p=>rfl
theorem tB {r:Ro} {l:List Tk} (hl:∀ t∈l,t.de∈cE r) (po:List Po):∀ i,i<=l.length->ib r l po i=tA r (jW r) po (wX r l i)
 | 0,_=>rfl
 | i + 1, hi => by
  rw [ib,wX,mG,tB hl po i (by omega)];congr 1;funext q;refine tD ?_ _ _;rw [Zk,Zc (by omega)];exact hl _ (Zj _)
theorem pz {t:Tk}:j∈wY r t k↔∃ i,i<k/\mr r t i=true/\j=⟨(i:Nat),t.at i,t.de⟩:=by
 induction k with
 | zero=>simp [wY]
 | succ k ih =>
  rw [wY,Zz,ih];constructor
  ·rintro (⟨i,h1,h2,h3⟩ | h)
   ·exact ⟨i,by omega,h2,h3⟩
   ·split at h
    ·rename_i hb;exact ⟨k,by omega,hb,ZL.1 h⟩
    ·cases h
  ·rintro ⟨i,h1,h2,h3⟩;by_cases e:i=k
   ·subst e
    right
    rw [if_pos h2,h3];exact ZL.2 I
   ·exact .inl ⟨i,by omega,h2,h3⟩
theorem py {l:List Tk} (hi:i<=l.length):j∈wX r l i↔∃ m,∃ hm:m<i,∃ k,k<(l[m]'(by omega)).so.length/\mr r (l[m]'(by omega)) k=true/\j=⟨(k:Nat),(l[m]'(by omega)).at k,(l[m]'(by omega)).de⟩:=by
 induction i with
 | zero=>simp [wX]
 | succ i ih =>
  rw [wX,Zz,ih (by omega),Zk,Zc (show i<l.length by omega),Zaj,pz];constructor
  ·rintro (⟨m,hm,h⟩ | h)
   ·exact ⟨m,by omega,h⟩
   ·exact ⟨i,by omega,h⟩
  ·rintro ⟨m,hm,h⟩;by_cases e:m=i
   ·subst e;exact .inr h
   ·exact .inl ⟨m,by omega,h⟩
def JbD (a b:Jb):Prop:=¬(b.v=a.v/\b.d=a.d)
theorem Ba (r:Ro) (t:Tk):∀ k,(wY r t k).Pairwise JbD
 | 0=>.nil
 | k + 1 => by
  rw [wY,List.pairwise_append];refine ⟨Ba r t k,?_,fun a ha b hb=>?_⟩
  ·split
   ·exact List.pairwise_singleton _ _
   ·exact .nil
  ·split at hb
   ·obtain ⟨i,h1,_,rfl⟩:=pz.1 ha;rw [ZL.1 hb];rintro ⟨e,_⟩;dsimp only at e;omega
   ·cases hb
theorem zU {l:List Tk} (hn:(l.map Tk.de).Nodup) {i j:Nat} (hi:i<l.length) (hj:j<l.length) (hne:i≠j):l[i].de≠l[j].de:=by
 intro e;have h:=Zad.1 hn;have hl:(l.map Tk.de).length=l.length:=Zd _;rcases Zaq i j with c | c | c
 ·exact h i j (by omega) (by omega) c (by simpa using e)
 ·exact hne c
 ·exact h j i (by omega) (by omega) c (by simpa using e.symm)
theorem A9 {r:Ro} {l:List Tk} (hn:(l.map Tk.de).Nodup):∀ i,i<=l.length->(wX r l i).Pairwise JbD
 | 0,_=>.nil
 | i + 1, hi => by
  rw [wX,List.pairwise_append];refine ⟨A9 hn i (by omega),Ba r _ _,fun a ha b hb=>?_⟩;rw [Zk,Zc (show i<l.length by omega),Zaj] at hb;obtain ⟨m,hm,k,_,_,rfl⟩:=(py (by omega)).1 ha;obtain ⟨k',_,_,rfl⟩:=pz.1 hb;rintro ⟨_,e⟩;exact zU hn (show i<l.length by omega) (show m<l.length by omega) (by omega) e
theorem kX {t:Tk}:lH r t k=true↔t.at k≠⟨#[]⟩/\t.at k≠j4 r (k:Nat) t.de:=by
 unfold lH;simp
theorem kT {t:Tk}:mr r t k=true↔t.at k≠⟨#[]⟩/\t.at k≠j4 r (k:Nat) t.de/\t.at k≠dash:=by
 unfold mr;rw [Zm,kX];simp [and_assoc]
theorem Tk.at_mem {t:Tk} (h:k<t.so.length):t.at k∈t.so:=by
 unfold Tk.at
 rw [Zk,Zc h];exact Zj h
def nO (r:Ro) (l:List Tk):List Po:=vR (cE r) (iL r l l.length)
def Wi (r:Ro) (l:List Tk) (v:Int) (y:ByteArray):Prop:=∃ t∈l,∃ i,i<t.so.length/\lH r t i=true/\v=(i:Nat)/\y=t.de
theorem pP (h:rQ r) {l:List Tk} (hl:IB r l):jh r (nO r l)/\(∀ v y,y∈cE r->¬ Wi r l v y->eD (nO r l) v y=eD r.po v y/\qy (nO r l) v (cK r) y=qy r.po v (cK r) y)/\∀ v y,Wi r l v y->eD (nO r l) v y=none:=by
 obtain ⟨f,hf,e⟩:=F5 (cE r) (iL r l l.length);have hg:∀ p,(!M7 r l l.length p)=true↔¬ Wi r l p.lv p.ou:=fun p=>by
  rw [Zbb,<- Zap];exact not_congr Q4
 unfold nO;rw [e,je] at *;obtain ⟨k1,k2,k3⟩:=Q0 (g:=fun p=>!M7 r l l.length p) (f:=f) h.wJ h.val (fun p hp ht=>(hg p).2 fun ⟨t,htl,i,_,_,_,e5⟩=>h.wJ.dt _ (hl.de t htl) (e5 ▸ ht)) hf.sw.de hf.sw.up hf.us;refine ⟨k1,fun v y hy hd=>k2 v y hy fun p _ e1 e2=>(hg p).2 (by rw [e1,e2];exact hd),fun v y hd=>k3 v y fun p _ e1 e2=>?_⟩;have:¬ (!M7 r l l.length p)=true:=fun q=>(hg p).1 q (by rw [e1,e2];exact hd)
 exact Zap _ ▸ this
theorem vz (h:rQ r) {l:List Tk} (hl:IB r l) {t:Tk} (ht:t∈l) {k:Nat} (hk:k<t.so.length) (hj:mr r t k=true):(0<=((k:Nat):Int)/\((k:Nat):Int)<r.lv)/\t.at k∈cK r/\t.de∈cE r/\eD (nO r l) (k:Nat) t.de=none:=by
 have h1:=hl.lv t ht;obtain ⟨j1,j2,j3⟩:=kT.1 hj;refine ⟨by omega,?_,hl.de t ht,(pP h hl).2.2 _ _ ⟨t,ht,k,hk,kX.2 ⟨j1,j2⟩,I,I⟩⟩;rcases hl.so t ht _ (Tk.at_mem hk) with e | e | e
 ·exact absurd e j1
 ·exact absurd e j3
 ·exact e
theorem LK (h:rQ r) {l:List Tk} (hl:IB r l) {i:Nat} (hi:i<l.length) {k:Nat} (hk:k<=l[i].so.length) {q0 q:List Po} (h0:ib r l (nO r l) i=some q0) (h1:mo r l[i] k q0=some q) :
  jh r q/\∀ m,k<=m->m<l[i].so.length->lH r l[i] m=true->eD q (m:Nat) l[i].de=none:=by
 have mZ:=hl.de l[i] (Zj hi);rw [tB hl.de _ i (by omega)] at h0;rw [tD mZ] at h1;have h2:tA r (jW r) (nO r l) (wX r l i++wY r l[i] k)=some q:=by rw [mG,h0];exact h1
 have zK:∀ j∈wX r l i++wY r l[i] k,∃ m,∃ hm:m<l.length,∃ n,n<l[m].so.length/\mr r l[m] n=true/\j=⟨(n:Nat),l[m].at n,l[m].de⟩/\(m=i->n<k):=by
  intro j hj;rcases Zz.1 hj with hj | hj
  ·obtain ⟨m,hm,n,e1,e2,e3⟩:=(py (by omega)).1 hj;exact ⟨m,by omega,n,e1,e2,e3,fun e=>by omega⟩
  ·obtain ⟨n,e1,e2,e3⟩:=pz.1 hj;exact ⟨i,hi,n,by omega,e2,e3,fun _=>e1⟩
 obtain ⟨k1,_,k3⟩:=AL h.wJ h.nd (R1 r) _ _ _ (pP h hl).1 (fun j hj=>by
   obtain ⟨m,hm,n,e1,e2,rfl,_⟩:=zK j hj;exact vz h hl (Zj hm) e1 e2) (List.pairwise_append.2 ⟨A9 hl.nd i (by omega),Ba r _ _,fun a ha b hb=>by
   obtain ⟨m,hm,n,_,_,rfl⟩:=(py (by omega)).1 ha;obtain ⟨n',_,_,rfl⟩:=pz.1 hb;rintro ⟨_,e⟩;exact zU hl.nd hi (show m<l.length by omega) (by omega) e⟩) h2
 refine ⟨k1,fun m aT ni yB=>?_⟩;rw [(k3 (m:Nat) l[i].de mZ fun j hj ⟨e1,e2⟩=>by
  obtain ⟨x,hx,n,_,_,rfl,e5⟩:=zK j hj;by_cases c:x=i
  ·subst c;have:=e5 I;dsimp only at e1;omega
  ·exact zU hl.nd hx hi c e2.symm).2]
 exact (pP h hl).2.2 _ _ ⟨l[i],Zj hi,m,ni,yB,I,I⟩
theorem TD (h:rQ r) {l:List Tk} (hl:IB r l) {q:List Po} (h0:ib r l (nO r l) l.length=some q) :
  jh r q/\(∀ v y,y∈cE r->¬ Wi r l v y->qy q v (cK r) y=qy r.po v (cK r) y) /\
  ∀ t∈l,∀ k,k<t.so.length->lH r t k=true->qy q (k:Nat) (cK r) t.de=if t.at k=dash then ⟨#[]⟩ else t.at k:=by
 rw [tB hl.de _ _ (Zy _)] at h0;have zK:∀ j∈wX r l l.length,∃ t∈l,∃ n,n<t.so.length/\mr r t n=true/\j=⟨(n:Nat),t.at n,t.de⟩:=by
  intro j hj;obtain ⟨m,hm,n,e1,e2,e3⟩:=(py (Zy _)).1 hj;exact ⟨_,Zj hm,n,e1,e2,e3⟩
 obtain ⟨k1,k2,k3⟩:=AL h.wJ h.nd (R1 r) _ _ _ (pP h hl).1 (fun j hj=>by
   obtain ⟨t,ht,n,e1,e2,rfl⟩:=zK j hj;exact vz h hl ht e1 e2) (A9 hl.nd _ (Zy _)) h0
 have hDr:∀ t∈l,∀ n,n<t.so.length->mr r t n=true->Wi r l (n:Nat) t.de:=fun t ht n hn hj=>by
  obtain ⟨j1,j2,_⟩:=kT.1 hj;exact ⟨t,ht,n,hn,kX.2 ⟨j1,j2⟩,I,I⟩
 refine ⟨k1,fun v y hy hd=>?_,fun t ht k hk yB=>?_⟩
 ·rw [(k3 v y hy fun j hj ⟨e1,e2⟩=>by
   obtain ⟨t,ht,n,a1,a2,rfl⟩:=zK j hj;exact hd (by rw [e1,e2];exact hDr t ht n a1 a2)).1]
  exact ((pP h hl).2.1 v y hy hd).2
 ·by_cases X7:t.at k=dash
  ·rw [if_pos X7,(k3 (k:Nat) t.de (hl.de t ht) fun j hj ⟨e1,e2⟩=>by
    obtain ⟨t',HY,n,a1,a2,rfl⟩:=zK j hj;dsimp only at e1 e2;obtain ⟨x,hx,rfl⟩:=Zw ht;obtain ⟨x',Uh,rfl⟩:=Zw HY;have e:x=x':=Classical.byContradiction fun c=>zU hl.nd hx Uh c e2
    subst e;have e3:k=n:=by omega
    subst e3;exact (kT.1 a2).2.2 X7).1]
   exact Ix (fun hs=>h.wJ.sd _ hs (hl.de t ht)) ((pP h hl).2.2 _ _ ⟨t,ht,k,hk,yB,I,I⟩)
  ·rw [if_neg X7];obtain ⟨d1,d2⟩:=kX.1 yB;have hj:mr r t k=true:=kT.2 ⟨d1,d2,X7⟩;obtain ⟨x,hx,rfl⟩:=Zw ht;exact k2 ⟨(k:Nat),l[x].at k,l[x].de⟩ ((py (Zy _)).2 ⟨x,hx,k,hk,hj,I⟩)
def xU (r:Ro) (v:Int):Nat->List Po->List Po
 | 0,po=>po
 | i+1,po=>if nf (xU r v i po) v (dh r i) then xU r v i po else (xU r v i po).filter fun x=>!rJ v (dh r i) x
def B7 (r:Ro):Nat->List Po->List Po
 | 0,po=>po
 | k+1,po=>xU r (k:Nat) r.ti.length (B7 r k po)
def yh (r:Ro):Nat->List Po->List Po
 | 0,po=>po
 | n+1,po=>B7 r r.lv.toNat (yh r n po)
theorem u9 {o:ByteArray}:nf po v o=true↔∃ p∈po,p.lv=v/\p.ip=o:=by
 unfold nf yr;rw [ZR];exact ⟨fun ⟨p,hp,h⟩=>⟨p,hp,by simpa using h⟩,fun ⟨p,hp,h⟩=>⟨p,hp,by simpa using h⟩⟩
theorem Al :∀ {a b:Nat},a<=b->∀ p∈xU r v b po,p∈xU r v a po:=by
 intro a b h
 induction h with
 | refl=>exact fun _ hp=>hp
 | step _ ih =>
  intro p hp;rw [xU] at hp;split at hp
  ·exact ih p hp
  ·exact ih p (Zr.1 hp).1
theorem Aj :∀ {a b:Nat},a<=b->∀ p∈B7 r b po,p∈B7 r a po:=by
 intro a b h
 induction h with
 | refl=>exact fun _ hp=>hp
 | step _ ih=>exact fun p hp=>ih p (Al (Zi _) p hp)
theorem OG :∀ {a b:Nat},a<=b->∀ p∈yh r b po,p∈yh r a po:=by
 intro a b h
 induction h with
 | refl=>exact fun _ hp=>hp
 | step _ ih=>exact fun p hp=>ih p (Aj (Zi _) p hp)
def Y7 (D:List ByteArray) (po S:List Po):Prop:=∃ f,Sw po D f/\S=po.filter f
theorem FU {r:Ro} (hn:oE r) {v:Int} {po:List Po}:∀ (m:Nat) {S:List Po},m<=r.ti.length->Y7 (cE r) po S->Y7 (cE r) po (xU r v m S)
 | 0,_,_,h=>h
 | m + 1, S, hm, h => by
  obtain ⟨f,h1,h2⟩:=FU hn m (S:=S) (by omega) h;rw [xU];split
  ·exact ⟨f,h1,h2⟩
  ·rename_i hu;rw [h2,pM];refine ⟨_,h1.step (v:=v) (o:=dh r m) (fun hd=>hn.dt _ hd (mD (by omega))) (fun q hq hf e=>hu ?_),I⟩;rw [h2];exact u9.2 ⟨q,Zr.2 ⟨hq,hf⟩,e⟩
theorem FT {r:Ro} (hn:oE r) {po:List Po}:∀ (m:Nat) {S:List Po},Y7 (cE r) po S->Y7 (cE r) po (B7 r m S)
 | 0,_,h=>h
 | m+1,_,h=>FU hn _ (Zy _) (FT hn m h)
theorem FW {r:Ro} (hn:oE r) {po:List Po}:∀ (m:Nat),Y7 (cE r) po (yh r m po)
 | 0=>⟨_,Sw.start _ _,(Zaz.2 fun _ _=>rfl).symm⟩
 | m+1=>FT hn _ (FW hn m)
theorem Kb (hi:i<m) {p:Po} (hp:p∈xU r v m S) (hv:p.lv=v) (ho:p.ou=dh r i):∃ q∈S,q.lv=p.lv/\q.ip=p.ou:=by
 have mu:=Al (show i+1<=m from hi) p hp;rw [xU] at mu;split at mu
 ·rename_i hu;obtain ⟨q,hq,e1,e2⟩:=u9.1 hu;exact ⟨q,Al (Zi _) q hq,by rw [e1,hv],by rw [e2,ho]⟩
 ·have:=(Zr.1 mu).2;unfold rJ at this;simp [hv,ho] at this
theorem J8 (hp:p∈B7 r m S) (hv:0<=p.lv/\p.lv<(m:Nat)) {i:Nat} (hi:i<r.ti.length) (ho:p.ou=dh r i):∃ q∈S,q.lv=p.lv/\q.ip=p.ou:=by
 obtain ⟨k,hk⟩:∃ k:Nat,p.lv=(k:Nat):=⟨p.lv.toNat,by omega⟩;have mu:=Aj (show k+1<=m by omega) p hp;rw [B7] at mu;obtain ⟨q,hq,e⟩:=Kb hi mu hk ho;exact ⟨q,Aj (Zi _) q hq,e⟩
inductive S3 (po:List Po) (T:List ByteArray):Nat->Po->Prop
 | zero {p:Po}:p∈po->p.ou∈T->S3 po T 0 p
 | next {n:Nat} {p q:Po}:p∈po->p.ou∈T->q.lv=p.lv->q.ip=p.ou->S3 po T n q->S3 po T (n+1) p
theorem S3.mem {n:Nat} (h:S3 po T n p):p∈po:=by cases h <;> assumption
theorem S3.it (h1:th po) {n:Nat} {p:Po} (h:S3 po T n p):∃ o∈T,mM po p.lv n o=some p.ou:=by
 induction h with
 | zero _ ht=>exact ⟨_,ht,rfl⟩
 | next hp ht hv hi hq ih =>
  obtain ⟨o,ho,e⟩:=ih;refine ⟨o,ho,?_⟩;rw [<- hv,wZ e,lG h1 hq.mem,hi]
theorem FY {r:Ro} {po:List Po} (yw:∀ p∈po,p.ou∈cE r\/p.ou∈cQ r) (tO:∀ p∈po,0<=p.lv/\p.lv<r.lv):∀ (n:Nat) (p:Po),p∈yh r n po->¬ Nd po (cE r) p->S3 po (cQ r) n p
 | 0, p, hp, hn => by
  rcases yw p hp with h | h
  ·exact absurd (Nd.de hp h) hn
  ·exact .zero hp h
 | n + 1, p, hp, hn => by
  have oQ:=OG (Zi _) p hp;rcases yw p oQ with h | h
  ·exact absurd (Nd.de oQ h) hn
  ·obtain ⟨i,hi,e⟩:=Zw h;have yz:i<r.ti.length:=by unfold cQ at hi;rwa [Zd] at hi
   rw [qg yz] at e;rw [yh] at hp;have hl:=tO p oQ;obtain ⟨q,hq,e1,e2⟩:=J8 hp (by omega) yz e.symm;exact .next oQ h e1 e2 (FY yw tO n q hq fun hN=>hn (.up oQ e1 e2 hN))
theorem OF (hn:oE r) {po:List Po} (h:Oq r po) (tO:∀ p∈po,0<=p.lv/\p.lv<r.lv):yh r 6 po=vR (cE r) po:=by
 obtain ⟨f,hf,e⟩:=FW hn (po:=po) 6;rw [e];refine h.tid hn ⟨hf,fun p hp B0=>?_⟩;have hN:Nd po (cE r) p:=by
  apply Classical.byContradiction;intro hc;have QC:=FY h.out tO 6 p (by rw [e];exact Zr.2 ⟨hp,B0⟩) hc;obtain ⟨o,ho,e1⟩:=QC.it h.one;have e2:mM po p.lv 7 o=some p.ip:=by rw [wZ e1,lG h.one hp]
  have h6:=hn.VQ;exact h.D9 p.lv (Fp (jh.tie hn h.out h.xX) (.inr ⟨ho,ij (b:=7) (by omega) (by rw [e2];rfl)⟩))
 cases hN with
 | de _ hd=>exact .inl hd
 | @up _ q _ hv hi hq =>
  have:=RU (S:=po.filter f) (fun q hq hd=>Zr.2 ⟨hq,hf.de q hq hd⟩) (fun q hq x hx hv hi=>Zr.2 ⟨hq,hf.up q hq x (Zr.1 hx).1 (Zr.1 hx).2 hv hi⟩) hq
  obtain ⟨a,b⟩:=Zr.1 this;exact .inr ⟨q,a,b,hv,hi⟩
end Go.Proofs.A1
