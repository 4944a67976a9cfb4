/- Parts of the proof: KO KP KQ KR KS KT KU KW KX KYq P5p P5q P5r P5t. -/
import Derived.Test.YteonnodafmegaaaGreatDoorPM08
import Derived.Test.YteonnodafmegaaaGreatDoorPM04
import Derived.Test.YteonnodafmegaaaGreatDoorPM03
import Derived.Shelf.Slices.In.SortNone
import Derived.Test.YteonnodafmegaaaGreatDoorPM02
import Derived.Test.YteonnodafmegaaaGreatDoorPM05
import Derived.Test.YteonnodafmegaaaGreatDoorPM07
import Derived.Test.YteonnodafmegaaaGreatDoorPM01
set_option linter.unusedSectionVars false
set_option linter.unusedVariables false
set_option linter.unusedSimpArgs false
namespace Go.Proofs.A1
open Go Go.SL Go.Shelf Go.RowKit
open Tryz
open Tryz renaming prog->T_
def rV (l:List Int):List Int:=l.mergeSort fun x y=>decide (x<=y)
theorem rU (l:List Int):(rV l).length=l.length:=List.length_mergeSort _
theorem Ki (l:List Int):List.Perm (rV l) l:=List.mergeSort_perm _ _
theorem Og (l:List Int):(rV l).Pairwise (·<=·):=by
 have:=List.pairwise_mergeSort (le:=fun x y:Int=>decide (x<=y)) (fun a b c h1 h2=>by simp at *;omega) (fun a b=>by simp;omega) l
 exact this.imp fun h=>by simpa using h
theorem KH {α:Type} [Inhabited α] {enc:α->Value} {w:World} {g n:Nat} {os:Array Obj} {cur:Array Value} {e:TypeId} {fr:Nat×Nat} (d:Array α) (hb:w.heap[g]? = some (.cells cur e fr)) :
  (Go.Sort.grow (Go.Sort.putRow enc (Go.Sort.ahead w n) g 0 d) os).heap[g]? = some (.cells (Go.Sort.putCells enc 0 d cur) e fr):=by
 have hg:g<w.heap.size:=(Z3.1 hb).1;rw [Go.Sort.heap_grow_old _ _ (by simpa using hg)];simp [Go.Sort.putRow,Go.Sort.mapBlock,Go.Sort.ahead,Zbn,hb,Go.Sort.onCells]
theorem Hs {α:Type} [Inhabited α] {enc:α->Value} {w:World} {g n:Nat} {os:Array Obj} (d:Array α):aI [g] w (Go.Sort.grow (Go.Sort.putRow enc (Go.Sort.ahead w n) g 0 d) os):=by
 refine ⟨I,I,I,Nat.le_add_right _ _,by simp,fun k hk hne=>?_⟩;rw [Go.Sort.heap_grow_old _ _ (by simpa using hk)];have:g≠k:=fun e=>hne (by rw [e];simp)
 simp [Go.Sort.putRow,Go.Sort.mapBlock,Go.Sort.ahead,Zbn,this]
theorem Kd {α:Type} [Inhabited α] {enc:α->Value} (cur:Array Value) (ts:List α) (h:ts.length<=cur.size):(Go.Sort.putCells enc 0 ts.toArray cur).toList.take ts.length=ts.map enc:=by
 apply Zat;intro j;by_cases hj:j<ts.length
 ·rw [List.getElem?_take_of_lt hj,ZaH];simp [Go.Sort.putCells,hj,show j<cur.size by omega]
 ·rw [List.getElem?_take_eq_none (by omega),Zal (by simp;omega)]
variable {L L':List Int} {i:Nat} {l:List Int} {m:Int} {r:Ro} {so:ByteArray} {v:Int} {w:World}
theorem ER {g:Nat} {cur:Array Value} {e:TypeId} (hb:w.heap[g]? = some (.cells cur e (0,0))) (ht:cur.toList.take l.length=l.map (Value.int .i64)):Go.Sort.Holds (Value.int .i64) w g 0 l.toArray:=by
 intro j hj;have pP:j<l.length:=by simpa using hj
 refine ⟨?_,by simp [World.frozen?,hb]⟩;have h1:(cur.toList.take l.length)[j]? = (l.map (Value.int .i64))[j]?:=by rw [ht]
 rw [List.getElem?_take_of_lt pP] at h1;simp only [World.cell?,hb,ZF];simp only [Option.isSome_none,ZaV,if_false];rw [ZaH] at h1;rw [h1];simp [pP]
theorem SE {v:Value} {n:Nat} {fp:List Nat} (hn:n=l.length) (hl:n<=1000000) (hs:cy (hp w) [row 3 1 v n (l.map (Value.int .i64))] fp) :
  a8 T_ 156 [v] w fp (fun _:Unit=>True) (fun _=>.tuple #[]) (fun _=>[row 3 1 v n ((rV l).map (Value.int .i64))]):=by
 obtain ⟨f1,f2,rfl,h1,h2⟩:=hs;obtain rfl:f2=[]:=h2;obtain ⟨rfl,hlen,h1⟩:=h1;rw [ZK];rcases h1 with ⟨rfl,h0⟩ | ⟨g,cap,cur,rfl,hg,kT,kg,pb,tI⟩
 ·have nX:l=[]:=Z5 (by omega);refine (Any.slices_Sort_int_none Tryz.Gf none 0 w).mono fun e w' ⟨he,hw⟩=>?_;subst hw;refine ⟨(),he,trivial,.refl _ _,[],Zao,⟨[],[],I,⟨I,?_,.inl ⟨I,h0⟩⟩,I⟩,by simp⟩;rw [Zd,rU];omega
 ·rw [Zan] at pb tI;have Nw:g<w.heap.size:=(Z3.1 hg).1;subst hn;refine (slices_Sort_int g 0 cap l w (ER hg tI) Nw (by omega)).mono fun e w' ⟨he,m,os,hw⟩=>?_;subst hw;refine ⟨(),he,trivial,Hs _,[g],by simp,⟨[g],[],I,⟨I,?_,.inr ⟨g,cap,_,I,KH _ hg,kT,kg,?_,?_⟩⟩,I⟩,by simp [Value.ownBlock]⟩
  ·rw [Zd,rU];omega
  ·simp [Go.Sort.putCells,pb]
  ·rw [Zan];have:=Kd (enc:=Value.int .i64) cur (rV l) (by rw [rU];omega);rw [rU] at this;exact this
def Mu (r:Ro) (v:Int) (so de:ByteArray):Int:=if rb r v so de≠0 then rb r v so de else if Nk r v so (ll r de) then 24 else 0
def H3 (r:Ro) (v:Int) (so de:ByteArray):List Int:=if rb r v so de≠0 then [] else if Nk r v so (ll r de) then [] else xw r v so
theorem VR (h:i<L.length) (cur:List Value):(L.map (Value.int .i64)++cur)[i*1]? = some (.q L[i]):=by
 rw [Zan,Zx (by rw [Zd];exact h),ZG,Zc h];rfl
structure xP (r:Ro) (v:Int) (so:ByteArray) (L:List Int) (m:Int) (L':List Int) (k:Nat):Prop where
 pre:L <+: L'
 nd:L'.Nodup
 rc:∀ x∈L',(dJ r r.po v so).Rc x
 dn:∀ j,j<k->∀ t,(fY r v m r.ti.length)[j]? = some t->(gZ r t).to∈L'
theorem xP.B2 (dP:rS r) {v:Int} {so:ByteArray} (hs:so∈cN r) {L L':List Int} {m:Int} {k:Nat} (h:xP r v so L m L' k):L'.length<=4:=by
 have hl:=dP.lim;refine Gi h.nd fun x hx=>?_;have:=wB dP hs (h.rc x hx);omega
theorem xP.stay {k t:Nat} (h:xP r v so L m L' k) (ht:(fY r v m r.ti.length)[k]? = some t) (hc:(gZ r t).to∈L'):xP r v so L m L' (k+1):=by
 refine ⟨h.pre,h.nd,h.rc,fun j hj t' HH=>?_⟩;by_cases e:j=k
 ·subst e;rw [ht] at HH;cases HH;exact hc
 ·exact h.dn j (by omega) t' HH
theorem xP.add {k t:Nat} (h:xP r v so L m L' k) (hm:m∈L) (ht:(fY r v m r.ti.length)[k]? = some t) (hc:¬ (gZ r t).to∈L'):xP r v so L m (L'++[(gZ r t).to]) (k+1):=by
 have iP:=Z2 ht;unfold fY at iP;rw [Zu,ZU,rA v so,Zn,decide_eq_true_eq] at iP;have hrc:(dJ r r.po v so).Rc (gZ r t).to:=Wn.Rc.fe (N:=dJ r r.po v so) iP.1 iP.2.2 (by rw [iP.2.1];exact h.rc m (h.pre.subset hm));have h2:xP r v so L m (L'++[(gZ r t).to]) k:=by
  refine ⟨h.pre.trans (ZaW _ _),?_,fun x hx=>?_,fun j hj t' HH=>ZH _ (h.dn j hj t' HH)⟩
  ·rw [ZI];refine ⟨h.nd,by simp,fun a ha b hb e=>?_⟩;rw [ZD] at hb;subst hb;subst e;exact hc ha
  ·rcases Zz.1 hx with hx | hx
   ·exact h.rc x hx
   ·rw [ZD.1 hx];exact hrc
 exact h2.stay ht (by simp)
theorem xQ.next (h:xQ r v so L i) (hi:L[i]? = some m) (hJ:xP r v so L m L' (fY r v m r.ti.length).length):xQ r v so L' (i+1)/\i+1<=L'.length:=by
 have kr:=(Zl.1 hi).1;have w9:=hJ.pre.length_le;refine ⟨⟨hJ.nd,hJ.rc,fun x hx=>hJ.pre.subset (h.rt x hx),fun j x hj hx t ht hf=>?_⟩,by omega⟩;have Tx:L[j]? = some x:=by
  rw [<- hx];obtain ⟨q,rfl⟩:=hJ.pre;rw [Zx (by omega)]
 by_cases e:j=i
 ·subst e;rw [hi] at Tx;cases Tx;have hm:t∈fY r v m r.ti.length:=by unfold fY;exact Zu.2 ⟨ZU.2 ht,hf⟩
  obtain ⟨q,hq,e⟩:=ZA hm;exact hJ.dn q hq t (by rw [Zc hq,e])
 ·exact hJ.pre.subset (h.dn j x (by omega) Tx t ht hf)
set_option maxHeartbeats 2000000 in
theorem Yf {s d t p:Value} (v:Int) (so de:ByteArray) {w:World} (h:RR w r s d t p) (c6:mX r):a8 T_ 36 [RA r s d t p,.q v,.string so,.string de] w [] (fun _:Value=>True) (fun x=>.tuple #[x,.q (Mu r v so de)]) (fun x=>[row 3 1 x (H3 r v so de).length ((H3 r v so de).map (Value.int .i64))]):=by
 obtain ⟨h1,h2,h3,h4⟩:=h.one;have kz:=h.de;obtain ⟨a3,tP,b3,o3,rfl,mU,gB,rP,pb⟩:=kz;rw [bY] at *;unfold maxLen at gB;unfold RA;refine aS func36 I I ?_
 (refine Jr<|Jy I I fun _ _=>Ja I<|Ja I<|Jn<|Jq<|Jr<|ab (bU .here) I<|Jv I<|Jv I<|Jv I ?_)
 rename_i b4 sH;refine ah mI I (fun w' aB=>rF (s:=s) (d:=.slice a3 r.de.length tP) (t:=t) (p:=p) v so de (h.keeps aB.keeps) c6) ?_
 (refine Ja I<|Ji<|Jv I<|JD I<|Jn<|gL I (fun aA=>?_) fun aA=>?_;refine Jr<|Jv I<|Ja I<|Ja I<|Jn<|Ju ?_;rotate_left;refine Jk<|Jr<|ab (bU .here) I<|Jv I<|Jv I ?_;rotate_right)
 ·have e1:H3 r v so de=[]:=if_pos aA;have e2:Mu r v so de=rb r v so de:=if_pos aA;rw [e1,e2];refine aJ 3 1 ?_
  with_reducible first|apply aO|apply aP
  case he=>exact gD I I I
  case hR=>
   intro w' aB;exact aC (.z) trivial (by exact .h1 .nil) aB I
 have e0:rb r v so de=0:=Zq.1 aA;obtain ⟨dP,hv,rp,gl⟩:=z6 e0;have e1:H3 r v so de=if Nk r v so (ll r de) then [] else xw r v so:=if_neg aA
 have e2:Mu r v so de=if Nk r v so (ll r de) then 24 else 0:=if_neg aA
 clear aA;have ht6:=dP.len.2.2;obtain ⟨j0,rO⟩:∃ i:Nat,bB (cu r) de=(i:Nat):=⟨(bB (cu r) de).toNat,by have:=dK gl;omega⟩;have Bf:j0<r.de.length:=by
  obtain ⟨hl,_⟩:=fk (l:=cu r) (s:=de) (by omega);rw [rO,ZE] at hl;unfold cu at hl;rwa [Zd] at hl
 have W7:ll r de=(r.de[j0]).mx:=by unfold ll;rw [rO,ZE,Zk,Zc Bf];rfl
 have uP:∀ w',aI [] w w'->an T_ 155 [.agg #[.q r.lv,.q r.ma,s,.slice a3 r.de.length tP,t,p],.string de] w' (.q (j0:Nat)):=fun w' hk=>rO ▸ gH de (h.keeps hk)
 have yz:=rP (ij Bf);have pS:=(pb j0 _ (fM Bf)).2;unfold De.cells at pS;have Bj:=pS 1 _ I;rw [e1,e2];refine JN dU I (fun w1 aT=>FZ (s:=s) (d:=.slice a3 r.de.length tP) (t:=t) (p:=p) v so (h.keeps aT.keeps) (by omega) rp) ?_;intro rv _;dsimp only [id_eq,Zb,Za];refine aK (by exact .here) fun ra rc_ e=>?_;subst e;have hC:=xQ.begin (v:=v) dP rp;generalize im r v so r.ti.length=L0 at hC ⊢
 (refine Jz I I fun _ _=>ak (.of I) (.of I) .here I I (dE I) (br I) ai<|Jn<|Jq<|Jr<|Ja I<|Jn<|J0 ?_)
 rename_i R1 abW
 refine FK (ι:=Nat×Value×List Int) (fun x=>xQ r v so x.2.2 x.1/\x.1<=x.2.2.length) (fun x=>[(12,.q (x.1:Nat)),(11,.p R1),(4,.p b4),(1,.q v),(2,.string so),(3,.string de)])
  (fun x=>[bu R1 (.cells #[x.2.1] 49 (0,0)),row 3 1 x.2.1 x.2.2.length (x.2.2.map (Value.int .i64)),JP b4 r s (.slice a3 r.de.length tP) t p]) (fun x=>4-x.1) ?_ ?_
 ·apply yT (0,.slice ra L0.length rc_,L0) ⟨hC,Zi _⟩
  case hs1=>exact bT
  case ht=>
   exact .h3 .nil
 rintro ⟨i,ov,L⟩ ⟨hC,hiL⟩ D;dsimp only at hC hiL ⊢;have h4L:=hC.B2 dP rp;have Dr:L.length=L.length:=rfl;refine aK (by exact Take.there .here) fun oa oc e=>?_;subst e;by_cases aL:i<L.length
 ·refine Jq<|Jr<|Jv I<|JL I .here I<|JI I<|JA I<|Jn<|Jd I fun aA=>Jk<|Jq<|J0<|Jq ?_;refine cm (by exact Take.there .here) (by omega) fun g iv cur e oP Dd Da EU=>?_;cases e;have c1:=VR aL cur
  with_reducible refine cz 6 (by kernel_rfl) ?_
  (refine aq (bU bE) I ?_;refine fw I I ?_;refine aq (gn (.there .here)) I ?_;refine fw I I ?_;refine aq (ao (.of I) (.of I) I (by omega) aA aW) I ?_;refine aq (ag (.of I) (At.kB .here c1)) I ?_)
  with_reducible refine cC ?_
  refine ct (by exact .here) oP Dd Da EU ?_
  with_reducible apply jd
  case hr=>exact dU
  case hd=>rfl
  case ht=>exact bj.nil
  case hc=>
   intro w1 fp aT _ hs1;obtain rfl:fp=[]:=hs1;exact tE (s:=s) (d:=.slice a3 r.de.length tP) (t:=t) (p:=p) v L[i] (h.keeps aT.keeps)
  intro y _;dsimp only [id_eq,Zb,Za];refine Jn<|J0 ?_;have Dk:L[i]? = some L[i]:=Zc aL;have iP:L[i]∈L:=Zj aL;generalize L[i]=m at Dk iP ⊢
  refine jO (ps:=[40,41]) (f:=240) (first:=[]) (cap:=[.pointer (some ⟨y.1,0,none⟩),.pointer (some ⟨y.2.1,0,none⟩),.pointer (some ⟨y.2.2,0,none⟩)]) (ι:=Value×List Int) (κ:=Empty)
   (rst:=[JP b4 r s (.slice a3 r.de.length tP) t p]) ?hg
   [JP y.1 r s (.slice a3 r.de.length tP) t p,bu y.2.1 (.cells #[.q m] 3 (0,0)),bu y.2.2 (.cells #[.q v] 3 (0,0))] (Np r v m) ?hit
   (fun k x=>xP r v so L m x.2 k)
   (fun x=>[bu R1 (.cells #[x.1] 49 (0,0)),row 3 1 x.1 x.2.length (x.2.map (Value.int .i64))])
   (fun _=>False) (fun _=>[]) (fun _=>.ret) (.w g L.length oc,L) ⟨List.prefix_rfl,hC.nd,hC.rc,fun j hj=>absurd hj (ZV _)⟩ ?ht ?hlen ?hps ?round ?kn ?kj
  case hg=>exact Is.of I
  case hit=>intro w' aB;exact La v m h RO.nil (by omega)
  case ht=>
   dsimp only [Zb,Za];exact .cons c7 (.cons cI (.h3 .nil))
  case hlen=>intro vs pK;obtain ⟨x,_,rfl⟩:=Zw.1 pK;rfl
  case hps=>intro t ht;simp only [ZQ,Zo,or_false] at ht;rcases ht with rfl | rfl <;> exact ZaA rfl
  case kj=>intro y;cases y
  case kn=>
   rintro ⟨QZ,L2⟩ D2 hJ;dsimp only [Zb,Za] at hJ ⊢;rw [vr] at hJ;obtain ⟨hC2,LN⟩:=hC.next Dk hJ;refine Jj<|Jj<|Jt<|Jg<|Jv I<|JB I (by omega)<|Ja I<|Jn ?_;apply Ce (i+1,QZ,L2) ⟨hC2,LN⟩ (show 4-(i+1)<4-i by omega)
   case hs1=>exact bT
   case ht=>
    exact .h2 (.cons cI .nil)
  case round=>
   rintro l2 rc W2 XF k ⟨QZ,L2⟩ vs hsz hk hJ hB hF;dsimp only at hJ;obtain ⟨QN,Wp,rfl,kr,T3⟩:=EG hk;have adr:=hJ.B2 dP rp;have Dr:L2.length=L2.length:=rfl;have TY:(L2.map (Value.int .i64)).length=L2.length*1:=by rw [Zd,Zan]
   have LY:∀ (w':World) (QZ:Value),Rd w' QZ 1 (ints L2)->an T_ 154 [QZ,.q (gZ r QN).to] w' (.bool (L2.contains (gZ r QN).to)):=fun w' QZ hr=>mo _ hr
   dsimp only [Ti.cells,List.zip_cons_cons,List.zip_nil_right,nj,Zb,Za]
   (refine Jg<|Jz I I fun _ _=>ak (.of I) (.of I) .here I I (fc I I I) (br I) ai<|Jn ?_)
   with_reducible apply nA
   case ht=>exact Take.there .here
   refine aK (E:=3) (sz:=1) cI fun va vc e=>?_;subst e
   (refine J0<|Jr<|JL I bE I<|bD I I ae<|JL I (.there .here) I ?_)
   cases HQ:L2.contains (gZ r QN).to with
   | true =>
    have PQ:∀ (w':World),Rd w' (.slice va L2.length vc) 1 (ints L2)->an T_ 154 [.slice va L2.length vc,.q (gZ r QN).to] w' (.bool true):=fun w' hr=>HQ ▸ LY w' _ hr
    (refine ah bn I (fun w' aB=>(PQ w' (lJ aB cI Dr)))<|JH I<|Jn<|cd (.of I)<|Jw<|Jj ?_)
    apply mL (.slice va L2.length vc,L2)
    case ht=>exact .here
    case hx=>exact hJ.stay Wp (ZaI.1 HQ)
    case h2=>exact .cons (.there .here) (.cons (.there .here) .nil)
   | false =>
    have PQ:∀ (w':World),Rd w' (.slice va L2.length vc) 1 (ints L2)->an T_ 154 [.slice va L2.length vc,.q (gZ r QN).to] w' (.bool false):=fun w' hr=>HQ ▸ LY w' _ hr
    (refine ah bn I (fun w' aB=>(PQ w' (lJ aB cI Dr)))<|JH I<|Jn<|c5 (.of I)<|Jg<|JL I bE I<|bD I I ae<|JL I (.there .here) I<|bh (aD (.o I .nil) I I I I) I fun _ _=>?_)
    refine bA (.of I) (.of I) c7 .here ai (by rfl) (dE I) (by rfl) (by rfl) (by rfl) eC (by rfl) ?_;intro v';refine aK (by exact .here) fun a' c8 e=>?_;subst e
    (refine ak (.of I) (.of I) c7 I I (dE I) (br I) ai<|Jx<|Jj ?_)
    apply mL (.slice a' (L2.length+1) c8,L2++[(gZ r QN).to])
    case ht=>exact cI
    case hx=>exact hJ.add iP Wp (fun hm=>by rw [ZaI.2 hm] at HQ;cases HQ)
    case h2=>
     show bj _ [bu R1 (.cells #[.slice a' (L2.length+1) c8] 49 (0,0)),row 3 1 (.slice a' (L2.length+1) c8) (L2++[(gZ r QN).to]).length ((L2++[(gZ r QN).to]).map (Value.int .i64))] _;rw [Zg,Zy];exact .h2 .nil
 ·obtain rfl:i=L.length:=by omega
  have uA:=hC.done dP rp;have hcb:L.contains (ll r de)=Nk r v so (ll r de):=by rw [ZaS,ZaI,uA,KF]
  have PQ:∀ (w':World),Rd w' (.slice oa L.length oc) 1 (ints L)->an T_ 154 [.slice oa L.length oc,.q (r.de[j0]).mx] w' (.bool (Nk r v so (ll r de))):=fun w' hr=>by
   rw [<- hcb,W7];exact mo _ hr
  refine Jq<|Jr<|Jv I<|JL I .here I<|JI I<|JA I<|Jn<|Jc I fun aA=>Jp<|Jl<|Jo<|Jt<|Jq<|Jq ?_
  with_reducible refine cz 10 (by kernel_rfl) ?_
  (refine aq (gn .here) I<|jH I I ae<|aq (gn bE) I<|aq (bU bE) I<|fw I I<|cW bn I (fun w' aB=>(uP w' (Mem.keeps aB)))<|aq (ao (.of I) (.of I) yz (by omega) (by omega) aW) I<|jH I I ae<|aq (ag (.of I) (At.base Bj I)) I<|cW bn I (fun w' aB=>(PQ w' (lJ aB (.there .here) Dr))) ?_)
  with_reducible refine cC ?_
  cases hrb:Nk r v so (ll r de) with
  | true =>
   (refine Jn<|c5 (.of I)<|Jr<|Ja I<|Ja I<|Jn<|Ju ?_)
   refine aJ 3 1 ?_
   with_reducible first|apply aO|apply aP
   case he=>exact gD I I I
   case hR=>
    intro w' aB;exact aC (.z) trivial (by exact .h1 .nil) aB I
  | false =>
   (refine Jn<|cd (.of I)<|Jk<|Jr<|JL I .here I ?_)
   with_reducible apply eH (As:=[row 3 1 (.slice oa L.length oc) L.length (L.map (Value.int .i64))])
   case hr=>exact bJ
   case hd=>rfl
   case ht=>exact jv
   case hc=>
    intro w1 Bt aT uN hs1 Ds _;exact SE I (by omega) hs1
   intro _ _;have Px:rV L=xw r v so:=Mt dP rp hC.nd uA (Ki L) (Og L);have YK:(xw r v so).length=L.length:=by rw [<- Px,rU]
   rw [Px];dsimp only [id_eq,Zb,Za];refine Ji<|JL I (.there .here) I<|Ja I<|Ja I<|Jn<|Je ?_
   with_reducible first|apply aO|apply aP
   case he=>exact gD I I I
   case hR=>
    intro w' aB;exact aC (.slice oa L.length oc) trivial (show bj _ [row 3 1 (.slice oa L.length oc) (xw r v so).length ((xw r v so).map (Value.int .i64))] _ by rw [YK];exact .h1 .nil) aB I
end Go.Proofs.A1
namespace Go.Proofs.A1
open Go Go.SL
open Tryz
open Tryz renaming prog->T_
variable {L:List Int} {P:Program} {af:Array Edge} {b:Nat} {c:Cx} {cap:List Value} {cv:Value} {dst:Option Tmp} {f:FuncId} {first:List Value} {g:Option (Nat×Bool)} {hs:List bd} {k:Nat} {l:List (ByteArray×Value)} {lv:Value} {p:Int->Bool} {pos:String} {r:Ro} {sl:aN} {w:World} {x y:Operand}
theorem Lw {l:List Int} [bN T_ f] {w:World} (h:Rd w lv 1 (ints l)) (cV:∀ x∈l,∀ w',aI [] w w'->an T_ f (first++[.q x]++cap) w' (.bool (p x))) :
  an T_ 247 [lv,.func (.func f) first.toArray cap.toArray] w (.q (iN p l)):=by
 obtain ⟨a,cp,b,o,rfl,dC,ch,ha,hc⟩:=h;rw [dz] at *;unfold maxLen at ch;refine aj func247 I I ?_;refine Jr<|Ja I<|Jn<|Jq<|Jr<|Jv I<|JI I<|Jv I<|Jn<|J0 ?_;refine aV (fun k:Nat=>k<=l.length/\∀ i,i<k->(l[i]?.map p).getD false=false) (fun k=>[(8,.int .i64 k),(7,.int .i64 l.length),(0,.slice a l.length cp),(1,.func (.func f) first.toArray cap.toArray)]) (fun _=>[]) (fun k=>l.length-k) ?_ ?_
 ·apply aH 0 ⟨Zi _,fun i h=>by omega⟩
  case hs1=>exact bT
  case ht=>(try simp only [Ze,Zf,Za]);exact .nil
 rintro k ⟨hk,hf⟩;by_cases aL:k<l.length
 ·have cY:=ha (kc aL);have c0:w.cell? ⟨b,o+k*1,none⟩=some (.q l[k]):=(hc k _ (iV aL)).2 0 _ I;have iZ:=cV _ (Zj aL);have hps:(l[k]?.map p).getD false=p l[k]:=by simp [aL]
  (refine Jr<|JA I<|Jn<|Jq<|Jd I fun aA=>Jk<|Jq<|J0<|Jr<|Jv I<|Ja I<|Ji<|Jv I<|Jv I<|Jv I<|ab (gE cY aA) I<|ab (ag (.of I) (At.base c0 I)) I<|ah bJ I (fun w' aB=>(iZ w' (Mem.keeps aB)))<|Jn<|oK I (fun aA=>?_) fun aA=>?_;refine Jr<|Jv I<|Ja I<|Jn<|Je<|Jm<|Jh<|Jh<|Jm<|Jh<|JT ?_;rotate_left;refine Jw<|Jj<|Jt<|Jg<|JB I (by omega)<|Jv I<|Jn ?_;rotate_right)
  ·rw [gN hf aL aA]
  ·apply aG (k+1) ⟨by omega,fun i hi=>by
    by_cases e:i=k
    ·rw [e,hps];exact aA
    ·exact hf i (by omega)⟩ (by omega)
   case hs1=>exact bT
   case ht=>(try simp only [Ze,Zf,Za]);exact .nil
 ·obtain rfl:k=l.length:=by omega
  refine Jr<|JA I<|Jn<|Jq<|Jc I fun aA=>Jp<|Jl<|Jo<|Jt<|Jr<|Ja I<|Jn<|Je<|JT ?_;rw [fO hf]
theorem xj {l:List Int} [bN T_ f] {w:World} (h:Rd w lv 1 (ints l)) (cV:∀ x∈l,∀ w',aI [] w w'->an T_ f (first++[.q x]++cap) w' (.bool (p x))) :
  an T_ 161 [lv,.func (.func f) first.toArray cap.toArray] w (.bool (l.any p)):=by
 have iZ:∀ w',aI [] w w'->an T_ 247 [lv,.func (.func f) first.toArray cap.toArray] w' (.q (iN p l)):=fun w' hk=>
  Lw (h.keeps hk) fun x hx w2 fg=>cV x hx w2 (hk.trans fg)
 rw [<- lb];refine aj func161 I I ?_
 (refine Jr<|Ja I<|Ji<|Jv I<|Jv I<|ah bn I (fun w' aB=>(iZ w' (Mem.keeps aB)))<|JG I<|Ja I<|Jn<|Je<|JT ?_)
 rfl
theorem xy (x:Int) {b:Nat} {w:World} (h:Rd w cv 1 (ints L)) (f1:w.cell? ⟨b,0,none⟩=some cv) :
  an T_ 157 [.q x,.p b] w (.bool (L.contains x)):=by
 have h1:=Rd.one h;refine aj func157 I I ?_
 (refine Jr<|Ja I<|Ji<|ab (ag (.of I) (At.base f1 I)) I<|Jv I ?_)
 refine ah bn I (fun w' aB=>mo x (h.keeps aB.keeps)) ?_;refine Ja I<|Jn<|Je<|JT ?_
 rfl
theorem xx (x:Int) {b b2:Nat} {w:World} (h:Rd w cv 1 (ints L)) (f1:w.cell? ⟨b,0,none⟩=some cv) (f2:w.cell? ⟨b2,0,none⟩=some (.func (.func 157) #[] #[.p b])) :
  an T_ 158 [.q x,.p b2] w (.bool (!L.contains x)):=by
 refine aj func158 I I ?_
 (refine Jr<|Ja I<|Ji<|ab (ag (.of I) (At.base f2 I)) I<|Jv I ?_)
 refine ah bJ I (fun w' aB=>xy x (h.keeps aB.keeps) (eR f1 I (by simp) aB.keeps)) ?_;refine JH I<|Ja I<|Jn<|Je<|JT ?_
 rfl
def uj (r:Ro) (v:Int) (L:List Int) (x:Ti):Bool:=L.contains x.fr&&!L.contains x.to&&!gI r.po v x.nm
theorem UE {s d t p:Value} (v:Int) {cv:Value} {L:List Int} (x:Ti) {b b2 b3 b5 b6:Nat} {w:World} (hr:RR w r s d t p) (h:Rd w cv 1 (ints L)) (f1:w.cell? ⟨b,0,none⟩=some cv) (f2:w.cell? ⟨b2,0,none⟩=some (.func (.func 157) #[] #[.p b]))
  (f3:w.cell? ⟨b3,0,none⟩=some (.func (.func 158) #[] #[.p b2])) (hA:BR w b5 (RC r s d t p)) (f6:w.cell? ⟨b6,0,none⟩=some (.q v)) :
  an T_ 160 [.agg x.cells.toArray,.p b2,.p b3,.p b5,.p b6] w (.bool (uj r v L x)):=by
 have h1:=Rd.one hr.sr;have h2:=Rd.one hr.de;have h3:=Rd.one hr.ti;have h4:=Rd.one hr.po;have lg:∀ (j:Nat) (u:Value),[Value.int .i64 r.lv,.q r.ma,s,d,t,p][j]? = some u->w.cell? ⟨b5,0+j,none⟩=some u:=hA;unfold Ti.cells;refine aj func160 I I ?_
 (refine Jr<|Jy I I fun _ _=>Ja I<|Ji<|ab (ag (.of I) (At.base f2 I)) I<|bD I I ae<|JL I .here I ?_)
 cases kT:L.contains x.fr with
 | false =>
  have hB:uj r v L x=false:=by unfold uj;rw [kT];rfl
  rw [hB];refine ah bJ I (fun w' aB=>kT ▸ xy x.fr (h.keeps aB.keeps) (eR f1 I (by simp) aB.keeps)) ?_
  (refine Jv I<|aM I I (fun hg bH=>(ag (.of I) (At.base f3 I))) I<|aM I I (fun hg bH=>(ar (.of I) ae)) I<|aM I I (fun hg bH=>(ag (.bW bH I) (At.lit .here I))) I<|eG I I I I<|ab (di (.of I) (.of I) (.of I) I) I<|Jv I<|aM I I (fun hg bH=>(jC (.of I) (fo.base lg I) I)) I<|aM I I (fun hg bH=>(ag (.of I) (At.base f6 I))) I<|aM I I (fun hg bH=>(ar (.of I) ae)) I<|aM I I (fun hg bH=>(ag (.bW bH I) (At.lit .here I))) I<|eG I I I I<|aM I I (fun hg bH=>(fu (.bW bH I))) I<|ab (di (.of I) (.of I) (.of I) I) I<|Ja I<|Jn<|Je<|JT ?_)
  rfl
 | true =>
  have hB:uj r v L x=(!L.contains x.to&&!gI r.po v x.nm):=by unfold uj;rw [kT];rfl
  rw [hB];refine ah bJ I (fun w' aB=>kT ▸ xy x.fr (h.keeps aB.keeps) (eR f1 I (by simp) aB.keeps)) ?_
  (refine Jv I<|JK I I<|ab (ag (.of I) (At.base f3 I)) I<|JK I I<|bD I I ae<|JK I I<|JL I .here I<|JK I I ?_)
  cases kg:L.contains x.to with
  | true =>
   with_reducible apply ah
   case hr=>exact bJ
   case hd=>rfl
   case hc=>
    intro w' aB;have q:=xx x.to (h.keeps aB.keeps) (eR f1 I (by simp) aB.keeps) (eR f2 I (by simp) aB.keeps);rw [kg] at q;exact q
   (refine ab (di (.of I) (.of I) (.of I) I) I<|Jv I<|aM I I (fun hg bH=>(jC (.of I) (fo.base lg I) I)) I<|aM I I (fun hg bH=>(ag (.of I) (At.base f6 I))) I<|aM I I (fun hg bH=>(ar (.of I) ae)) I<|aM I I (fun hg bH=>(ag (.bW bH I) (At.lit .here I))) I<|eG I I I I<|aM I I (fun hg bH=>(fu (.bW bH I))) I<|ab (di (.of I) (.of I) (.of I) I) I<|Ja I<|Jn<|Je<|JT ?_)
   rfl
  | false =>
   with_reducible apply ah
   case hr=>exact bJ
   case hd=>rfl
   case hc=>
    intro w' aB;have q:=xx x.to (h.keeps aB.keeps) (eR f1 I (by simp) aB.keeps) (eR f2 I (by simp) aB.keeps);rw [kg] at q;exact q
   (refine ab (fy (.of I) (.of I) (.of I) I) I<|Jv I<|JK I I<|ab (ja (fo.base lg I)) I<|JK I I<|ab (ag (.of I) (At.base f6 I)) I<|JK I I<|bD I I ae<|JK I I<|JL I .here I<|JK I I ?_)
   cases hb:gI r.po v x.nm with
   | true =>
    with_reducible apply ah
    case hr=>exact dU
    case hd=>rfl
    case hc=>
     intro w' aB;have q:=rI v x.nm (hr.keeps aB.keeps);rw [hb] at q;exact q
    (refine JK I I<|JH I<|ab (di (.of I) (.of I) (.of I) I) I<|Ja I<|Jn<|Je<|JT ?_)
    rfl
   | false =>
    with_reducible apply ah
    case hr=>exact dU
    case hd=>rfl
    case hc=>
     intro w' aB;have q:=rI v x.nm (hr.keeps aB.keeps);rw [hb] at q;exact q
    (refine JK I I<|JH I<|ab (fy (.of I) (.of I) (.of I) I) I<|Ja I<|Jn<|Je<|JT ?_)
    rfl
theorem ba {α:Type} {l:List Oper} {i:Nat} {v:α}:oT l i (fun _=>v):=fun _ _ _=>rfl
def C6 (L:List Int) (k:Nat):Int:=if k=0 then -1 else L.getD (k-1) 0
theorem EJ (h:k<L.length):C6 L (k+1)=L[k]:=by
 unfold C6;rw [if_neg (by omega),Zay,Zk,Zc h];rfl
def Vw (r:Ro) (L:List Int) (k:Nat):Int:=(L[k]?.map fun x=>aY [fL r x,bL (decide (x<=C6 L k)) 11]).getD 0
theorem UF (h:k<L.length):Vw r L k=aY [fL r L[k],bL (decide (L[k]<=C6 L k)) 11]:=by
 unfold Vw;rw [Zc h];rfl
def Y5 (r:Ro) (v:Int) (so de:ByteArray) (L:List Int):Int:=aY [rb r v so de,bL (decide ((4:Int)<(L.length:Nat))) 5]
def Vu (r:Ro) (L:List Int):Int:=kA (Vw r L) L.length
def Vt (r:Ro) (v:Int) (so de:ByteArray) (L:List Int):Bool:=r.ti.any (uj r v L)||(im r v so r.ti.length).any (fun x=>!L.contains x)||L.contains (ll r de)
def Y4 (r:Ro) (v:Int) (so de:ByteArray) (L:List Int):Int:=if Y5 r v so de L≠0 then Y5 r v so de L else if Vu r L≠0 then Vu r L else bL (Vt r v so de L) 19
set_option maxHeartbeats 2000000 in
theorem Ft {s d t p cv:Value} (v:Int) (so de:ByteArray) {L:List Int} {w:World} (h:RR w r s d t p) (c6:mX r) (hw:Rd w cv 1 (ints L)) :
  an T_ 37 [RA r s d t p,.q v,.string so,.string de,cv] w (.q (Y4 r v so de L)):=by
 obtain ⟨h1,h2,h3,h4⟩:=h.one;have DX:=hw;obtain ⟨aw,cw,bw,ow,rfl,Rw,Dg,Xi,LW⟩:=hw;rw [dz] at *;unfold maxLen at Dg;have hcw:∀ w',aI [] w w'->an T_ 151 [.agg #[.int .i64 r.lv,.int .i64 r.ma,s,d,t,p],.int .i64 v,.string so,.string de] w' (.int .i64 (rb r v so de)):=fun w' hk=>rF v so de (h.keeps hk) c6
 unfold RA;refine aj func37 I I ?_;refine Jr<|Jy I I fun _ _=>Jy I I fun _ _=>Jy I I fun _ _=>Ja I<|Jn<|Jq<|Jq ?_
 with_reducible refine db 10 (by kernel_rfl) ?_
 (refine az (bU bE) I<|az (gn (.there .here)) I<|az mw I<|az mw I<|aZ mI I (fun w' aB=>(hcw w' (Mem.keeps aB)))<|az (gn .here) I<|az (cR (.of I)) I<|az (ni (.of I) (.of I)) I<|aZ bn I (fun w' aB=>(ef _ 5 w'))<|eM (aD (.o I (.o I .nil)) I I I I) I I ?_)
 with_reducible refine dI I fun bq mV=>?_
 (refine ah bJ I (fun w' aB=>(dV (Mem.dy aB .here I I) (cr.cons (cr.cons cr.nil))))<|Ja I<|Ji<|Jv I<|JD I<|Jn<|gL I (fun aA=>?_) fun aA=>?_;refine Jr<|Jv I<|Ja I<|Jn<|Ju<|JT ?_;rotate_left;refine Jk<|Jr<|Ja I<|Jn<|Jq<|Jr<|JL I (.there .here) I<|JI I<|Jv I<|Jn<|J0 ?_;rotate_right)
 ·have e1:Y4 r v so de L=Y5 r v so de L:=if_pos aA;rw [e1];rfl
 have PZ:Y5 r v so de L=0:=Zq.1 aA;have hX:Y4 r v so de L=if Vu r L≠0 then Vu r L else bL (Vt r v so de L) 19:=if_neg aA
 clear aA;obtain ⟨dP,hv,rp,gl⟩:=z6 (bX.1 PZ _ Zr);have h6:L.length<=4:=by
  have:=(bO (by decide)).1 (bX.1 PZ (bL (decide ((4:Int)<(L.length:Nat))) 5) (by simp));simp only [decide_eq_false_iff_not] at this;omega
 have ht6:=dP.len.2.2;rename_i b5 HS b6 Vk b9 hb9
 refine aV (fun k:Nat=>k<=L.length/\∀ i,i<k->Vw r L i=0) (fun k=>[(35,.q (k:Nat)),(34,.q (L.length:Nat)),(33,.slice aw L.length cw),(12,.q (C6 L k)),(9,.p b9),(6,.p b6),(5,.p b5),(2,.string so),(3,.string de)])
  (fun k=>[bu b9 (.cells #[.slice aw L.length cw] 49 (0,0)),bu b6 (.cells #[.q v] 3 (0,0)),JP b5 r s d t p]) (fun k=>L.length-k) ?_ ?_
 ·apply aH 0 ⟨Zi _,fun i hi=>by omega⟩
  case hs1=>exact bT
  case ht=>(try simp only [Ze,Zf,Za]);exact .cons (.there .here) (.cons (.there .here) (.cons (.there .here) .nil))
 rintro k ⟨hk,hf⟩;by_cases aL:k<L.length
 ·have LZ:=Xi (kc aL);have c0:w.cell? ⟨bw,ow+k*1,none⟩=some (.q L[k]):=(LW k _ (iV aL)).2 0 _ I;have fZ:=UF (r:=r) aL;have hhs:∀ w',aI [] w w'->an T_ 136 [.agg #[.q r.lv,.q r.ma,s,d,t,p],.q L[k]] w' (.q (fL r L[k])):=fun w' hk=>Gq (s:=s) (d:=d) (t:=t) (p:=p) L[k] h
  (refine Jr<|JA I<|Jn<|Jq<|Jd I fun aA=>Jk<|Jq<|J0<|Jr<|ab (ao (.of I) (.of I) LZ (by omega) aA aW) I<|ab (ag (.of I) (At.base c0 I)) I<|Ja I<|Jn<|Jq<|Jr<|ab (bU bE) I<|Jv I<|ah bn I (fun w' aB=>(hhs w' (Mem.keeps aB)))<|Jv I<|Jv I<|JF I<|ah bn I (fun w' aB=>(ef _ 11 w'))<|bh (aD (.o I (.o I .nil)) I I I I) I fun _ _=>ah bJ I (fun w' aB=>(dV (Mem.dy aB .here I I) (cr.cons (cr.cons cr.nil))))<|Ja I<|Ji<|Jv I<|JD I<|Jn<|gL I (fun aA=>?_) fun aA=>?_;refine Jr<|Jv I<|Ja I<|Jn<|Ju<|Jm<|Jh<|Jh<|Jm<|Jh<|JT ?_;rotate_left;refine Jk<|Jg<|Jv I<|Ja I<|Jx<|Jj<|Jt<|Jg<|JB I (by omega)<|Jv I<|Jn ?_;rotate_right)
  ·rw [<- fZ] at aA ⊢;have hB:Vu r L=Vw r L k:=fV hf aL aA;rw [<- hB] at aA ⊢;rw [hX,if_pos aA]
  have hz:Vw r L k=0:=by rw [fZ];exact Zq.1 aA
  have vz:=EJ aL;apply aG (k+1) ⟨by omega,fun i hi=>by
   by_cases e:i=k
   ·rw [e];exact hz
   ·exact hf i (by omega)⟩ (by omega)
  case hs1=>rw [vz];exact .cons I (.cons I (.cons I (.cons I (.cons I (.cons I (.cons I (.cons I (.cons I .nil))))))))
  case ht=>exact jv
 ·obtain rfl:k=L.length:=by omega
  have Xw:Vu r L=0:=eK.2 hf;rw [hX,if_neg (by rw [Xw];decide)]
  (refine Jr<|JA I<|Jn<|Jq<|Jc I fun aA=>Jp<|Jl<|Jo<|Jt<|Jr<|ab (bC .nil (.o I .nil)) I<|Jz I I fun _ _=>ak (.of I) (.of I) .here I I (dE I) (br I) ai<|Ji<|ab (bC .nil (.o I .nil)) I<|Jz I I fun _ _=>ak (.of I) (.of I) .here I I (dE I) (br I) ai<|Ji<|bD I I ae<|JL I c7 I<|ab (bC .nil (.o I (.o I (.o I (.o I .nil))))) I ?_)
  rename_i xY Xg b17 abU
  with_reducible apply ah
  case hr=>exact bn
  case hd=>rfl
  case hc=>
   intro w' aB;have hR:=h.keeps aB.keeps;have f9:w'.cell? ⟨b9,0,none⟩=some (.slice aw L.length cw):=At.lit bE I w' aB;have f16:w'.cell? ⟨xY,0,none⟩=some (.func (.func 157) #[] #[.p b9]):=At.lit (by exact Take.there .here) I w' aB;have f17:w'.cell? ⟨b17,0,none⟩=some (.func (.func 158) #[] #[.p xY]):=At.lit (by exact .here) I w' aB;have f6:w'.cell? ⟨b6,0,none⟩=some (.q v):=At.lit cI I w' aB;have hA:BR w' b5 [.q r.lv,.q r.ma,s,d,t,p]:=BR.of aB c7;exact Bn (f:=160) (p:=uj r v L) (first:=[]) (cap:=[.p xY,.p b17,.p b5,.p b6]) hR.ti (fun x hx w2 fg=>UE v x (hR.keeps fg) (DX.keeps (aB.keeps.trans fg)) (cK f9 I fg) (cK f16 I fg) (cK f17 I fg) (hA.keeps fg) (cK f6 I fg))
  refine Ja I<|Jn<|Jq ?_;cases nu:r.ti.any (uj r v L) with
  | true =>
   have hC:Vt r v so de L=true:=by unfold Vt;rw [nu];rfl
   rw [hC]
   with_reducible refine dL 23 (by kernel_rfl) ?_
   (refine au (fun β=>(aQ (.of I))) dH I<|au (fun β=>(aQ (.of I))) dH I<|dY I (fun _=>rfl) (Or.inr I) I<|dY I (fun _=>rfl) (Or.inr I) I<|dY I (fun _=>rfl) (Or.inr I) I<|dY I (fun _=>rfl) (Or.inr I) I<|dY I (fun _=>rfl) (Or.inr I) I<|dY I (fun _=>rfl) (Or.inr I) I<|au (fun β=>(fy (.of I) (.of I) (.of I) I)) dH I<|au (fun β=>(aQ (.of I))) dH I<|dY I (fun _=>rfl) (Or.inr I) I<|dY I (fun _=>rfl) (Or.inr I) I<|dY I (fun _=>rfl) (Or.inr I) I<|dY I (fun _=>rfl) (Or.inr I) I<|dY I (fun _=>rfl) (Or.inr I) I<|dY I (fun _=>rfl) (Or.inr I) I<|dY I (fun _=>rfl) (Or.inr I) I<|dY I (fun _=>rfl) (Or.inr I) I<|dY I (fun _=>rfl) (Or.inr I) I<|dY I (fun _=>rfl) (Or.inr I) I<|au (fun β=>(fy (.of I) (.of I) (.of I) I)) dH I ?_)
   dsimp only [Nat.zero_add,Nat.reduceAdd]
   with_reducible apply cj (B:=[]) (F:=fun _=>.q (bL true 19)) (args:=fun _=>[.bool true,.q 19])
   case hB=>rfl
   case hr=>exact fun β=>a7 (.of I) (.o I (.o I .nil)) inferInstance I
   case hi=>exact ba
   case hd=>rfl
   case hc=>exact fun β w' hb=>ef _ _ _
   refine au (fun β=>(cX (.of I))) dH I ?_;refine eN fun β=>?_;dsimp only [dW,Za,Zb,List.append_eq,Nat.reduceAdd]
   with_reducible refine cn (by kernel_rfl) ?_
   refine Jt<|Je<|JT ?_
   rfl
  | false =>
   have hC:Vt r v so de L=((im r v so r.ti.length).any (fun x=>!L.contains x)||L.contains (ll r de)):=by unfold Vt;rw [nu];rfl
   rw [hC];obtain ⟨j0,rO⟩:∃ i:Nat,bB (cu r) de=(i:Nat):=⟨(bB (cu r) de).toNat,by have:=dK gl;omega⟩;have Bf:j0<r.de.length:=by
    obtain ⟨hl,_⟩:=fk (l:=cu r) (s:=de) (by omega);rw [rO,ZE] at hl;unfold cu at hl;rwa [Zd] at hl
   have W7:ll r de=(r.de[j0]).mx:=by unfold ll;rw [rO,ZE,Zk,Zc Bf];rfl
   have PA:∀ w',aI [] w w'->a8 T_ 152 [.agg #[.q r.lv,.q r.ma,s,d,t,p],.q v,.string so] w' [] (fun _:Value=>True) id (fun x=>[row 3 1 x (im r v so r.ti.length).length ((im r v so r.ti.length).map (Value.int .i64))]):=fun w' hk=>FZ (s:=s) (d:=d) (t:=t) (p:=p) v so (h.keeps hk) (by omega) rp
   have uP:∀ w',aI [] w w'->an T_ 155 [.agg #[.q r.lv,.q r.ma,s,d,t,p],.string de] w' (.q (j0:Nat)):=fun w' hk=>rO ▸ gH de (h.keeps hk)
   generalize im r v so r.ti.length=R0 at PA ⊢;cases hro:R0.any (fun x=>!L.contains x) with
   | true =>
    rw [Bool.true_or]
    with_reducible refine dL 23 (by kernel_rfl) ?_
    (refine au (fun β=>(aQ (.of I))) dH I<|au (fun β=>(aQ (.of I))) dH I<|dp I (fun _=>rfl)<|au (fun β=>(bQ (.of I) c7 ai (by rfl))) dH I<|dp I (fun _=>rfl)<|au (fun β=>(ag (.of I) (At.lit cI I))) dH I<|dp I (fun _=>rfl)<|au (fun β=>(aQ (.of I))) dH I ?_)
    dsimp only [Nat.zero_add,Nat.reduceAdd];refine dp I (fun _=>rfl) ?_
    with_reducible apply dZ (ι:=Value) (Φ:=fun _=>True) (val:=id) (own:=fun x=>[row 3 1 x R0.length (R0.map (Value.int .i64))]) (g:=id) (B:=[]) (args:=fun _=>[.agg #[.q r.lv,.q r.ma,s,d,t,p],.q v,.string so])
    case hg=>exact fun x=>⟨x,I⟩
    case hB=>rfl
    case hr=>exact fun β=>a7 (.of I) (.o I (.o I (.o I .nil))) inferInstance I
    case hd=>rfl
    case hc=>exact fun β w' hb=>PA w' hb.mem.keeps
    dsimp only [id_eq,Nat.reduceAdd]
    (refine dp I (fun _=>rfl)<|au (fun β=>(ag (.of I) (At.lit .here I))) dH I ?_)
    dsimp only [Nat.zero_add,Nat.reduceAdd];refine dp I (fun _=>rfl) ?_
    with_reducible apply cj (B:=[5]) (F:=fun _=>.bool true) (args:=fun β=>[β 5,.func (.func 158) #[] #[.p xY]])
    case hB=>first | rfl | kernel_rfl
    case hr=>exact fun β=>a7 (.of I) (.o I (.o I .nil)) inferInstance I
    case hi=>exact ba
    case hd=>rfl
    case hc=>
     intro β w' hb;have m5:=hb.at 5 Zr (s:=⟨fun β=>β 5,fun β=>[row 3 1 (β 5) R0.length (R0.map (Value.int .i64))]⟩) (by kernel_rfl)
     dsimp only [Zb,Za] at m5;have s1:Rd w' (β 5) 1 (ints R0):=lJ m5 (by exact .here) I;have f9:w'.cell? ⟨b9,0,none⟩=some (.slice aw L.length cw):=At.lit cI I w' m5;have f16:w'.cell? ⟨xY,0,none⟩=some (.func (.func 157) #[] #[.p b9]):=At.lit bE I w' m5;have q:=xj (f:=158) (p:=fun x=>!L.contains x) (first:=[]) (cap:=[.p xY]) s1 (fun x hx w2 fg=>xx x (DX.keeps (hb.mem.keeps.trans fg)) (cK f9 I fg) (cK f16 I fg))
     rw [hro] at q;exact q
    (refine au (fun β=>(fy (.of I) (.of I) (.of I) I)) dH I<|au (fun β=>(aQ (.of I))) dH I<|dY I (fun _=>rfl) (Or.inr I) I<|dY I (fun _=>rfl) (Or.inr I) I<|dY I (fun _=>rfl) (Or.inr I) I<|dY I (fun _=>rfl) (Or.inr I) I<|dY I (fun _=>rfl) (Or.inr I) I<|dY I (fun _=>rfl) (Or.inr I) I<|dY I (fun _=>rfl) (Or.inr I) I<|dY I (fun _=>rfl) (Or.inr I) I<|dY I (fun _=>rfl) (Or.inr I) I<|dY I (fun _=>rfl) (Or.inr I) I<|au (fun β=>(fy (.of I) (.of I) (.of I) I)) dH I ?_)
    dsimp only [Nat.zero_add,Nat.reduceAdd]
    with_reducible apply cj (B:=[]) (F:=fun _=>.q (bL true 19)) (args:=fun _=>[.bool true,.q 19])
    case hB=>rfl
    case hr=>exact fun β=>a7 (.of I) (.o I (.o I .nil)) inferInstance I
    case hi=>exact ba
    case hd=>rfl
    case hc=>exact fun β w' hb=>ef _ _ _
    refine au (fun β=>(cX (.of I))) dH I ?_;refine eN fun β=>?_;dsimp only [dW,Za,Zb,List.append_eq,Nat.reduceAdd]
    with_reducible refine cn (by kernel_rfl) ?_
    refine Jt<|Je<|JT ?_
    rfl
   | false =>
    rw [Bool.false_or];have kz:=h.de;obtain ⟨a3,tP,b3,o3,rfl,mU,gB,rP,pb⟩:=kz;rw [bY] at *;unfold maxLen at gB;have yz:=rP (ij Bf);have pS:=(pb j0 _ (fM Bf)).2;unfold De.cells at pS;have Bj:=pS 1 _ I;rw [<- W7] at Bj;cases YK:L.contains (ll r de) with
    | true =>
     with_reducible refine dL 23 (by kernel_rfl) ?_
     (refine au (fun β=>(aQ (.of I))) dH I<|au (fun β=>(aQ (.of I))) dH I<|dp I (fun _=>rfl)<|au (fun β=>(bQ (.of I) c7 ai (by rfl))) dH I<|dp I (fun _=>rfl)<|au (fun β=>(ag (.of I) (At.lit cI I))) dH I<|dp I (fun _=>rfl)<|au (fun β=>(aQ (.of I))) dH I ?_)
     dsimp only [Nat.zero_add,Nat.reduceAdd];refine dp I (fun _=>rfl) ?_
     with_reducible apply dZ (ι:=Value) (Φ:=fun _=>True) (val:=id) (own:=fun x=>[row 3 1 x R0.length (R0.map (Value.int .i64))]) (g:=id) (B:=[]) (args:=fun _=>[.agg #[.q r.lv,.q r.ma,s,.slice a3 r.de.length tP,t,p],.q v,.string so])
     case hg=>exact fun x=>⟨x,I⟩
     case hB=>rfl
     case hr=>exact fun β=>a7 (.of I) (.o I (.o I (.o I .nil))) inferInstance I
     case hd=>rfl
     case hc=>exact fun β w' hb=>PA w' hb.mem.keeps
     dsimp only [id_eq,Nat.reduceAdd]
     (refine dp I (fun _=>rfl)<|au (fun β=>(ag (.of I) (At.lit .here I))) dH I ?_)
     dsimp only [Nat.zero_add,Nat.reduceAdd];refine dp I (fun _=>rfl) ?_
     with_reducible apply cj (B:=[5]) (F:=fun _=>.bool false) (args:=fun β=>[β 5,.func (.func 158) #[] #[.p xY]])
     case hB=>first | rfl | kernel_rfl
     case hr=>exact fun β=>a7 (.of I) (.o I (.o I .nil)) inferInstance I
     case hi=>exact ba
     case hd=>rfl
     case hc=>
      intro β w' hb;have m5:=hb.at 5 Zr (s:=⟨fun β=>β 5,fun β=>[row 3 1 (β 5) R0.length (R0.map (Value.int .i64))]⟩) (by kernel_rfl)
      dsimp only [Zb,Za] at m5;have s1:Rd w' (β 5) 1 (ints R0):=lJ m5 (by exact .here) I;have f9:w'.cell? ⟨b9,0,none⟩=some (.slice aw L.length cw):=At.lit cI I w' m5;have f16:w'.cell? ⟨xY,0,none⟩=some (.func (.func 157) #[] #[.p b9]):=At.lit bE I w' m5;have q:=xj (f:=158) (p:=fun x=>!L.contains x) (first:=[]) (cap:=[.p xY]) s1 (fun x hx w2 fg=>xx x (DX.keeps (hb.mem.keeps.trans fg)) (cK f9 I fg) (cK f16 I fg))
      rw [hro] at q;exact q
     (refine au (fun β=>(di (.of I) (.of I) (.of I) I)) dH I<|au (fun β=>(aQ (.of I))) dH I<|dp I (fun _=>rfl)<|au (fun β=>(ag (.of I) (At.lit (.there .here) I))) dH I<|dp I (fun _=>rfl)<|au (fun β=>(ar (.of I) ae)) dH I<|dp I (fun _=>rfl)<|au (fun β=>(ag (.of I) (At.lit c7 I))) dH I<|dp I (fun _=>rfl)<|au (fun β=>(bQ (.of I) c7 ai (by rfl))) dH I<|dp I (fun _=>rfl)<|au (fun β=>(aQ (.of I))) dH I ?_)
     dsimp only [Nat.zero_add,Nat.reduceAdd];refine dp I (fun _=>rfl) ?_
     with_reducible apply cj (B:=[]) (F:=fun _=>.q (j0:Nat)) (args:=fun _=>[.agg #[.q r.lv,.q r.ma,s,.slice a3 r.de.length tP,t,p],.string de])
     case hB=>rfl
     case hr=>exact fun β=>a7 (.of I) (.o I (.o I .nil)) inferInstance I
     case hi=>exact ba
     case hd=>rfl
     case hc=>exact fun β w' hb=>uP w' hb.mem.keeps
     (refine dp I (fun _=>rfl)<|au (fun β=>(ao (.of I) (.of I) yz (by omega) (by omega) aW)) dH I<|dp I (fun _=>rfl)<|au (fun β=>(ar (.of I) ae)) dH I<|dp I (fun _=>rfl)<|au (fun β=>(ag (.of I) (At.base Bj I))) dH I ?_)
     dsimp only [Nat.zero_add,Nat.reduceAdd];refine dp I (fun _=>rfl) ?_
     with_reducible apply cj (B:=[]) (F:=fun _=>.bool true) (args:=fun _=>[.q (ll r de),.p b9])
     case hB=>rfl
     case hr=>exact fun β=>a7 (Is.of I) (Il.cons (Is.of I) Il.nil) inferInstance gF
     case hi=>exact ba
     case hd=>rfl
     case hc=>
      intro β w' hb;have m5:=hb.mem;have f9:w'.cell? ⟨b9,0,none⟩=some (.slice aw L.length cw):=At.lit bE I w' m5;have q:=xy (ll r de) (DX.keeps hb.mem.keeps) f9;rw [YK] at q;exact q
     refine au (fun β=>(fy (.of I) (.of I) (.of I) I)) dH I ?_;dsimp only [Nat.zero_add,Nat.reduceAdd]
     with_reducible apply cj (B:=[]) (F:=fun _=>.q (bL true 19)) (args:=fun _=>[.bool true,.q 19])
     case hB=>rfl
     case hr=>exact fun β=>a7 (.of I) (.o I (.o I .nil)) inferInstance I
     case hi=>exact ba
     case hd=>rfl
     case hc=>exact fun β w' hb=>ef _ _ _
     refine au (fun β=>(cX (.of I))) dH I ?_;refine eN fun β=>?_;dsimp only [dW,Za,Zb,List.append_eq,Nat.reduceAdd]
     with_reducible refine cn (by kernel_rfl) ?_
     refine Jt<|Je<|JT ?_
     rfl
    | false =>
     with_reducible refine dL 23 (by kernel_rfl) ?_
     (refine au (fun β=>(aQ (.of I))) dH I<|au (fun β=>(aQ (.of I))) dH I<|dp I (fun _=>rfl)<|au (fun β=>(bQ (.of I) c7 ai (by rfl))) dH I<|dp I (fun _=>rfl)<|au (fun β=>(ag (.of I) (At.lit cI I))) dH I<|dp I (fun _=>rfl)<|au (fun β=>(aQ (.of I))) dH I ?_)
     dsimp only [Nat.zero_add,Nat.reduceAdd];refine dp I (fun _=>rfl) ?_
     with_reducible apply dZ (ι:=Value) (Φ:=fun _=>True) (val:=id) (own:=fun x=>[row 3 1 x R0.length (R0.map (Value.int .i64))]) (g:=id) (B:=[]) (args:=fun _=>[.agg #[.q r.lv,.q r.ma,s,.slice a3 r.de.length tP,t,p],.q v,.string so])
     case hg=>exact fun x=>⟨x,I⟩
     case hB=>rfl
     case hr=>exact fun β=>a7 (.of I) (.o I (.o I (.o I .nil))) inferInstance I
     case hd=>rfl
     case hc=>exact fun β w' hb=>PA w' hb.mem.keeps
     dsimp only [id_eq,Nat.reduceAdd]
     (refine dp I (fun _=>rfl)<|au (fun β=>(ag (.of I) (At.lit .here I))) dH I ?_)
     dsimp only [Nat.zero_add,Nat.reduceAdd];refine dp I (fun _=>rfl) ?_
     with_reducible apply cj (B:=[5]) (F:=fun _=>.bool false) (args:=fun β=>[β 5,.func (.func 158) #[] #[.p xY]])
     case hB=>first | rfl | kernel_rfl
     case hr=>exact fun β=>a7 (.of I) (.o I (.o I .nil)) inferInstance I
     case hi=>exact ba
     case hd=>rfl
     case hc=>
      intro β w' hb;have m5:=hb.at 5 Zr (s:=⟨fun β=>β 5,fun β=>[row 3 1 (β 5) R0.length (R0.map (Value.int .i64))]⟩) (by kernel_rfl)
      dsimp only [Zb,Za] at m5;have s1:Rd w' (β 5) 1 (ints R0):=lJ m5 (by exact .here) I;have f9:w'.cell? ⟨b9,0,none⟩=some (.slice aw L.length cw):=At.lit cI I w' m5;have f16:w'.cell? ⟨xY,0,none⟩=some (.func (.func 157) #[] #[.p b9]):=At.lit bE I w' m5;have q:=xj (f:=158) (p:=fun x=>!L.contains x) (first:=[]) (cap:=[.p xY]) s1 (fun x hx w2 fg=>xx x (DX.keeps (hb.mem.keeps.trans fg)) (cK f9 I fg) (cK f16 I fg))
      rw [hro] at q;exact q
     (refine au (fun β=>(di (.of I) (.of I) (.of I) I)) dH I<|au (fun β=>(aQ (.of I))) dH I<|dp I (fun _=>rfl)<|au (fun β=>(ag (.of I) (At.lit (.there .here) I))) dH I<|dp I (fun _=>rfl)<|au (fun β=>(ar (.of I) ae)) dH I<|dp I (fun _=>rfl)<|au (fun β=>(ag (.of I) (At.lit c7 I))) dH I<|dp I (fun _=>rfl)<|au (fun β=>(bQ (.of I) c7 ai (by rfl))) dH I<|dp I (fun _=>rfl)<|au (fun β=>(aQ (.of I))) dH I ?_)
     dsimp only [Nat.zero_add,Nat.reduceAdd];refine dp I (fun _=>rfl) ?_
     with_reducible apply cj (B:=[]) (F:=fun _=>.q (j0:Nat)) (args:=fun _=>[.agg #[.q r.lv,.q r.ma,s,.slice a3 r.de.length tP,t,p],.string de])
     case hB=>rfl
     case hr=>exact fun β=>a7 (.of I) (.o I (.o I .nil)) inferInstance I
     case hi=>exact ba
     case hd=>rfl
     case hc=>exact fun β w' hb=>uP w' hb.mem.keeps
     (refine dp I (fun _=>rfl)<|au (fun β=>(ao (.of I) (.of I) yz (by omega) (by omega) aW)) dH I<|dp I (fun _=>rfl)<|au (fun β=>(ar (.of I) ae)) dH I<|dp I (fun _=>rfl)<|au (fun β=>(ag (.of I) (At.base Bj I))) dH I ?_)
     dsimp only [Nat.zero_add,Nat.reduceAdd];refine dp I (fun _=>rfl) ?_
     with_reducible apply cj (B:=[]) (F:=fun _=>.bool false) (args:=fun _=>[.q (ll r de),.p b9])
     case hB=>rfl
     case hr=>exact fun β=>a7 (Is.of I) (Il.cons (Is.of I) Il.nil) inferInstance gF
     case hi=>exact ba
     case hd=>rfl
     case hc=>
      intro β w' hb;have m5:=hb.mem;have f9:w'.cell? ⟨b9,0,none⟩=some (.slice aw L.length cw):=At.lit bE I w' m5;have q:=xy (ll r de) (DX.keeps hb.mem.keeps) f9;rw [YK] at q;exact q
     refine au (fun β=>(di (.of I) (.of I) (.of I) I)) dH I ?_;dsimp only [Nat.zero_add,Nat.reduceAdd]
     with_reducible apply cj (B:=[]) (F:=fun _=>.q (bL false 19)) (args:=fun _=>[.bool false,.q 19])
     case hB=>rfl
     case hr=>exact fun β=>a7 (.of I) (.o I (.o I .nil)) inferInstance I
     case hi=>exact ba
     case hd=>rfl
     case hc=>exact fun β w' hb=>ef _ _ _
     refine au (fun β=>(cX (.of I))) dH I ?_;refine eN fun β=>?_;dsimp only [dW,Za,Zb,List.append_eq,Nat.reduceAdd]
     with_reducible refine cn (by kernel_rfl) ?_
     refine Jt<|Je<|JT ?_
     rfl
structure Tk where
 de:ByteArray
 so:List ByteArray
structure gW where
 tk:Tk
 v:Value
def gW.cells (x:gW):List Value:=[.string x.tk.de,x.v]
def jP (l:List gW):List (List Value):=l.map gW.cells
theorem eY (l:List gW):(jP l).length=l.length:=by simp [jP]
theorem kM {l:List gW} (h:k<l.length):(jP l)[k]? = some (l[k]).cells:=by simp [jP,h]
theorem lo {l:List gW} (h:k<l.length):jP l≠[]:=by intro e;have:=congrArg List.length e;rw [eY] at this;simp at this;subst this;simp at h
def vK (w:World) (l:List gW):Prop:=∀ x∈l,Rd w x.v 1 (fN x.tk.so)
theorem vK.keeps {w w':World} {l:List gW} (h:vK w l) (hk:aI [] w w'):vK w' l:=fun x hx=>(h x hx).keeps hk
theorem Gk {l:List gW} {p:gW->Bool} [bN T_ f] {w:World} (h:Rd w lv 2 (jP l)) (cV:∀ x∈l,∀ w',aI [] w w'->an T_ f (first++[.agg x.cells.toArray]++cap) w' (.bool (p x))) :
  an T_ 252 [lv,.func (.func f) first.toArray cap.toArray] w (.q (iN p l)):=by
 obtain ⟨a,cp,b,o,rfl,dC,ch,ha,hc⟩:=h;rw [eY] at *;unfold maxLen at ch;refine aj func252 I I ?_;refine Jr<|Ja I<|Jn<|Jq<|Jr<|Jv I<|JI I<|Jv I<|Jn<|J0 ?_;refine aV (fun k:Nat=>k<=l.length/\∀ i,i<k->(l[i]?.map p).getD false=false) (fun k=>[(8,.int .i64 k),(7,.int .i64 l.length),(0,.slice a l.length cp),(1,.func (.func f) first.toArray cap.toArray)]) (fun _=>[]) (fun k=>l.length-k) ?_ ?_
 ·apply aH 0 ⟨Zi _,fun i h=>by omega⟩
  case hs1=>exact bT
  case ht=>(try simp only [Ze,Zf,Za]);exact .nil
 rintro k ⟨hk,hf⟩;by_cases aL:k<l.length
 ·have cY:=ha (lo aL);have aF:=(hc k _ (kM aL)).2;have iZ:=cV _ (Zj aL);have hps:(l[k]?.map p).getD false=p l[k]:=by simp [aL]
  unfold gW.cells at aF iZ
  (refine Jr<|JA I<|Jn<|Jq<|Jd I fun aA=>Jk<|Jq<|J0<|Jr<|Jv I<|Ja I<|Ji<|Jv I<|Jv I<|Jv I<|ab (gE cY aA) I<|ab (ja (fo.base aF I)) I<|ah bJ I (fun w' aB=>(iZ w' (Mem.keeps aB)))<|Jn<|oK I (fun aA=>?_) fun aA=>?_;refine Jr<|Jv I<|Ja I<|Jn<|Je<|Jm<|Jh<|Jh<|Jm<|Jh<|JT ?_;rotate_left;refine Jw<|Jj<|Jt<|Jg<|JB I (by omega)<|Jv I<|Jn ?_;rotate_right)
  ·rw [gN hf aL aA]
  ·apply aG (k+1) ⟨by omega,fun i hi=>by
    by_cases e:i=k
    ·rw [e,hps];exact aA
    ·exact hf i (by omega)⟩ (by omega)
   case hs1=>exact bT
   case ht=>(try simp only [Ze,Zf,Za]);exact .nil
 ·obtain rfl:k=l.length:=by omega
  refine Jr<|JA I<|Jn<|Jq<|Jc I fun aA=>Jp<|Jl<|Jo<|Jt<|Jr<|Ja I<|Jn<|Je<|JT ?_;rw [fO hf]
theorem PU {l:List gW} {p:gW->Bool} [bN T_ f] {w:World} (h:Rd w lv 2 (jP l)) (cV:∀ x∈l,∀ w',aI [] w w'->an T_ f (first++[.agg x.cells.toArray]++cap) w' (.bool (p x))) :
  an T_ 248 [lv,.func (.func f) first.toArray cap.toArray] w (.bool (l.any p)):=by
 have iZ:∀ w',aI [] w w'->an T_ 252 [lv,.func (.func f) first.toArray cap.toArray] w' (.q (iN p l)):=fun w' hk=>
  Gk (h.keeps hk) fun x hx w2 fg=>cV x hx w2 (hk.trans fg)
 rw [<- lb];refine aj func248 I I ?_
 (refine Jr<|Ja I<|Ji<|Jv I<|Jv I<|ah bn I (fun w' aB=>(iZ w' (Mem.keeps aB)))<|JG I<|Ja I<|Jn<|Je<|JT ?_)
 rfl
theorem VG {x:gW} {y:ByteArray} (f1:w.cell? ⟨b,0,none⟩=some (.string y)):an T_ 249 [.agg x.cells.toArray,.p b] w (.bool (decide (x.tk.de=y))):=by
 unfold gW.cells;refine aj func249 I I ?_
 (refine Jr<|Jy I I fun _ _=>Ja I<|Ji<|bD I I ae<|JL I .here I<|bD I I ae<|ab (ag (.of I) (At.base f1 I)) I<|ab (dD (.of I) (.of I)) I<|Ja I<|Jn<|Je<|JT ?_)
 rfl
theorem v8 {ty:TypeId} {t u:TypeId} {a b:ByteArray} (hx:Is sl x (.string a)) (hy:Is sl y (.string b)) (e:a≠b) :
  du P c sl hs ⟨dst,.binOp .neq t x y u,ty,pos,af,g⟩ (.bool true):=by
 have:=gz (P:=P) (c:=c) (hs:=hs) (dst:=dst) (ty:=ty) (pos:=pos) (af:=af) (g:=g) (t:=t) (u:=u) hx hy;rwa [decide_eq_true e] at this
theorem CH {ty:TypeId} {t u:TypeId} {a b:ByteArray} (hx:Is sl x (.string a)) (hy:Is sl y (.string b)) (e:a=b) :
  du P c sl hs ⟨dst,.binOp .neq t x y u,ty,pos,af,g⟩ (.bool false):=by
 have:=gz (P:=P) (c:=c) (hs:=hs) (dst:=dst) (ty:=ty) (pos:=pos) (af:=af) (g:=g) (t:=t) (u:=u) hx hy;rwa [decide_eq_false (not_not_intro e)] at this
def nH (r:Ro) (o:ByteArray):Bool:=decide (o≠⟨#[]⟩)&&decide (o≠⟨#[45]⟩)&&decide (bB (cN r) o<0)
theorem VH {s d t p:Value} (o:ByteArray) {b:Nat} {w:World} (hr:RR w r s d t p) (hA:BR w b (RC r s d t p)) :
  an T_ 251 [.string o,.p b] w (.bool (nH r o)):=by
 have h1:=Rd.one hr.sr;have h2:=Rd.one hr.de;have h3:=Rd.one hr.ti;have h4:=Rd.one hr.po;have lg:∀ (j:Nat) (u:Value),[Value.int .i64 r.lv,.q r.ma,s,d,t,p][j]? = some u->w.cell? ⟨b,0+j,none⟩=some u:=hA;refine aj func251 I I ?_;by_cases LV:o=⟨#[]⟩
 ·have hB:nH r o=false:=by unfold nH;rw [decide_eq_false (not_not_intro LV)];rfl
  rw [hB]
  (refine Jr<|Ja I<|Ji<|Jv I<|ab (CH (.of I) (.of I) LV) I<|Jv I<|jZ I I I I<|aM I I (fun hg bH=>(gz (.bW bH I) (.of I))) I<|ab (di (.of I) (.of I) (.of I) I) I<|Jv I<|aM I I (fun hg bH=>(jC (.of I) (fo.base lg I) I)) I<|jZ I I I I<|eG I I I I<|eG I I I I<|ab (di (.of I) (.of I) (.of I) I) I<|Ja I<|Jn<|Je<|JT ?_)
  rfl
 by_cases T7:o=⟨#[45]⟩
 ·have hB:nH r o=false:=by unfold nH;rw [decide_eq_false (not_not_intro T7),Bool.and_false];rfl
  rw [hB]
  (refine Jr<|Ja I<|Ji<|Jv I<|ab (v8 (.of I) (.of I) LV) I<|Jv I<|JK I I<|Jv I<|JK I I<|ab (CH (.of I) (.of I) T7) I<|ab (di (.of I) (.of I) (.of I) I) I<|Jv I<|aM I I (fun hg bH=>(jC (.of I) (fo.base lg I) I)) I<|jZ I I I I<|eG I I I I<|eG I I I I<|ab (di (.of I) (.of I) (.of I) I) I<|Ja I<|Jn<|Je<|JT ?_)
  rfl
 have hB:nH r o=decide (bB (cN r) o<0):=by unfold nH;rw [decide_eq_true LV,decide_eq_true T7];rfl
 rw [hB]
 (refine Jr<|Ja I<|Ji<|Jv I<|ab (v8 (.of I) (.of I) LV) I<|Jv I<|JK I I<|Jv I<|JK I I<|ab (v8 (.of I) (.of I) T7) I<|ab (fy (.of I) (.of I) (.of I) I) I<|Jv I<|JK I I<|ab (ja (fo.base lg I)) I<|JK I I<|Jv I<|JK I I ?_)
 refine ah bn I (fun w' aB=>pt o (hr.keeps aB.keeps)) ?_;refine JK I I<|JA I ?_
 with_reducible apply ab (V:=Value.bool (decide (bB (cN r) o<0)))
 case hr=>
  with_reducible apply fQ
  case hx=>exact Is.of I
  case hy=>exact Is.of I
  case hz=>exact Is.of I
  case e=>rfl
 case hd=>rfl
 refine Ja I<|Jn<|Je<|JT ?_
 rfl
def cU (l:List gW):List Tk:=l.map (·.tk)
def Nc (r:Ro) (l:List Tk) (k:Nat):Int:=(l[k]?.map fun x=>aY [mF r x.de,bL ((l.take k).any fun y=>decide (y.de=x.de)) 9,bL (decide ((x.so.length:Int)≠r.lv)) 2,bL (x.so.any (nH r)) 10]).getD 0
theorem Ka {l:List Tk} (h:k<l.length):Nc r l k=aY [mF r (l[k]).de,bL ((l.take k).any fun y=>decide (y.de=(l[k]).de)) 9,bL (decide (((l[k]).so.length:Int)≠r.lv)) 2,bL ((l[k]).so.any (nH r)) 10]:=by
 unfold Nc;rw [Zc h];rfl
def Nf (l:List Tk):Int:=aY [bL (decide ((l.length:Int)=0)) 12,bL (decide ((8:Int)<(l.length:Nat))) 5]
def Ck (r:Ro) (l:List Tk):Int:=if Nf l≠0 then Nf l else kA (Nc r l) l.length
set_option maxHeartbeats 2000000 in
theorem sR {s d t p kv:Value} {l:List gW} (h:RR w r s d t p) (hw:Rd w kv 2 (jP l)) (hM:vK w l) :
  an T_ 164 [RA r s d t p,kv] w (.q (Ck r (cU l))):=by
 obtain ⟨h1,h2,h3,h4⟩:=h.one;have DX:=hw;obtain ⟨aw,cw,bw,ow,rfl,Rw,Dg,Xi,LW⟩:=hw;rw [eY] at *;unfold maxLen at Dg;have vw:(cU l).length=l.length:=Zd _;unfold RA;refine aj func164 I I ?_
 (refine Jr<|Jy I I fun _ _=>Ja I<|Jn<|Jq<|Jr<|Jv I<|JI I<|JC I<|ah bn I (fun w' aB=>(ef _ 12 w'))<|Jv I<|JI I<|JE I<|ah bn I (fun w' aB=>(ef _ 5 w'))<|bh (aD (.o I (.o I .nil)) I I I I) I fun _ _=>ah bJ I (fun w' aB=>(dV (Mem.dy aB .here I I) (cr.cons (cr.cons cr.nil))))<|Ja I<|Ji<|Jv I<|JD I<|Jn<|gL I (fun aA=>?_) fun aA=>?_;refine Jr<|Jv I<|Ja I<|Jn<|Ju<|JT ?_;rotate_left;refine Jk<|Jq<|Jr<|Jv I<|JI I<|Jv I<|Jn<|J0 ?_;rotate_right)
 ·have e1:Ck r (cU l)=Nf (cU l):=if_pos (by unfold Nf;rw [vw];exact aA);rw [e1];unfold Nf;rw [vw]
 have PZ:Nf (cU l)=0:=by unfold Nf;rw [vw];exact Zq.1 aA
 have hX:Ck r (cU l)=kA (Nc r (cU l)) l.length:=by unfold Ck;rw [if_neg (by rw [PZ];decide),vw]
 clear aA;rename_i b2 sJ bq mV
 refine aV (fun k:Nat=>k<=l.length/\∀ i,i<k->Nc r (cU l) i=0) (fun k=>[(26,.q (k:Nat)),(25,.q (l.length:Nat)),(24,.slice aw l.length cw),(2,.p b2),(1,.slice aw l.length cw)])
  (fun k=>[JP b2 r s d t p]) (fun k=>l.length-k) ?_ ?_
 ·apply aH 0 ⟨Zi _,fun i hi=>by omega⟩
  case hs1=>exact bT
  case ht=>(try simp only [Ze,Zf,Za]);exact .cons (.there .here) .nil
 rintro k ⟨hk,hf⟩;by_cases aL:k<l.length
 ·have LZ:=Xi (lo aL);have aF:=(LW k _ (kM aL)).2;unfold gW.cells at aF;have hx:=hM _ (Zj aL);have fZ:=Ka (r:=r) (l:=cU l) (k:=k) (by omega);have hgk:(cU l)[k]'(by omega)=(l[k]).tk:=Z1 _;rw [hgk] at fZ;have uv:Rd w (Go.sliced aw 0 (k:Int).toNat cw 2) 2 (jP (l.take k)):=by
   have:=DX.sliced (l:=0) (m:=k) (Zi _) (by omega);rw [ZE];rwa [List.drop_zero,show (jP l).take k=jP (l.take k) by unfold jP;rw [ZaN]] at this
  have Ue:(l.take k).any (fun y=>decide (y.tk.de=(l[k]).tk.de))=((cU l).take k).any fun y=>decide (y.de=(l[k]).tk.de):=by
   unfold cU;rw [<- ZaN,List.any_map];rfl
  generalize l[k]=x at aF hx fZ Ue ⊢;obtain ⟨⟨xd,xs⟩,xv⟩:=x;dsimp only at aF hx fZ Ue ⊢;have Tw:=hx;obtain ⟨ax,cx,bx,ox,rfl,adv,WQ,hax,hcx⟩:=hx;rw [bG] at *;unfold maxLen at WQ;have gl:∀ w',aI [] w w'->an T_ 112 [.agg #[.int .i64 r.lv,.int .i64 r.ma,s,d,t,p],.string xd] w' (.int .i64 (mF r xd)):=fun w' hk=>eA xd (h.keeps hk)
  (refine Jr<|JA I<|Jn<|Jq<|Jd I fun aA=>Jk<|Jq<|J0<|Jr<|Jv I<|ab (ao (.of I) (.of I) LZ (by omega) aA aW) I<|ab (ja (fo.base aF I)) I<|Jz I I fun _ _=>Ja I<|ak (.of I) (.of I) .here I I (ix I I) (br I) ai<|Ji<|Jv I<|Jv I<|ab (hY (.of I) (.of I) (by omega) (by omega)) I<|ab (bC .nil (.o I .nil)) I ?_)
  rename_i b7 Ud
  with_reducible apply ah
  case hr=>exact bn
  case hd=>rfl
  case hc=>
   intro w' aB;have f7:w'.cell? ⟨b7,0,none⟩=some (.string xd):=(BR.of (cs:=[.string xd,.slice ax xs.length cx]) aB (by exact .here)) 0 _ I;exact PU (f:=249) (p:=fun y=>decide (y.tk.de=xd)) (first:=[]) (cap:=[.p b7]) (uv.keeps aB.keeps) (fun y hy w2 fg=>VG (cK f7 I fg))
  rw [Ue]
  (refine Ja I<|Ji<|bD I I ae<|JL I .here I<|ab (bC .nil (.o I .nil)) I ?_)
  with_reducible apply ah
  case hr=>exact bn
  case hd=>rfl
  case hc=>
   intro w' aB;have hR:=h.keeps aB.keeps;have hA:BR w' b2 [.q r.lv,.q r.ma,s,d,t,p]:=BR.of aB (by exact Take.there .here);exact L4 (f:=251) (p:=nH r) (first:=[]) (cap:=[.p b2]) (Tw.keeps aB.keeps) (fun o ho w2 fg=>VH o (hR.keeps fg) (hA.keeps fg))
  refine Ja I<|Jn<|Jq ?_
  with_reducible refine db 16 (by kernel_rfl) ?_
  (refine az (bU (.there .here)) I<|az lP I<|az (gn .here) I<|aZ bn I (fun w' aB=>(gl w' (Mem.keeps aB)))<|az mw I<|aZ bn I (fun w' aB=>(ef _ 9 w'))<|az lP I<|az (gn .here) I<|az (cR (.of I)) I<|az lP I<|az (gn (.there .here)) I<|az (j7 (.of I) (.of I)) I<|aZ bn I (fun w' aB=>(ef _ 2 w'))<|az mw I<|aZ bn I (fun w' aB=>(ef _ 10 w'))<|eM (aD (.o I (.o I (.o I (.o I .nil)))) I I I I) I I ?_)
  with_reducible refine dI I fun b55 abT=>?_
  (refine ah bJ I (fun w' aB=>(dV (Mem.dy aB .here I I) (cr.cons (cr.cons (cr.cons (cr.cons cr.nil))))))<|Ja I<|Ji<|Jv I<|JD I<|Jn<|gL I (fun aA=>?_) fun aA=>?_;refine Jr<|Jv I<|Ja I<|Jn<|Je<|Jm<|Jh<|Jh<|Jm<|Jh<|JT ?_;rotate_left;refine Jw<|Jj<|Jt<|Jg<|JB I (by omega)<|Jv I<|Jn ?_;rotate_right)
  ·rw [<- fZ] at aA ⊢;have hB:kA (Nc r (cU l)) l.length=Nc r (cU l) k:=fV hf aL aA;rw [hX,hB]
  have hz:Nc r (cU l) k=0:=by rw [fZ];exact Zq.1 aA
  apply aG (k+1) ⟨by omega,fun i hi=>by
   by_cases e:i=k
   ·rw [e];exact hz
   ·exact hf i (by omega)⟩ (by omega)
  case hs1=>exact bT
  case ht=>(try simp only [Ze,Zf,Za]);exact .cons bE .nil
 ·obtain rfl:k=l.length:=by omega
  have Xw:kA (Nc r (cU l)) l.length=0:=eK.2 hf;rw [hX,Xw];refine Jr<|JA I<|Jn<|Jq<|Jc I fun aA=>Jp<|Jl<|Jo<|Jt<|Jr<|Ja I<|Jn<|Je<|JT ?_
  rfl
def rM (v:Int) (o:ByteArray) (x:Po):Bool:=decide (x.lv=v)&&decide (x.ou=o)
theorem VB {x:Po} (v:Int) (o:ByteArray) {b1 b2:Nat} {w:World} (f1:w.cell? ⟨b1,0,none⟩=some (.q v)) (f2:w.cell? ⟨b2,0,none⟩=some (.string o)) :
  an T_ 315 [.agg x.cells.toArray,.p b1,.p b2] w (.bool (rM v o x)):=by
 unfold Po.cells;refine aj func315 I I ?_
 (refine Jr<|Jy I I fun _ _=>Ja I<|Ji<|ab (bU .here) I<|ab (ag (.of I) (At.base f1 I)) I<|ab (ag (.of I) (At.base f2 I)) I<|bD I I ae<|JL I .here I<|ab (aU (.o I (.o I (.o I .nil))) ai) I<|ab (vi (.of I) (.of I) (kQ (fS (fS mQ))) I) I<|Ja I<|Jn<|Je<|JT ?_)
 simp [rM]
def RB (b:Nat) (r:Ro) (s d t p:Value):bd:=JP b r s d t p
def PB (p:Value) (l:List Po):bd:=row 188 3 p l.length (eF l)
set_option maxHeartbeats 1000000 in
theorem yN {s d t p:Value} {l:List Po} (v:Int) (o:ByteArray) {w:World} {fp:List Nat} (iB:fp.Nodup) (hs:cy (hp w) [RB b r s d t p,PB p l] fp) (c6:l.length<=1000000) :
  a8 T_ 256 [.p b,.q v,.string o] w fp (fun _:Value=>True) (fun _=>.tuple #[]) (fun p'=>[RB b r s d t p',PB p' (l.filter fun x=>!rM v o x)]):=by
 unfold RB PB at *;refine dT func256 I I iB hs ?_
 (refine Jr<|Jy I I fun _ _=>Jy I I fun _ _=>Jn<|Jg<|Jv I<|Jv I<|ab (dM (.of I)) I<|bD I I ae<|JL I bE I<|ab (bC .nil (.o I (.o I .nil))) I ?_)
 rename_i b4 sH b5 HS
 with_reducible apply eH (As:=[row 188 3 p l.length (eF l)])
 case hr=>exact bn
 case hd=>rfl
 case ht=>exact .cons cI .nil
 case hc=>
  intro w1 Bt aT uN hs1 Ds ku;have h4:b4 ∉ Bt:=ku b4 _ _ (by exact Take.there .here);have h5:b5 ∉ Bt:=ku b5 _ _ (by exact .here);have f4:w1.cell? ⟨b4,0,none⟩=some (.q v):=At.lit (by exact Take.there .here) I w1 aT;have f5:w1.cell? ⟨b5,0,none⟩=some (.string o):=At.lit (by exact .here) I w1 aT;exact Qg (f:=315) (p:=rM v o) (first:=[]) (cap:=[.p b4,.p b5]) uN hs1 I c6 (fun x _ w2 fg=>VB v o (eR f4 I h4 fg) (eR f5 I h5 fg))
 intro p' _;dsimp only [id_eq,Zb,Za];refine aK (by exact .here) fun va vc e=>?_;subst e
 (refine ab (dM (.of I)) I<|bD I I ae<|ak (.of I) (.of I) cI I I (dE I) (br I) ai<|Jx ?_)
 with_reducible first|apply aO|apply aP
 case he=>exact oQ I
 case hR=>
  intro w' aB;exact aC (.slice va (l.filter fun x=>!rM v o x).length vc) trivial (by exact .h2 .nil) aB I
theorem H8 {l:List Po} (h:Rd w lv 3 (uf l)) (hl:l.length<=1000) :
  a8 T_ 316 [lv] w [] (fun _:Value=>True) id (fun v=>[row 188 3 v l.length (eF l)]):=by
 have h':=h;obtain ⟨a,cp,b,o,rfl,dC,ch,ha,hc⟩:=h;refine aS func316 I I ?_;cases a with
 | none =>
  have nX:l=[]:=by
   cases l with
   | nil=>rfl
   | cons x r=>exact absurd (ha (by simp [uf])) (by simp)
  subst nX
  (refine Jr<|Ja I<|Jn<|Jq<|Jr<|Jv I<|ab (iq (.of I) (.of I)) I<|Jn<|c5 (.of I)<|Jr<|Ja I<|Jn<|Ju ?_)
  refine aJ 188 3 ?_
  with_reducible first|apply aO|apply aP
  case he=>exact dN I I
  case hR=>
   intro w' aB;exact aC (.z) trivial (by exact .h1 .nil) aB I
 | some ad =>
  (refine Jr<|Ja I<|Jn<|Jq<|Jr<|Jv I<|ab (iq (.of I) (.of I)) I<|Jn<|cd (.of I)<|Jk<|Jr ?_)
  with_reducible apply bh
  case hr=>exact lF
  case hd=>rfl
  intro bq mV;refine Q8 I I ?_;refine bP (g:=bq) (E:=188) (ys:=[]) 0 3 (by exact .here) I I I ?_
  with_reducible apply eX
  case hx=>exact Is.of I
  case hy=>exact Is.of I
  case ht=>exact .here
  case hsrc=>exact fun w' aB=>h'.keeps aB.keeps
  case h1=>exact AR l
  case hz=>exact I
  case hsz=>exact I
  case hb0=>exact I
  case hb=>rw [cT];omega
  case hd=>rfl
  intro v';rw [cT,ZF,Za,<- AP];refine Ja I<|Jn<|Je ?_
  with_reducible first|apply aO|apply aP
  case he=>exact dN I I
  case hR=>
   intro w' aB;exact aC v' trivial (by exact .h1 .nil) aB I
def Ya (w:World) (b:Nat) (l:List (ByteArray×Value)):Prop:=∃ es clock,w.heap[b]? = some (.map es clock)/\K8 (fun s:ByteArray=>Value.string s) l es clock
theorem Ya.kb {w w':World} {md:List Nat} (h:Ya w b l) (hn:b ∉ md) (hk:aI md w w'):Ya w' b l:=by
 obtain ⟨es,ck,h1,h2⟩:=h;have hb:b<w.heap.size:=(Z3.1 h1).1;have:=hk.block b hb hn;exact ⟨es,ck,by rw [this,h1],h2⟩
theorem we {ty:TypeId} {t kt et:TypeId} {k:ByteArray} {z V:Value} [hu:iI P t (.map kt et)] [HO:iI P kt .string] [hz:mA P et z]
  (hx:Is sl x (.map (some b))) (hy:Is sl y (.string k)) (hl:Looks c hs b (fun s:ByteArray=>Value.string s) l) (e:(eS k l).getD z=V) :
  du P c sl hs ⟨dst,.lookup t x y false,ty,pos,af,g⟩ V:=e ▸ Hl Lk hx hy hl
def S2 (r:Ro) (x y:Po):Int:=aY [lx x.lv y.lv,lx (eE r x.ou) (eE r y.ou)]
theorem SG {x y:Po} {b bm:Nat} (hd:DT r) (hx:eZ (dh r) x.ou=true) (hy:eZ (dh r) y.ou=true) (f:w.cell? ⟨b,0,none⟩=some (.map (some bm))) (hm:Ya w bm (om r)) :
  an T_ 318 [.agg x.cells.toArray,.agg y.cells.toArray,.p b] w (.q (S2 r x y)):=by
 have ex:(eS x.ou (om r)).getD (kZ 0 0 0)=kZ (eE r x.ou) (k6 r x.ou) (kD r x.ou):=by rw [oo hd,hx];rfl
 have ey:(eS y.ou (om r)).getD (kZ 0 0 0)=kZ (eE r y.ou) (k6 r y.ou) (kD r y.ou):=by rw [oo hd,hy];rfl
 unfold Po.cells;refine aj func318 I I ?_;refine Jr<|Jy I I fun _ _=>Jy I I fun _ _=>Ja I<|Jn<|Jq ?_
 with_reducible refine db 17 (by kernel_rfl) ?_
 (refine az lP I<|az (gn (.there .here)) I<|az lP I<|az (gn .here) I<|aZ bn I (fun w' aB=>(DA _ _ w'))<|az (ag (.of I) (At.base f I)) I<|az lP I<|az (gn (.there .here)) I ?_)
 refine az (we (l:=om r) (z:=kZ 0 0 0) (V:=.agg #[.q (eE r x.ou),.q (k6 r x.ou),.q (kD r x.ou)]) (Is.of I) (Is.of I) (fun w' aB=>hm.kb (by simp) aB.keeps) ex) I ?_
 (refine az (CK (.of I) I) I<|az (ag (.of I) (At.base f I)) I<|az lP I<|az (gn .here) I ?_)
 refine az (we (l:=om r) (z:=kZ 0 0 0) (V:=.agg #[.q (eE r y.ou),.q (k6 r y.ou),.q (kD r y.ou)]) (Is.of I) (Is.of I) (fun w' aB=>hm.kb (by simp) aB.keeps) ey) I ?_
 (refine az (CK (.of I) I) I<|aZ bn I (fun w' aB=>(DA _ _ w'))<|eM (aD (.o I (.o I .nil)) I I I I) I I ?_)
 with_reducible refine dI I fun bq mV=>?_
 skip
 refine ah bJ I (fun w' aB=>V4 (l:=[lx x.lv y.lv,lx (eE r x.ou) (eE r y.ou)]) (Mem.dy aB (by exact .here) I I)) ?_;refine Ja I<|Jn<|Je<|JT ?_
 rfl
end Go.Proofs.A1
namespace Go.Proofs.A1
open Go Go.SL Go.Shelf
open Tryz
open Tryz renaming prog->T_
theorem vk (r:Ro) (x y:Po):S2 r x y<0↔x.lv<y.lv\/(x.lv=y.lv/\eE r x.ou<eE r y.ou):=by
 unfold S2;generalize eE r x.ou=a;generalize eE r y.ou=b;simp only [aY,lx]
 repeat' split
 all_goals omega
theorem ON {α:Type} (r:Ro) (g:α->Po):Go.Sort.SWO (ltOf fun x y:α=>S2 r (g x) (g y)):=by
 constructor
 ·intro x;unfold ltOf;rw [decide_eq_false_iff_not,vk];omega
 ·intro x y z h1 h2;unfold ltOf at *;rw [decide_eq_true_eq,vk] at *;omega
 ·intro x y z h1 h2;unfold ltOf at *;rw [decide_eq_false_iff_not,vk] at *;omega
theorem Kl {r:Ro} {v:Value} {l:List Po} {ND bm:Nat} {w:World} {fp:List Nat} (hs:cy (hp w) [PB v l] fp) (hd:DT r) (js:∀ x∈l,eZ (dh r) x.ou=true) (c6:l.length<=1000000)
  (f:w.cell? ⟨ND,0,none⟩=some (.map (some bm))) (hm:Ya w bm (om r)) (h14:ND ∉ fp) (YT:bm ∉ fp) :
  a8 T_ 317 [v,.func (.func 318) #[] #[.p ND]] w fp (fun l':List Po=>l'.Perm l/\l'.Pairwise (fun x y=>¬ S2 r y x<0)) (fun _=>.tuple #[]) (fun l'=>[PB v l']):=by
 obtain ⟨f1,f2,rfl,h1,h2⟩:=hs;obtain rfl:f2=[]:=h2;obtain ⟨rfl,hlen,h1⟩:=h1;rw [ZK] at *;rcases h1 with ⟨rfl,h0⟩ | ⟨g,cap,cur,rfl,hg,kT,kg,pb,tI⟩
 ·have nX:l=[]:=Z5 (by omega);subst nX;refine (AnyF.slices_SortFunc_none Tryz.El none 0 (.func (.func 318) #[] #[.p ND]) w).mono fun e w' ⟨he,hw⟩=>?_;subst hw;exact ⟨[],he,⟨.refl _,.nil⟩,.refl _ _,[],Zao,⟨[],[],I,⟨I,hlen,.inl ⟨I,h0⟩⟩,I⟩,by simp⟩
 ·have Uc:g<w.heap.size:=(Z3.1 hg).1;by_cases nX:l=[]
  ·subst nX;refine (AnyF.slices_SortFunc_none Tryz.El (some ⟨g,0,none⟩) cap (.func (.func 318) #[] #[.p ND]) w).mono fun e w' ⟨he,hw⟩=>?_;subst hw;exact ⟨[],he,⟨.refl _,.nil⟩,.refl _ _,[g],by simp,⟨[g],[],I,⟨I,hlen,.inr ⟨g,cap,cur,I,hg,kT,kg,pb,tI⟩⟩,I⟩,fun b hb=>.inl hb⟩
  obtain ⟨x0,Tw⟩:=List.exists_mem_of_ne_nil l nX
  let α:={x:Po // eZ (dh r) x.ou=true}
  let _:Inhabited α:=⟨⟨x0,js x0 Tw⟩⟩
  let enc:α->List Value:=fun x=>x.1.cells
  have oF:cur=([]++eF l++cur.toList.drop (l.length*3)).toArray:=by
   apply Array.ext';show cur.toList=_;rw [<- tI,Za,ZX]
  generalize WE:cur.toList.drop (l.length*3)=post at oF
  let la:List α:=l.attach.map fun x=>⟨x.1,js x.1 x.2⟩
  have PJ:la.map (fun x:α=>x.1)=l:=by
   show (l.attach.map fun x=>(⟨x.1,js x.1 x.2⟩:α)).map (fun x:α=>x.1)=l
   rw [ZaE];exact List.attach_map_subtype_val l
  have Di:∀ m:List α,(m.map enc).flatten=eF (m.map fun x:α=>x.1):=fun m=>by
   rw [AP];unfold uf;rw [ZaE];rfl
  have ES:la.length=l.length:=by
   show (l.attach.map fun x=>(⟨x.1,js x.1 x.2⟩:α)).length=_
   rw [Zd,List.length_attach]
  have sJ:w.heap[g]? = some (.cells ([]++(la.map enc).flatten++post).toArray 188 (0,0)):=by rw [Di,PJ,<- oF];exact hg
  have key:=Cp Tryz.El (k:=3) isAgg188 sizeOf188 (enc:=enc) (fun _=>rfl)
   (fun x u hu=>by
    simp only [enc,Po.cells,ZQ,Zo,or_false] at hu;rcases hu with rfl | rfl | rfl <;> rfl)
   (ON r (fun x:α=>x.1)) (g:=318) (b:=g) (cap:=cap) (cb:=#[.p ND]) (l:=la) (pre:=[]) (cur:=post) (E:=188) (w:=w)
   (enters_of func318 (by kernel_rfl) I) sJ (by rw [ES];omega)
   (fun w' hk x y=>SG (r:=r) (x:=x.1) (y:=y.1) hd x.2 y.2 (eR f I h14 hk) (hm.kb YT hk))
  rw [ES] at key;refine Calls.mono key ?_;rintro e w' ⟨he,l',jE,hpw,hk,dQ⟩;have zy:(l'.map fun x:α=>x.1).length=l.length:=by rw [Zd,jE.length_eq,ES]
  rw [Di] at dQ;refine ⟨l'.map fun x:α=>x.1,he,⟨?_,?_⟩,hk,[g],by simp,⟨[g],[],I,⟨I,?_,.inr ⟨g,cap,_,?_,dQ,?_,kg,?_,?_⟩⟩,I⟩,fun b hb=>.inl hb⟩
  ·have:=jE.map (fun x:α=>x.1)
   rwa [PJ] at this
  ·rw [ZbB];refine hpw.imp fun {x y} h=>?_;unfold ltOf at h;rwa [decide_eq_false_iff_not] at h
  ·exact gA _
  ·rw [zy]
  ·rw [zy];exact kT
  ·rw [<- pb];have:=congrArg (fun x:Array Value=>x.size) oF
   simp only [Zbq,Zg,gA,Zaf,ZF] at this ⊢;rw [zy,this]
  ·show List.take _ ([]++eF _++post)=_;rw [Za,Zai (by rw [gA];exact Zv _),Z9 (by rw [gA];exact Zv _)]
end Go.Proofs.A1
namespace Go.Proofs.A1
open Go Go.SL
open Tryz
open Tryz renaming prog->T_
set_option maxHeartbeats 2000000 in
theorem vm {r:Ro} {s d t p:Value} {w:World} (h:RR w r s d t p) (c6:mX r) (WG:r.po.length<=1000000) :
  a8 T_ 184 [RA r s d t p] w [] (fun _:Value×Value×Value×Value=>True) (fun x=>RA r x.1 x.2.1 x.2.2.1 x.2.2.2) (fun x=>[J1 r x.1,J2 r x.2.1,J3 r x.2.2.1,PB x.2.2.2 r.po]):=by
 obtain ⟨h1,h2,h3,h4⟩:=h.one;have PF:=h.po;have o9:=h.po;obtain ⟨a4,cp4,q4,o4,rfl,q7,jF,zD,tI⟩:=o9;rw [cT] at *;unfold maxLen at jF;unfold RA;refine aS func184 I I ?_
 (refine Jr<|Jy I I fun _ _=>Jz I I fun _ _=>Ji<|ab (bU (.there .here)) I<|Jz I I fun _ _=>ak (.of I) (.of I) .here I I (dO I I h1 h2 h3 I) (br I) ai<|Jn<|Jq ?_)
 have hs0:=h.sr;have Dm:=h.de
 with_reducible refine dL 7 (by kernel_rfl) ?_
 (refine au (fun β=>(ar (.of I) ae)) dH I<|au (fun β=>(ag (.of I) (At.lit bE I))) dH I ?_)
 dsimp only [Nat.zero_add,Nat.reduceAdd]
 with_reducible apply dZ (ι:=Value) (Φ:=fun _=>True) (val:=id) (own:=fun x=>[J1 r x]) (g:=id) (B:=[]) (args:=fun _=>[s])
 case hg=>exact fun x=>⟨x,I⟩
 case hB=>rfl
 case hr=>exact fun β=>a7 (.of I) (.o I .nil) inferInstance I
 case hd=>rfl
 case hc=>exact fun β w' hb=>H7 (h.sr.keeps hb.mem.keeps) (by have:=c6.1;omega)
 dsimp only [id_eq,Nat.reduceAdd]
 (refine au (fun β=>(ar (.of I) ae)) dH I<|au (fun β=>(ag (.of I) (At.lit bE I))) dH I ?_)
 dsimp only [Nat.zero_add,Nat.reduceAdd]
 with_reducible apply dZ (ι:=Value) (Φ:=fun _=>True) (val:=id) (own:=fun x=>[J2 r x]) (g:=id) (B:=[]) (args:=fun _=>[d])
 case hg=>exact fun x=>⟨x,I⟩
 case hB=>rfl
 case hr=>exact fun β=>a7 (.of I) (.o I .nil) inferInstance I
 case hd=>rfl
 case hc=>exact fun β w' hb=>H9 (h.de.keeps hb.mem.keeps) (by have:=c6.2.1;omega)
 dsimp only [id_eq,Nat.reduceAdd];refine au (fun β=>(ar (.of I) ae)) dH I ?_;refine eN fun β=>?_;dsimp only [dW,Za,Zb,List.append_eq,Nat.reduceAdd];generalize β 2=sv;generalize β 5=dv;clear β;refine aK (v:=sv) (by exact .here) fun sa sc e=>?_;subst e;refine aK (v:=dv) (by exact Take.there .here) fun da dc e=>?_;subst e;refine bF (rs:=[7]) (by kernel_rfl) (by simp) (Zp.2 ⟨?_,fun _ h=>absurd h Zo⟩);refine bK I ?_
 (refine ak (.of I) (.of I) bE I I (dE I) (br I) ai<|Jn ?_)
 refine bF (rs:=[8]) (by kernel_rfl) (by simp) (Zp.2 ⟨?_,fun _ h=>absurd h Zo⟩);refine bK I ?_
 (refine bD I I ae<|Jn ?_)
 refine bF (rs:=[9]) (by kernel_rfl) (by simp) (Zp.2 ⟨?_,fun _ h=>absurd h Zo⟩);refine bK I ?_
 (refine ak (.of I) (.of I) .here I I (dE I) (br I) ai<|Jn ?_)
 with_reducible refine cn (by kernel_rfl) ?_
 (refine Jt<|Jr<|bD I I ae<|JL I c7 I ?_)
 refine JN bJ I (fun w1 aT=>H6 (h.keeps aT.keeps).ti (by have:=c6.2.2;omega)) ?_;intro tv _;dsimp only [id_eq,Zb,Za];refine aK (v:=tv) (by exact .here) fun ta tc e=>?_;subst e
 (refine bD I I ae<|ak (.of I) (.of I) (.there .here) I I (dE I) (br I) ai<|Ji<|bD I I ae<|JL I ek I<|JI I ?_)
 with_reducible apply bh
 case hr=>
  with_reducible apply F0
  case hx=>exact Is.of I
  case hy=>exact Is.of I
  case hl=>exact Zv _
  case hb=>omega
  case hz=>rfl
  case hsz=>rfl
  case h63=>omega
 case hd=>rfl
 intro bg Uc
 (refine bD I I ae<|ak (.of I) (.of I) (.there .here) I I (dE I) (br I) ai<|Ji<|bD I I ae<|JL I .here I<|bD I I ae<|JL I nR I ?_)
 with_reducible apply J7
 case hx=>exact Is.of I
 case hy=>exact Is.of I
 case ht=>exact Take.there .here
 case hsrc=>exact fun w' aB=>PF.keeps aB.keeps
 case h1=>exact AR r.po
 case hfit=>
  simp [Value.cells]
 case hd=>rfl
 rw [Z9 (by rw [cT];exact Zv _),<- AP,Av _ _ (by rw [gA];simp [Value.cells])];refine ct (n:=r.po.length) (xs:=eF r.po) (cap:=r.po.length) (g:=bg) (E:=188) (sz:=3) (by exact .here) (Zv _) (by unfold maxLen;omega) ?_ (gA _) ?_
 ·rw [Zg,ZaU,gA];simp [Value.cells]
 (refine Ji<|ab (bU (.there .here)) I<|ak (.of I) (.of I) ek I I (dO I I I I I I) (br I) ai<|Jn<|Je ?_)
 with_reducible first|apply aO|apply aP
 case he=>exact ig I inferInstance I .here ai (by rfl)
 case hR=>
  intro w' aB;exact aC (.slice sa r.sr.length sc,.slice da r.de.length dc,.slice ta r.ti.length tc,.w bg r.po.length r.po.length) trivial (by exact .cons c7 (.cons c7 (.cons cI (.cons (.there .here) .nil)))) aB I
end Go.Proofs.A1
namespace Go.Proofs.A1
structure Sw (po:List Po) (D:List ByteArray) (f:Po->Bool):Prop where
 de:∀ p∈po,p.ou∈D->f p=true
 up:∀ p∈po,∀ q∈po,f q=true->q.lv=p.lv->q.ip=p.ou->f p=true
theorem Sw.start (po:List Po) (D:List ByteArray):Sw po D fun _=>true:=⟨fun _ _ _=>rfl,fun _ _ _ _ _ _ _=>rfl⟩
theorem Sw.step {po:List Po} {D:List ByteArray} {f:Po->Bool} (h:Sw po D f) {v:Int} {o:ByteArray} (hD:o ∉ D) (hu:∀ q∈po,f q=true->¬ (q.lv=v/\q.ip=o)):Sw po D fun x=>f x&&!rM v o x:=by
 refine ⟨fun p hp hd=>?_,fun p hp q hq hf e1 e2=>?_⟩
 ·have h1:=h.de p hp hd;have h2:rM v o p=false:=by
   unfold rM;have:¬ p.ou=o:=fun e=>hD (e ▸ hd)
   simp [this]
  simp [h1,h2]
 ·rw [Bool.and_eq_true] at hf;have h1:=h.up p hp q hq hf.1 e1 e2;have h2:rM v o p=false:=by
   unfold rM;by_cases a:p.lv=v
   ·by_cases b:p.ou=o
    ·exact absurd ⟨e1.trans a,e2.trans b⟩ (hu q hq hf.1)
    ·simp [b]
   ·simp [a]
  simp [h1,h2]
theorem pV (po:List Po) (f:Po->Bool) (v:Int) (o:ByteArray):(po.filter f).filter (fun x=>!rM v o x)=po.filter fun x=>f x&&!rM v o x:=by
 rw [List.filter_filter];congr 1;funext x;exact Bool.and_comm _ _
end Go.Proofs.A1
namespace Go.Proofs.A1
open Go Go.SL
def Ro.wp (r:Ro) (po:List Po):Ro:=⟨r.lv,r.ma,r.sr,r.de,r.ti,po⟩
variable {S:List Po} {T:List ByteArray} {i:Nat} {j:Jb} {k m:Nat} {p:Po} {po q:List Po} {r:Ro} {v:Int}
theorem jy.wp (h:jy r po):jy (r.wp q) po:=⟨h.rV,h.Li,h.out,h.xU,h.Q7,h.DZ,h.use⟩
theorem oS.wp (h:oS r):oS (r.wp q):=⟨h.sd,h.st,h.dt,h.UZ⟩
theorem DT.wp (h:DT r):DT (r.wp q):=⟨h.nd⟩
theorem rS.wp (h:rS r) {q:List Po} (hq:jy r q):rS (r.wp q):=⟨h.lim,h.Qf.wp,h.len,h.sm,h.dm,h.tm,hq.wp⟩
theorem rS.nd (h:rS r):(cQ r).Nodup:=h.Qf.parts.2.2.1
def yg (D:List ByteArray) (po:List Po):List Po:=po.filter fun p=>eZ D p.ou||po.any fun q=>decide (q.lv=p.lv)&&decide (q.ip=p.ou)
def He (D:List ByteArray):Nat->List Po->List Po
 | 0,po=>po
 | n+1,po=>He D n (yg D po)
def An (D:List ByteArray) (po:List Po):List Po:=He D po.length po
theorem Cl {D:List ByteArray} {po:List Po} (h:yg D po=po):∀ n,He D n po=po
 | 0=>rfl
 | n+1=>by rw [He,h];exact Cl h n
theorem FO {D:List ByteArray}:∀ (n:Nat) (po:List Po) (f:Po->Bool),Sw po D f->(po.filter f).length<=n ->
  ∃ g:Po->Bool,Sw po D g/\He D n (po.filter f)=po.filter g/\yg D (po.filter g)=po.filter g
 | 0, po, f, h, hl => by
  have e:po.filter f=[]:=Z5 (by omega);exact ⟨f,h,I,by rw [e];rfl⟩
 | n + 1, po, f, h, hl => by
  have hS:Sw po D fun p=>f p&&(eZ D p.ou||(po.filter f).any fun q=>decide (q.lv=p.lv)&&decide (q.ip=p.ou)):=by
   refine ⟨fun p hp hd=>?_,fun p hp q hq hf e1 e2=>?_⟩
   ·have:=h.de p hp hd;show (f p&&(eZ D p.ou||_))=true;rw [this,fE.2 hd];rfl
   ·rw [Zn] at hf;have h1:=h.up p hp q hq hf.1 e1 e2;rw [h1,Zaz,ZS]
    right
    rw [ZR];exact ⟨q,Zu.2 ⟨hq,hf.1⟩,by simp [e1,e2]⟩
  have e:yg D (po.filter f)=po.filter fun p=>f p&&(eZ D p.ou||(po.filter f).any fun q=>decide (q.lv=p.lv)&&decide (q.ip=p.ou)):=by
   unfold yg;rw [Zbz];refine Zbe fun p _=>?_;rw [Bool.and_comm]
  by_cases hfx:yg D (po.filter f)=po.filter f
  ·exact ⟨f,h,Cl hfx _,hfx⟩
  ·have aL:(yg D (po.filter f)).length<(po.filter f).length:=by
    have hle:(yg D (po.filter f)).length<=(po.filter f).length:=ZW _ _;rcases Zbx (yg D (po.filter f)).length (po.filter f).length with h1 | h1
    ·exact h1
    ·exact absurd (List.filter_sublist.eq_of_length (Nat.le_antisymm hle h1)) hfx
   rw [He,e];exact FO n po _ hS (by rw [<- e];omega)
structure Swd (po:List Po) (D:List ByteArray) (f:Po->Bool):Prop where
 sw:Sw po D f
 us:∀ p∈po,f p=true->p.ou∈D\/∃ q∈po,f q=true/\q.lv=p.lv/\q.ip=p.ou
theorem FP (D:List ByteArray) (po:List Po):∃ g,Swd po D g/\An D po=po.filter g:=by
 obtain ⟨g,h1,h2,h3⟩:=FO (D:=D) po.length po (fun _=>true) ⟨fun _ _ _=>rfl,fun _ _ _ _ _ _ _=>rfl⟩ (ZW _ _);rw [ZaF.2 fun _ _=>rfl] at h2
 refine ⟨g,⟨h1,fun p hp hg=>?_⟩,h2⟩;have hm:p∈yg D (po.filter g):=by rw [h3];exact Zu.2 ⟨hp,hg⟩
 have:=(Zu.1 hm).2;rw [ZS,fE,ZR] at this;rcases this with h | ⟨q,hq,e⟩
 ·exact .inl h
 ·rw [Zn,decide_eq_true_eq,decide_eq_true_eq] at e;obtain ⟨a,b⟩:=Zu.1 hq;exact .inr ⟨q,a,b,e.1,e.2⟩
structure NF (r:Ro) (po:List Po):Prop where
 one:sX po
 out:∀ p∈po,p.ou∈cu r\/p.ou∈cQ r
 xU:∀ p∈po,p.ip∈cN r\/p.ip∈cQ r
 DZ:∀ v,¬ ∃ t∈cQ r,t∈fF po v ((cQ r).length+1) t
theorem jy.acy (h:jy r po):NF r po:=⟨jy.one h.rV,h.out,h.xU,h.DZ⟩
theorem NF.sub (h:NF r po) (f:Po->Bool):NF r (po.filter f):=by
 have hs:∀ p∈po.filter f,p∈po:=fun p hp=>(Zu.1 hp).1
 exact ⟨h.one.filter f,fun p hp=>h.out p (hs p hp),fun p hp=>h.xU p (hs p hp),fun v ⟨t,ht,hc⟩=>h.DZ v ⟨t,ht,BF h.one hs hc⟩⟩
theorem NF.short (hn:oS r) {po:List Po} (h:NF r po):∀ v o m,(cQ r).length+1<=m->fF po v m o=fF po v ((cQ r).length+1) o:=fun v o m hm=>
 qG (T:=cQ r) (jy.tie hn h.out h.xU) (h.DZ v) o hm
theorem NF.tid (hn:oS r) {po:List Po} (h:NF r po) {f:Po->Bool} (hf:Swd po (cu r) f):po.filter f=An (cu r) po:=by
 obtain ⟨g,hg,e⟩:=FP (cu r) po;rw [e];exact O1 h.one (h.short hn) hf.sw.de hf.sw.up hf.us hg.sw.de hg.sw.up hg.us
def Tk.at (t:Tk) (k:Nat):ByteArray:=t.so.getD k ⟨#[]⟩
def Tk.zero:Tk:=⟨⟨#[]⟩,[]⟩
def lL (r:Ro) (t:Tk) (k:Nat):Bool:=!decide (t.at k=⟨#[]⟩)&&!decide (t.at k=jY r (k:Nat) t.de)
def lj (r:Ro) (t:Tk):Nat->List Po->List Po
 | 0,po=>po
 | k+1,po=>if lL r t k then (lj r t k po).filter (fun x=>!rM (k:Nat) t.de x) else lj r t k po
def jn (r:Ro) (l:List Tk):Nat->List Po
 | 0=>r.po
 | i+1=>lj r (l.getD i Tk.zero) (l.getD i Tk.zero).so.length (jn r l i)
def dash:ByteArray:=⟨#[45]⟩
def mC (r:Ro) (t:Tk) (k:Nat):Bool:=lL r t k&&!decide (t.at k=dash)
def mB (r:Ro) (t:Tk):Nat->List Po->Option (List Po)
 | 0,po=>some po
 | k+1,po=>(mB r t k po).bind fun q=>if mC r t k then (ln (r.wp q) (k:Nat) (t.at k) t.de).map fun p=>kV r q (k:Nat) (t.at k) p t.de else some q
def iJ (r:Ro) (l:List Tk) (po:List Po):Nat->Option (List Po)
 | 0=>some po
 | i+1=>(iJ r l po i).bind (mB r (l.getD i Tk.zero) (l.getD i Tk.zero).so.length)
theorem y9 {t:Tk} (h:mB r t k po=none):∀ {m},k<=m->mB r t m po=none:=by
 intro m hm
 induction hm with
 | refl=>exact h
 | step _ ih=>rw [mB,ih];rfl
theorem tt {l:List Tk} (h:iJ r l po k=none):∀ {m},k<=m->iJ r l po m=none:=by
 intro m hm
 induction hm with
 | refl=>exact h
 | step _ ih=>rw [iJ,ih];rfl
def Ev (r:Ro) (l:List Tk) (po:List Po):Nat:=((List.range l.length).find? fun i=>(iJ r l po (i+1)).isNone).getD 0
theorem F1 {l:List Tk} (hi:i<l.length) {q:List Po} (h1:iJ r l po i=some q) (h2:iJ r l po (i+1)=none):Ev r l po=i:=by
 unfold Ev;have:(List.range l.length).find? (fun i=>(iJ r l po (i+1)).isNone)=some i:=by
  rw [List.find?_eq_some_iff_append];refine ⟨by rw [h2];rfl,List.range i,(List.range (l.length-i-1)).map (fun x=>x+i+1),?_,fun j hj=>?_⟩
  ·apply List.ext_getElem
   ·simp;omega
   ·intro n a b;rw [Zby];rcases Zau n i with c | c | c
    ·rw [ZaJ (by simpa using c)];simp
    ·subst c;rw [Zap (by simp)];simp
    ·rw [Zap (by simp;omega)];simp only [ZaB];obtain ⟨d,hd⟩:∃ d,n-i=d+1:=⟨n-i-1,by omega⟩;simp only [hd,List.getElem_cons_succ,Z1,Zby];omega
  ·have hj:=ZU.1 hj;cases hn:iJ r l po (j+1) with
   | some _=>rfl
   | none=>rw [tt hn (show j+1<=i by omega)] at h1;cases h1
 rw [this];rfl
def q5 (r:Ro) (l:List Tk):Int:=iN (fun t=>(r.de.getD (bB (cu r) t.de).toNat ⟨⟨#[]⟩,0,false⟩).pr) l
def Ro.nil:Ro:=⟨0,0,[],[],[],[]⟩
def fX (r:Ro) (l:List Tk):Ro×Int×Int:=
 if 0<=q5 r l then (Ro.nil,q5 r l,31) else
 match iJ r l (An (cu r) (jn r l l.length)) l.length with
 | none=>(Ro.nil,(Ev r l (An (cu r) (jn r l l.length)):Nat),18)
 | some po=>(r.wp po,0,0)
structure GV (r:Ro) (l:List Tk):Prop where
 de:∀ t∈l,t.de∈cu r
 nd:(l.map Tk.de).Nodup
 lv:∀ t∈l,(t.so.length:Int)=r.lv
 so:∀ t∈l,∀ s∈t.so,s=⟨#[]⟩\/s=dash\/s∈cN r
 B2:l.length<=8
theorem GV.wp {l:List Tk} (h:GV r l) (q:List Po):GV (r.wp q) l:=⟨h.de,h.nd,h.lv,h.so,h.B2⟩
def Qd (r:Ro) (t:Tk) (k:Nat) (p:Po):Bool:=(List.range k).any fun i=>lL r t i&&rM (i:Nat) t.de p
theorem lM (r:Ro) (t:Tk):∀ (k:Nat) (po:List Po),lj r t k po=po.filter fun p=>!Qd r t k p
 | 0,po=>by rw [lj,ZaF.2 fun p _=>by simp [Qd]]
 | k + 1, po => by
  rw [lj,lM r t k po];have e:∀ p,Qd r t (k+1) p=(Qd r t k p||(lL r t k&&rM (k:Nat) t.de p)):=fun p=>by
   unfold Qd;rw [ZbA,List.any_append];simp
  split
  ·rename_i h;rw [Zbz];refine Zbe fun p _=>?_;rw [e,h,Zaz,Bool.not_or,Bool.and_comm]
  ·rename_i h;refine Zbe fun p _=>?_;rw [e,ZaG.2 h,Bool.false_and,Bool.or_false]
def Mn (r:Ro) (l:List Tk) (i:Nat) (p:Po):Bool:=(List.range i).any fun j=>Qd r (l.getD j Tk.zero) (l.getD j Tk.zero).so.length p
theorem jh (r:Ro) (l:List Tk):∀ i,jn r l i=r.po.filter fun p=>!Mn r l i p
 | 0=>by rw [jn,ZaF.2 fun p _=>by simp [Mn]]
 | i + 1 => by
  rw [jn,lM,jh r l i,Zbz];refine Zbe fun p _=>?_;have e:Mn r l (i+1) p=(Mn r l i p||Qd r (l.getD i Tk.zero) (l.getD i Tk.zero).so.length p):=by
   unfold Mn;rw [ZbA,List.any_append];simp
  rw [e,Bool.not_or,Bool.and_comm]
theorem GJ {t:Tk}:Qd r t k p=true↔∃ i,i<k/\lL r t i=true/\p.lv=(i:Nat)/\p.ou=t.de:=by
 unfold Qd rM;simp [ZR]
theorem Qe {l:List Tk}:Mn r l l.length p=true↔∃ t∈l,∃ i,i<t.so.length/\lL r t i=true/\p.lv=(i:Nat)/\p.ou=t.de:=by
 unfold Mn;rw [ZR];constructor
 ·rintro ⟨j,hj,h⟩;have hj:=ZU.1 hj;rw [Zk,Zc hj] at h;exact ⟨l[j],Zj hj,GJ.1 h⟩
 ·rintro ⟨t,ht,h⟩;obtain ⟨j,hj,rfl⟩:=ZA ht;refine ⟨j,ZU.2 hj,?_⟩;rw [Zk,Zc hj];exact GJ.2 h
theorem mO {r:Ro} {W:List Po->Jb->Option (List Nat)}:∀ {a b:List Jb} {po:List Po},tq r W po (a++b)=(tq r W po a).bind fun q=>tq r W q b
 | [],b,po=>rfl
 | j :: a, b, po => by
  rw [Zb,tq,tq];cases W po j with
  | none=>rfl
  | some p=>exact mO
def wY (r:Ro) (t:Tk):Nat->List Jb
 | 0=>[]
 | k+1=>wY r t k++if mC r t k then [⟨(k:Nat),t.at k,t.de⟩] else []
def wX (r:Ro) (l:List Tk):Nat->List Jb
 | 0=>[]
 | i+1=>wX r l i++wY r (l.getD i Tk.zero) (l.getD i Tk.zero).so.length
def jW (r:Ro) (po:List Po) (j:Jb):Option (List Nat):=if eZ (cu r) j.d then ln (r.wp po) j.v j.s j.d else none
theorem FA {so de:ByteArray} {p:List Nat} (h:ln r v so de=some p):(dJ r r.po v so).least (ll r de) p:=by
 unfold ln at h;split at h
 ·cases h
 ·rename_i e;cases h;exact Wn.UH e
theorem Ra (r:Ro):∀ po j p,jW r po j=some p->(dJ r po j.v j.s).ok p/\(dJ r po j.v j.s).fin p=k6 r j.d:=by
 intro po j p h;unfold jW at h;split at h
 ·rename_i hd;have hl:=FA h;exact ⟨hl.1,hl.2.1.trans (Mo (r:=r) (fE.1 hd)).symm⟩
 ·cases h
theorem tu {r:Ro} {t:Tk} (ht:t.de∈cu r):∀ (k:Nat) (po:List Po),mB r t k po=tq r (jW r) po (wY r t k)
 | 0,po=>rfl
 | k + 1, po => by
  rw [mB,wY,mO,tu ht k po];congr 1;funext q;cases mC r t k with
  | false=>rfl
  | true =>
   rw [if_pos I,if_pos I,tq];unfold jW;rw [if_pos (fE.2 ht)];cases ln (r.wp q) (k:Nat) (t.at k) t.de with
   | none=>rfl
   | some p=>rfl
theorem tr {r:Ro} {l:List Tk} (hl:∀ t∈l,t.de∈cu r) (po:List Po):∀ i,i<=l.length->iJ r l po i=tq r (jW r) po (wX r l i)
 | 0,_=>rfl
 | i + 1, hi => by
  rw [iJ,wX,mO,tr hl po i (by omega)];congr 1;funext q;refine tu ?_ _ _;rw [Zk,Zc (by omega)];exact hl _ (Zj _)
theorem pH {t:Tk}:j∈wY r t k↔∃ i,i<k/\mC r t i=true/\j=⟨(i:Nat),t.at i,t.de⟩:=by
 induction k with
 | zero=>simp [wY]
 | succ k ih =>
  rw [wY,Zz,ih];constructor
  ·rintro (⟨i,h1,h2,h3⟩ | h)
   ·exact ⟨i,by omega,h2,h3⟩
   ·split at h
    ·rename_i hb;exact ⟨k,by omega,hb,ZD.1 h⟩
    ·cases h
  ·rintro ⟨i,h1,h2,h3⟩;by_cases e:i=k
   ·subst e
    right
    rw [if_pos h2,h3];exact ZD.2 I
   ·exact .inl ⟨i,by omega,h2,h3⟩
theorem pG {l:List Tk} (hi:i<=l.length):j∈wX r l i↔∃ m,∃ hm:m<i,∃ k,k<(l[m]'(by omega)).so.length/\mC r (l[m]'(by omega)) k=true/\j=⟨(k:Nat),(l[m]'(by omega)).at k,(l[m]'(by omega)).de⟩:=by
 induction i with
 | zero=>simp [wX]
 | succ i ih =>
  rw [wX,Zz,ih (by omega),Zk,Zc (show i<l.length by omega),Zaq,pH];constructor
  ·rintro (⟨m,hm,h⟩ | h)
   ·exact ⟨m,by omega,h⟩
   ·exact ⟨i,by omega,h⟩
  ·rintro ⟨m,hm,h⟩;by_cases e:m=i
   ·subst e;exact .inr h
   ·exact .inl ⟨m,by omega,h⟩
def JbD (a b:Jb):Prop:=¬(b.v=a.v/\b.d=a.d)
theorem A4 (r:Ro) (t:Tk):∀ k,(wY r t k).Pairwise JbD
 | 0=>.nil
 | k + 1 => by
  rw [wY,List.pairwise_append];refine ⟨A4 r t k,?_,fun a ha b hb=>?_⟩
  ·split
   ·exact List.pairwise_singleton _ _
   ·exact .nil
  ·split at hb
   ·obtain ⟨i,h1,_,rfl⟩:=pH.1 ha;rw [ZD.1 hb];rintro ⟨e,_⟩;dsimp only at e;omega
   ·cases hb
theorem zM {l:List Tk} (hn:(l.map Tk.de).Nodup) {i j:Nat} (hi:i<l.length) (hj:j<l.length) (hne:i≠j):l[i].de≠l[j].de:=by
 intro e;have h:=Zab.1 hn;have hl:(l.map Tk.de).length=l.length:=Zd _;rcases Zau i j with c | c | c
 ·exact h i j (by omega) (by omega) c (by simpa using e)
 ·exact hne c
 ·exact h j i (by omega) (by omega) c (by simpa using e.symm)
theorem A3 {r:Ro} {l:List Tk} (hn:(l.map Tk.de).Nodup):∀ i,i<=l.length->(wX r l i).Pairwise JbD
 | 0,_=>.nil
 | i + 1, hi => by
  rw [wX,List.pairwise_append];refine ⟨A3 hn i (by omega),A4 r _ _,fun a ha b hb=>?_⟩;rw [Zk,Zc (show i<l.length by omega),Zaq] at hb;obtain ⟨m,hm,k,_,_,rfl⟩:=(pG (by omega)).1 ha;obtain ⟨k',_,_,rfl⟩:=pH.1 hb;rintro ⟨_,e⟩;exact zM hn (show i<l.length by omega) (show m<l.length by omega) (by omega) e
theorem lh {t:Tk}:lL r t k=true↔t.at k≠⟨#[]⟩/\t.at k≠jY r (k:Nat) t.de:=by
 unfold lL;simp
theorem k9 {t:Tk}:mC r t k=true↔t.at k≠⟨#[]⟩/\t.at k≠jY r (k:Nat) t.de/\t.at k≠dash:=by
 unfold mC;rw [Zn,lh];simp [and_assoc]
theorem Tk.at_mem {t:Tk} (h:k<t.so.length):t.at k∈t.so:=by
 unfold Tk.at
 rw [Zk,Zc h];exact Zj h
def oR (r:Ro) (l:List Tk):List Po:=An (cu r) (jn r l l.length)
def Vz (r:Ro) (l:List Tk) (v:Int) (y:ByteArray):Prop:=∃ t∈l,∃ i,i<t.so.length/\lL r t i=true/\v=(i:Nat)/\y=t.de
theorem pY (h:rS r) {l:List Tk} (hl:GV r l):jy r (oR r l)/\(∀ v y,y∈cu r->¬ Vz r l v y->eD (oR r l) v y=eD r.po v y/\qF (oR r l) v (cN r) y=qF r.po v (cN r) y)/\∀ v y,Vz r l v y->eD (oR r l) v y=none:=by
 obtain ⟨f,hf,e⟩:=FP (cu r) (jn r l l.length);have hg:∀ p,(!Mn r l l.length p)=true↔¬ Vz r l p.lv p.ou:=fun p=>by
  rw [Zbc,<- Zar];exact not_congr Qe
 unfold oR;rw [e,jh] at *;obtain ⟨k1,k2,k3⟩:=Qc (g:=fun p=>!Mn r l l.length p) (f:=f) h.wJ h.val (fun p hp ht=>(hg p).2 fun ⟨t,htl,i,_,_,_,e5⟩=>h.wJ.dt _ (hl.de t htl) (e5 ▸ ht)) hf.sw.de hf.sw.up hf.us;refine ⟨k1,fun v y hy hd=>k2 v y hy fun p _ e1 e2=>(hg p).2 (by rw [e1,e2];exact hd),fun v y hd=>k3 v y fun p _ e1 e2=>?_⟩;have:¬ (!Mn r l l.length p)=true:=fun q=>(hg p).1 q (by rw [e1,e2];exact hd)
 exact Zar _ ▸ this
theorem vu (h:rS r) {l:List Tk} (hl:GV r l) {t:Tk} (ht:t∈l) {k:Nat} (hk:k<t.so.length) (hj:mC r t k=true):(0<=((k:Nat):Int)/\((k:Nat):Int)<r.lv)/\t.at k∈cN r/\t.de∈cu r/\eD (oR r l) (k:Nat) t.de=none:=by
 have h1:=hl.lv t ht;obtain ⟨j1,j2,j3⟩:=k9.1 hj;refine ⟨by omega,?_,hl.de t ht,(pY h hl).2.2 _ _ ⟨t,ht,k,hk,lh.2 ⟨j1,j2⟩,I,I⟩⟩;rcases hl.so t ht _ (Tk.at_mem hk) with e | e | e
 ·exact absurd e j1
 ·exact absurd e j3
 ·exact e
theorem K9 (h:rS r) {l:List Tk} (hl:GV r l) {i:Nat} (hi:i<l.length) {k:Nat} (hk:k<=l[i].so.length) {q0 q:List Po} (h0:iJ r l (oR r l) i=some q0) (h1:mB r l[i] k q0=some q) :
  jy r q/\∀ m,k<=m->m<l[i].so.length->lL r l[i] m=true->eD q (m:Nat) l[i].de=none:=by
 have kz:=hl.de l[i] (Zj hi);rw [tr hl.de _ i (by omega)] at h0;rw [tu kz] at h1;have h2:tq r (jW r) (oR r l) (wX r l i++wY r l[i] k)=some q:=by rw [mO,h0];exact h1
 have zA:∀ j∈wX r l i++wY r l[i] k,∃ m,∃ hm:m<l.length,∃ n,n<l[m].so.length/\mC r l[m] n=true/\j=⟨(n:Nat),l[m].at n,l[m].de⟩/\(m=i->n<k):=by
  intro j hj;rcases Zz.1 hj with hj | hj
  ·obtain ⟨m,hm,n,e1,e2,e3⟩:=(pG (by omega)).1 hj;exact ⟨m,by omega,n,e1,e2,e3,fun e=>by omega⟩
  ·obtain ⟨n,e1,e2,e3⟩:=pH.1 hj;exact ⟨i,hi,n,by omega,e2,e3,fun _=>e1⟩
 obtain ⟨k1,_,k3⟩:=AA h.wJ h.nd (Ra r) _ _ _ (pY h hl).1 (fun j hj=>by
   obtain ⟨m,hm,n,e1,e2,rfl,_⟩:=zA j hj;exact vu h hl (Zj hm) e1 e2) (List.pairwise_append.2 ⟨A3 hl.nd i (by omega),A4 r _ _,fun a ha b hb=>by
   obtain ⟨m,hm,n,_,_,rfl⟩:=(pG (by omega)).1 ha;obtain ⟨n',_,_,rfl⟩:=pH.1 hb;rintro ⟨_,e⟩;exact zM hl.nd hi (show m<l.length by omega) (by omega) e⟩) h2
 refine ⟨k1,fun m aT me yy=>?_⟩;rw [(k3 (m:Nat) l[i].de kz fun j hj ⟨e1,e2⟩=>by
  obtain ⟨x,hx,n,_,_,rfl,e5⟩:=zA j hj;by_cases c:x=i
  ·subst c;have:=e5 I;dsimp only at e1;omega
  ·exact zM hl.nd hx hi c e2.symm).2]
 exact (pY h hl).2.2 _ _ ⟨l[i],Zj hi,m,me,yy,I,I⟩
theorem SI (h:rS r) {l:List Tk} (hl:GV r l) {q:List Po} (h0:iJ r l (oR r l) l.length=some q) :
  jy r q/\(∀ v y,y∈cu r->¬ Vz r l v y->qF q v (cN r) y=qF r.po v (cN r) y) /\
  ∀ t∈l,∀ k,k<t.so.length->lL r t k=true->qF q (k:Nat) (cN r) t.de=if t.at k=dash then ⟨#[]⟩ else t.at k:=by
 rw [tr hl.de _ _ (Zv _)] at h0;have zA:∀ j∈wX r l l.length,∃ t∈l,∃ n,n<t.so.length/\mC r t n=true/\j=⟨(n:Nat),t.at n,t.de⟩:=by
  intro j hj;obtain ⟨m,hm,n,e1,e2,e3⟩:=(pG (Zv _)).1 hj;exact ⟨_,Zj hm,n,e1,e2,e3⟩
 obtain ⟨k1,k2,k3⟩:=AA h.wJ h.nd (Ra r) _ _ _ (pY h hl).1 (fun j hj=>by
   obtain ⟨t,ht,n,e1,e2,rfl⟩:=zA j hj;exact vu h hl ht e1 e2) (A3 hl.nd _ (Zv _)) h0
 have hDr:∀ t∈l,∀ n,n<t.so.length->mC r t n=true->Vz r l (n:Nat) t.de:=fun t ht n hn hj=>by
  obtain ⟨j1,j2,_⟩:=k9.1 hj;exact ⟨t,ht,n,hn,lh.2 ⟨j1,j2⟩,I,I⟩
 refine ⟨k1,fun v y hy hd=>?_,fun t ht k hk yy=>?_⟩
 ·rw [(k3 v y hy fun j hj ⟨e1,e2⟩=>by
   obtain ⟨t,ht,n,a1,a2,rfl⟩:=zA j hj;exact hd (by rw [e1,e2];exact hDr t ht n a1 a2)).1]
  exact ((pY h hl).2.1 v y hy hd).2
 ·by_cases W8:t.at k=dash
  ·rw [if_pos W8,(k3 (k:Nat) t.de (hl.de t ht) fun j hj ⟨e1,e2⟩=>by
    obtain ⟨t',HH,n,a1,a2,rfl⟩:=zA j hj;dsimp only at e1 e2;obtain ⟨x,hx,rfl⟩:=ZA ht;obtain ⟨x',Tx,rfl⟩:=ZA HH;have e:x=x':=Classical.byContradiction fun c=>zM hl.nd hx Tx c e2
    subst e;have e3:k=n:=by omega
    subst e3;exact (k9.1 a2).2.2 W8).1]
   exact Ib (fun hs=>h.wJ.sd _ hs (hl.de t ht)) ((pY h hl).2.2 _ _ ⟨t,ht,k,hk,yy,I,I⟩)
  ·rw [if_neg W8];obtain ⟨d1,d2⟩:=lh.1 yy;have hj:mC r t k=true:=k9.2 ⟨d1,d2,W8⟩;obtain ⟨x,hx,rfl⟩:=ZA ht;exact k2 ⟨(k:Nat),l[x].at k,l[x].de⟩ ((pG (Zv _)).2 ⟨x,hx,k,hk,hj,I⟩)
def xR (r:Ro) (v:Int):Nat->List Po->List Po
 | 0,po=>po
 | i+1,po=>if nr (xR r v i po) v (dq r i) then xR r v i po else (xR r v i po).filter fun x=>!rM v (dq r i) x
def B5 (r:Ro):Nat->List Po->List Po
 | 0,po=>po
 | k+1,po=>xR r (k:Nat) r.ti.length (B5 r k po)
def ye (r:Ro):Nat->List Po->List Po
 | 0,po=>po
 | n+1,po=>B5 r r.lv.toNat (ye r n po)
theorem uY {o:ByteArray}:nr po v o=true↔∃ p∈po,p.lv=v/\p.ip=o:=by
 unfold nr yp;rw [ZR];exact ⟨fun ⟨p,hp,h⟩=>⟨p,hp,by simpa using h⟩,fun ⟨p,hp,h⟩=>⟨p,hp,by simpa using h⟩⟩
theorem Ad :∀ {a b:Nat},a<=b->∀ p∈xR r v b po,p∈xR r v a po:=by
 intro a b h
 induction h with
 | refl=>exact fun _ hp=>hp
 | step _ ih =>
  intro p hp;rw [xR] at hp;split at hp
  ·exact ih p hp
  ·exact ih p (Zu.1 hp).1
theorem Ab :∀ {a b:Nat},a<=b->∀ p∈B5 r b po,p∈B5 r a po:=by
 intro a b h
 induction h with
 | refl=>exact fun _ hp=>hp
 | step _ ih=>exact fun p hp=>ih p (Ad (Zi _) p hp)
theorem NU :∀ {a b:Nat},a<=b->∀ p∈ye r b po,p∈ye r a po:=by
 intro a b h
 induction h with
 | refl=>exact fun _ hp=>hp
 | step _ ih=>exact fun p hp=>ih p (Ab (Zi _) p hp)
def X8 (D:List ByteArray) (po S:List Po):Prop:=∃ f,Sw po D f/\S=po.filter f
theorem FC {r:Ro} (hn:oS r) {v:Int} {po:List Po}:∀ (m:Nat) {S:List Po},m<=r.ti.length->X8 (cu r) po S->X8 (cu r) po (xR r v m S)
 | 0,_,_,h=>h
 | m + 1, S, hm, h => by
  obtain ⟨f,h1,h2⟩:=FC hn m (S:=S) (by omega) h;rw [xR];split
  ·exact ⟨f,h1,h2⟩
  ·rename_i hu;rw [h2,pV];refine ⟨_,h1.step (v:=v) (o:=dq r m) (fun hd=>hn.dt _ hd (mM (by omega))) (fun q hq hf e=>hu ?_),I⟩;rw [h2];exact uY.2 ⟨q,Zu.2 ⟨hq,hf⟩,e⟩
theorem FB {r:Ro} (hn:oS r) {po:List Po}:∀ (m:Nat) {S:List Po},X8 (cu r) po S->X8 (cu r) po (B5 r m S)
 | 0,_,h=>h
 | m+1,_,h=>FC hn _ (Zv _) (FB hn m h)
theorem FE {r:Ro} (hn:oS r) {po:List Po}:∀ (m:Nat),X8 (cu r) po (ye r m po)
 | 0=>⟨_,Sw.start _ _,(ZaF.2 fun _ _=>rfl).symm⟩
 | m+1=>FB hn _ (FE hn m)
theorem I4 (hi:i<m) {p:Po} (hp:p∈xR r v m S) (hv:p.lv=v) (ho:p.ou=dq r i):∃ q∈S,q.lv=p.lv/\q.ip=p.ou:=by
 have mD:=Ad (show i+1<=m from hi) p hp;rw [xR] at mD;split at mD
 ·rename_i hu;obtain ⟨q,hq,e1,e2⟩:=uY.1 hu;exact ⟨q,Ad (Zi _) q hq,by rw [e1,hv],by rw [e2,ho]⟩
 ·have:=(Zu.1 mD).2;unfold rM at this;simp [hv,ho] at this
theorem I0 (hp:p∈B5 r m S) (hv:0<=p.lv/\p.lv<(m:Nat)) {i:Nat} (hi:i<r.ti.length) (ho:p.ou=dq r i):∃ q∈S,q.lv=p.lv/\q.ip=p.ou:=by
 obtain ⟨k,hk⟩:∃ k:Nat,p.lv=(k:Nat):=⟨p.lv.toNat,by omega⟩;have mD:=Ab (show k+1<=m by omega) p hp;rw [B5] at mD;obtain ⟨q,hq,e⟩:=I4 hi mD hk ho;exact ⟨q,Ab (Zi _) q hq,e⟩
inductive Sb (po:List Po) (T:List ByteArray):Nat->Po->Prop
 | zero {p:Po}:p∈po->p.ou∈T->Sb po T 0 p
 | next {n:Nat} {p q:Po}:p∈po->p.ou∈T->q.lv=p.lv->q.ip=p.ou->Sb po T n q->Sb po T (n+1) p
theorem Sb.mem {n:Nat} (h:Sb po T n p):p∈po:=by cases h <;> assumption
theorem Sb.it (h1:sX po) {n:Nat} {p:Po} (h:Sb po T n p):∃ o∈T,mR po p.lv n o=some p.ou:=by
 induction h with
 | zero _ ht=>exact ⟨_,ht,rfl⟩
 | next hp ht hv hi hq ih =>
  obtain ⟨o,ho,e⟩:=ih;refine ⟨o,ho,?_⟩;rw [<- hv,wZ e,lK h1 hq.mem,hi]
theorem FG {r:Ro} {po:List Po} (yr:∀ p∈po,p.ou∈cu r\/p.ou∈cQ r) (tb:∀ p∈po,0<=p.lv/\p.lv<r.lv):∀ (n:Nat) (p:Po),p∈ye r n po->¬ Nd po (cu r) p->Sb po (cQ r) n p
 | 0, p, hp, hn => by
  rcases yr p hp with h | h
  ·exact absurd (Nd.de hp h) hn
  ·exact .zero hp h
 | n + 1, p, hp, hn => by
  have o9:=NU (Zi _) p hp;rcases yr p o9 with h | h
  ·exact absurd (Nd.de o9 h) hn
  ·obtain ⟨i,hi,e⟩:=ZA h;have yu:i<r.ti.length:=by unfold cQ at hi;rwa [Zd] at hi
   rw [qm yu] at e;rw [ye] at hp;have hl:=tb p o9;obtain ⟨q,hq,e1,e2⟩:=I0 hp (by omega) yu e.symm;exact .next o9 h e1 e2 (FG yr tb n q hq fun hN=>hn (.up o9 e1 e2 hN))
theorem NT (hn:oS r) {po:List Po} (h:NF r po) (tb:∀ p∈po,0<=p.lv/\p.lv<r.lv):ye r 6 po=An (cu r) po:=by
 obtain ⟨f,hf,e⟩:=FE hn (po:=po) 6;rw [e];refine h.tid hn ⟨hf,fun p hp BX=>?_⟩;have hN:Nd po (cu r) p:=by
  apply Classical.byContradiction;intro hc;have PR:=FG h.out tb 6 p (by rw [e];exact Zu.2 ⟨hp,BX⟩) hc;obtain ⟨o,ho,e1⟩:=PR.it h.one;have e2:mR po p.lv 7 o=some p.ip:=by rw [wZ e1,lK h.one hp]
  have h6:=hn.UZ;exact h.DZ p.lv (E9 (jy.tie hn h.out h.xU) (.inr ⟨ho,ic (b:=7) (by omega) (by rw [e2];rfl)⟩))
 cases hN with
 | de _ hd=>exact .inl hd
 | @up _ q _ hv hi hq =>
  have:=Q4 (S:=po.filter f) (fun q hq hd=>Zu.2 ⟨hq,hf.de q hq hd⟩) (fun q hq x hx hv hi=>Zu.2 ⟨hq,hf.up q hq x (Zu.1 hx).1 (Zu.1 hx).2 hv hi⟩) hq
  obtain ⟨a,b⟩:=Zu.1 this;exact .inr ⟨q,a,b,hv,hi⟩
end Go.Proofs.A1
