/- Parts of the proof: KO KP KQ KR KS KT KU KW KX KYq P5p P5q P5r P5t. -/
import Derived.Test.YteonnodafmegaaaGreatDoorWM08
import Derived.Test.YteonnodafmegaaaGreatDoorWM04
import Derived.Test.YteonnodafmegaaaGreatDoorWM03
import Derived.Shelf.Slices.In.SortNone
import Derived.Test.YteonnodafmegaaaGreatDoorWM02
import Derived.Test.YteonnodafmegaaaGreatDoorWM05
import Derived.Test.YteonnodafmegaaaGreatDoorWM07
import Derived.Test.YteonnodafmegaaaGreatDoorWM01
set_option linter.unusedSectionVars false
set_option linter.unusedVariables false
set_option linter.unusedSimpArgs false
namespace Go.Proofs.A1
open Go Go.SL Go.Shelf Go.RowKit
def qK (l:List Int):List Int:=l.mergeSort fun x y=>decide (x≤y)
theorem qT (l:List Int):(qK l).length=l.length:=List.length_mergeSort _
theorem HH (l:List Int):List.Perm (qK l) l:=List.mergeSort_perm _ _
theorem Mi (l:List Int):(qK l).Pairwise (·≤·):=by
 have:=List.pairwise_mergeSort (le:=fun x y:Int=>decide (x≤y)) (fun a b c h1 h2=>by simp at *;omega) (fun a b=>by simp;omega) l
 exact this.imp fun h=>by simpa using h
theorem H5 {α:Type} [Inhabited α] {enc:α→Value} {w:World} {g n:Nat} {os:Array Obj} {cur:Array Value} {e:TypeId} {fr:Nat×Nat} (d:Array α) (hb:w.heap[g]? = some (.cells cur e fr)) :
  (Go.Sort.grow (Go.Sort.putRow enc (Go.Sort.ahead w n) g 0 d) os).heap[g]? = some (.cells (Go.Sort.putCells enc 0 d cur) e fr):=by
 have hg:g<w.heap.size:=(ZY.1 hb).1
 rw [Go.Sort.heap_grow_old _ _ (by simpa using hg)]
 simp [Go.Sort.putRow,Go.Sort.mapBlock,Go.Sort.ahead,Zbi,hb,Go.Sort.onCells]
theorem Gh {α:Type} [Inhabited α] {enc:α→Value} {w:World} {g n:Nat} {os:Array Obj} (d:Array α):aJ [g] w (Go.Sort.grow (Go.Sort.putRow enc (Go.Sort.ahead w n) g 0 d) os):=by
 refine ⟨rfl,rfl,rfl,Nat.le_add_right _ _,by simp,fun k hk hne=>?_⟩
 rw [Go.Sort.heap_grow_old _ _ (by simpa using hk)]
 have:g≠k:=fun e=>hne (by rw [e];simp)
 simp [Go.Sort.putRow,Go.Sort.mapBlock,Go.Sort.ahead,Zbi,this]
theorem HA {α:Type} [Inhabited α] {enc:α→Value} (cur:Array Value) (ts:List α) (h:ts.length≤cur.size):(Go.Sort.putCells enc 0 ts.toArray cur).toList.take ts.length=ts.map enc:=by
 apply Zap
 intro j
 by_cases hj:j<ts.length
 ·rw [List.getElem?_take_of_lt hj,ZaD]
  simp [Go.Sort.putCells,hj,show j<cur.size by omega]
 ·rw [List.getElem?_take_eq_none (by omega),Zah (by simp;omega)]
theorem DQ {w:World} {g:Nat} {cur:Array Value} {e:TypeId} {l:List Int} (hb:w.heap[g]? = some (.cells cur e (0,0))) (ht:cur.toList.take l.length=l.map (Value.int .i64)):Go.Sort.Holds (Value.int .i64) w g 0 l.toArray:=by
 intro j hj
 have mm:j<l.length:=by simpa using hj
 refine ⟨?_,by simp [World.frozen?,hb]⟩
 have h1:(cur.toList.take l.length)[j]? = (l.map (Value.int .i64))[j]?:=by rw [ht]
 rw [List.getElem?_take_of_lt mm] at h1
 simp only [World.cell?,hb,ZC]
 simp only [Option.isSome_none,ZaT,if_false]
 rw [ZaD] at h1
 rw [h1]
 simp [mm]
theorem P0 {v:Value} {l:List Int} {n:Nat} {w:World} {fp:List Nat} (hn:n=l.length) (hl:n≤1000000) (hs:ct (hp w) [row 3 1 v n (l.map (Value.int .i64))] fp) :
  bu Tryz.prog 156 [v] w fp (fun _:Unit=>True) (fun _=>.tuple #[]) (fun _=>[row 3 1 v n ((qK l).map (Value.int .i64))]):=by
 obtain ⟨f1,f2,rfl,h1,h2⟩:=hs
 obtain rfl:f2=[]:=h2
 obtain ⟨rfl,hlen,h1⟩:=h1
 rw [ZU]
 rcases h1 with ⟨rfl,h0⟩ | ⟨g,cap,cur,rfl,hg,kF,jS,ql,Ac⟩
 ·have qk:l=[]:=Z0 (by omega)
  refine (Any.slices_Sort_int_none Tryz.E4 none 0 w).mono fun e w' ⟨he,hw⟩=>?_
  subst hw
  refine ⟨(),he,trivial,.refl _ _,[],Zaj,⟨[],[],rfl,⟨rfl,?_,.inl ⟨rfl,h0⟩⟩,rfl⟩,by simp⟩
  rw [Zd,qT];omega
 ·rw [Zaq] at ql Ac
  have Rm:g<w.heap.size:=(ZY.1 hg).1
  subst hn
  refine (Tryz.slices_Sort_int g 0 cap l w (DQ hg Ac) Rm (by omega)).mono fun e w' ⟨he,m,os,hw⟩=>?_
  subst hw
  refine ⟨(),he,trivial,Gh _,[g],by simp,⟨[g],[],rfl,⟨rfl,?_,.inr ⟨g,cap,_,rfl,H5 _ hg,kF,jS,?_,?_⟩⟩,rfl⟩,by simp [Value.ownBlock]⟩
  ·rw [Zd,qT];omega
  ·simp [Go.Sort.putCells,ql]
  ·rw [Zaq]
   have:=HA (enc:=Value.int .i64) cur (qK l) (by rw [qT];omega)
   rw [qT] at this
   exact this
def KB (r:Ro) (v:Int) (so de:ByteArray):Int:=if pS r v so de≠0 then pS r v so de else if Lm r v so (nQ r de) then 24 else 0
def GP (r:Ro) (v:Int) (so de:ByteArray):List Int:=if pS r v so de≠0 then [] else if Lm r v so (nQ r de) then [] else vP r v so
theorem Te {L:List Int} {i:Nat} (h:i<L.length) (cur:List Value):(L.map (Value.int .i64)++cur)[i*1]? = some (.int .i64 L[i]):=by
 rw [Zaq,ZD (by rw [Zd];exact h),ZF,Zc h];rfl
structure wm (r:Ro) (v:Int) (so:ByteArray) (L:List Int) (m:Int) (L':List Int) (k:Nat):Prop where
 pre:L <+: L'
 nd:L'.Nodup
 rc:∀ x∈L',(fB r r.po v so).Rc x
 dn:∀ j,j<k→∀ t,(fv r v m r.ti.length)[j]? = some t→(iK r t).to∈L'
theorem wm.D8 {r:Ro} (eJ:rR r) {v:Int} {so:ByteArray} (hs:so∈cF r) {L L':List Int} {m:Int} {k:Nat} (h:wm r v so L m L' k):L'.length≤4:=by
 have hl:=eJ.lim
 refine E7 h.nd fun x hx=>?_
 have:=uZ eJ hs (h.rc x hx)
 omega
theorem wm.stay {r:Ro} {v:Int} {so:ByteArray} {L L':List Int} {m:Int} {k t:Nat} (h:wm r v so L m L' k) (ht:(fv r v m r.ti.length)[k]? = some t) (hc:(iK r t).to∈L'):wm r v so L m L' (k+1):=by
 refine ⟨h.pre,h.nd,h.rc,fun j hj t' Gt=>?_⟩
 by_cases e:j=k
 ·subst e
  rw [ht] at Gt
  cases Gt
  exact hc
 ·exact h.dn j (by omega) t' Gt
theorem wm.add {r:Ro} {v:Int} {so:ByteArray} {L L':List Int} {m:Int} {k t:Nat} (h:wm r v so L m L' k) (hm:m∈L) (ht:(fv r v m r.ti.length)[k]? = some t) (hc:¬ (iK r t).to∈L'):wm r v so L m (L'++[(iK r t).to]) (k+1):=by
 have gJ:=ZV ht
 unfold fv at gJ
 rw [Zv,ZQ,qp v so,Zm,decide_eq_true_eq] at gJ
 have W8:(fB r r.po v so).Rc (iK r t).to:=Wn.Rc.fe (N:=fB r r.po v so) gJ.1 gJ.2.2 (by rw [gJ.2.1];exact h.rc m (h.pre.subset hm))
 have h2:wm r v so L m (L'++[(iK r t).to]) k:=by
  refine ⟨h.pre.trans (Zbh _ _),?_,fun x hx=>?_,fun j hj t' Gt=>ZE _ (h.dn j hj t' Gt)⟩
  ·rw [ZH]
   refine ⟨h.nd,by simp,fun a ha b hb e=>?_⟩
   rw [ZB] at hb
   subst hb;subst e
   exact hc ha
  ·rcases Zx.1 hx with hx | hx
   ·exact h.rc x hx
   ·rw [ZB.1 hx];exact W8
 exact h2.stay ht (by simp)
theorem wo.next {r:Ro} {v:Int} {so:ByteArray} {L L':List Int} {m:Int} {i:Nat} (h:wo r v so L i) (hi:L[i]? = some m) (hJ:wm r v so L m L' (fv r v m r.ti.length).length):wo r v so L' (i+1)∧i+1≤L'.length:=by
 have gU:=(Zl.1 hi).1
 have AL:=hJ.pre.length_le
 refine ⟨⟨hJ.nd,hJ.rc,fun x hx=>hJ.pre.subset (h.rt x hx),fun j x hj hx t ht hf=>?_⟩,by omega⟩
 have QF:L[j]? = some x:=by
  rw [← hx]
  obtain ⟨q,rfl⟩:=hJ.pre
  rw [ZD (by omega)]
 by_cases e:j=i
 ·subst e
  rw [hi] at QF
  cases QF
  have hm:t∈fv r v m r.ti.length:=by unfold fv;exact Zv.2 ⟨ZQ.2 ht,hf⟩
  obtain ⟨q,hq,e⟩:=Zu hm
  exact hJ.dn q hq t (by rw [Zc hq,e])
 ·exact hJ.pre.subset (h.dn j x (by omega) QF t ht hf)
set_option maxHeartbeats 2000000 in
theorem Vq {r:Ro} {s d t p:Value} (v:Int) (so de:ByteArray) {w:World} (h:RR w r s d t p) (cT:lD r):bu Tryz.prog 36 [RA r s d t p,.int .i64 v,.string so,.string de] w [] (fun _:Value=>True) (fun x=>.tuple #[x,.int .i64 (KB r v so de)]) (fun x=>[row 3 1 x (GP r v so de).length ((GP r v so de).map (Value.int .i64))]):=by
 have h1:=Rd.one h.sr
 have h2:=Rd.one h.de
 have h3:=Rd.one h.ti
 have h4:=Rd.one h.po
 have mq:=h.de
 obtain ⟨a3,sK,b3,o3,rfl,nD,gG,tM,ql⟩:=mq
 rw [cn] at *
 unfold maxLen at gG
 unfold RA
 refine aS Tryz.func36 rfl rfl ?_
 (refine Jr<|Jy rfl rfl fun _ _=>Ja rfl<|Ja rfl<|Jn<|Jq<|Jr<|ab (cR .here) rfl<|Jv rfl<|Jv rfl<|Jv rfl ?_)
 rename_i b4 wA
 refine ai wj rfl (fun w' aA=>qA (s:=s) (d:=.slice a3 r.de.length sK) (t:=t) (p:=p) v so de (h.keeps aA.keeps) cT) ?_
 (refine Ja rfl<|Ji<|Jv rfl<|JD rfl<|Jn<|gm rfl (fun az=>?_) fun az=>?_;refine Jr<|Jv rfl<|Ja rfl<|Ja rfl<|Jn<|Ju ?_;rotate_left;refine Jk<|Jr<|ab (cR .here) rfl<|Jv rfl<|Jv rfl ?_;rotate_right)
 ·have e1:GP r v so de=[]:=if_pos az
  have e2:KB r v so de=pS r v so de:=if_pos az
  rw [e1,e2]
  refine aQ 3 1 ?_
  first | with_reducible apply aO | with_reducible apply aP
  case he=>exact fV rfl rfl rfl
  case hR=>
   intro w' aA
   exact aG (.slice none 0 0) trivial (by exact .cons .here .nil) aA rfl
 have e0:pS r v so de=0:=Zo.1 az
 obtain ⟨eJ,hv,rz,fJ⟩:=yX e0
 have e1:GP r v so de=if Lm r v so (nQ r de) then [] else vP r v so:=if_neg az
 have e2:KB r v so de=if Lm r v so (nQ r de) then 24 else 0:=if_neg az
 clear az
 have ht6:=eJ.len.2.2
 obtain ⟨j0,z8⟩:∃ i:Nat,bE (cq r) de=(i:Nat):=⟨(bE (cq r) de).toNat,by have:=eG fJ;omega⟩
 have AN:j0<r.de.length:=by
  obtain ⟨hl,_⟩:=fq (l:=cq r) (s:=de) (by omega)
  rw [z8,ZI] at hl
  unfold cq at hl;rwa [Zd] at hl
 have Us:nQ r de=(r.de[j0]).mx:=by unfold nQ;rw [z8,ZI,Zk,Zc AN];rfl
 have w9:∀ w',aJ [] w w'→aj Tryz.prog 155 [.agg #[.int .i64 r.lv,.int .i64 r.ma,s,.slice a3 r.de.length sK,t,p],.string de] w' (.int .i64 (j0:Nat)):=fun w' hk=>z8 ▸ fL de (h.keeps hk)
 have GG:=tM (fW AN)
 have oI:=(ql j0 _ (eR AN)).2
 unfold De.cells at oI
 have vF:=oI 1 _ rfl
 rw [e1,e2]
 refine JN eM rfl (fun w1 aR=>EO (s:=s) (d:=.slice a3 r.de.length sK) (t:=t) (p:=p) v so (h.keeps aR.keeps) (by omega) rz) ?_
 intro rv _
 dsimp only [id_eq,Zb,Za]
 refine aT (by exact .here) fun ra rc_ e=>?_
 subst e
 have hC:=wo.begin (v:=v) eJ rz
 generalize gB r v so r.ti.length=L0 at hC ⊢
 (refine Jz rfl rfl fun _ _=>aq (.of rfl) (.of rfl) .here rfl rfl (en rfl) (bG rfl) ak<|Jn<|Jq<|Jr<|Ja rfl<|Jn<|J0 ?_)
 rename_i Pu Yi
 refine EA (ι:=Nat×Value×List Int) (fun x=>wo r v so x.2.2 x.1∧x.1≤x.2.2.length) (fun x=>[(12,.int .i64 (x.1:Nat)),(11,.pointer (some ⟨Pu,0,none⟩)),(4,.pointer (some ⟨b4,0,none⟩)),(1,.int .i64 v),(2,.string so),(3,.string de)])
  (fun x=>[bH Pu (.cells #[x.2.1] 49 (0,0)),row 3 1 x.2.1 x.2.2.length (x.2.2.map (Value.int .i64)),JP b4 r s (.slice a3 r.de.length sK) t p]) (fun x=>4-x.1) ?_ ?_
 ·apply xH (0,.slice ra L0.length rc_,L0) ⟨hC,Zi _⟩
  case hs1=>exact cg
  case ht=>
   exact .cons .here (.cons .here (.cons .here .nil))
 rintro ⟨i,ov,L⟩ ⟨hC,hiL⟩ D
 dsimp only at hC hiL ⊢
 have h4L:=hC.D8 eJ rz
 have Fi:L.length=L.length:=rfl
 refine aT (by exact Take.there .here) fun oa oc e=>?_
 subst e
 by_cases aM:i<L.length
 ·refine Jq<|Jr<|Jv rfl<|JL rfl .here rfl<|JI rfl<|JA rfl<|Jn<|Jd rfl fun az=>Jk<|Jq<|J0<|Jq ?_
  refine cU (by exact Take.there .here) (by omega) fun g gL cur e oJ Gy DM B5=>?_
  cases e
  have c1:=Te aM cur
  with_reducible refine dE 6 (by kernel_rfl) ?_
  (refine aF (cR bL) rfl ?_;refine ju rfl rfl ?_;refine aF (gT (.there .here)) rfl ?_;refine ju rfl rfl ?_;refine aF (ar (.of rfl) (.of rfl) rfl (by omega) az bb) rfl ?_;refine aF (ag (.of rfl) (At.jL .here c1)) rfl ?_)
  with_reducible refine dI ?_
  refine cN (by exact .here) oJ Gy DM B5 ?_
  with_reducible apply jw
  case hr=>exact eM
  case hd=>rfl
  case ht=>exact bD.nil
  case hc=>
   intro w1 fp aR _ hs1
   obtain rfl:fp=[]:=hs1
   exact su (s:=s) (d:=.slice a3 r.de.length sK) (t:=t) (p:=p) v L[i] (h.keeps aR.keeps)
  intro y _
  dsimp only [id_eq,Zb,Za]
  refine Jn<|J0 ?_
  have B6:L[i]? = some L[i]:=Zc aM
  have gJ:L[i]∈L:=Zj aM
  generalize L[i]=m at B6 gJ ⊢
  refine jn (ps:=[40,41]) (f:=240) (first:=[]) (cap:=[.pointer (some ⟨y.1,0,none⟩),.pointer (some ⟨y.2.1,0,none⟩),.pointer (some ⟨y.2.2,0,none⟩)]) (ι:=Value×List Int) (κ:=Empty)
   (rst:=[JP b4 r s (.slice a3 r.de.length sK) t p]) ?hg
   [JP y.1 r s (.slice a3 r.de.length sK) t p,bH y.2.1 (.cells #[.int .i64 m] 3 (0,0)),bH y.2.2 (.cells #[.int .i64 v] 3 (0,0))] (Lr r v m) ?hit
   (fun k x=>wm r v so L m x.2 k)
   (fun x=>[bH Pu (.cells #[x.1] 49 (0,0)),row 3 1 x.1 x.2.length (x.2.map (Value.int .i64))])
   (fun _=>False) (fun _=>[]) (fun _=>.ret) (.slice (some ⟨g,0,none⟩) L.length oc,L) ⟨List.prefix_rfl,hC.nd,hC.rc,fun j hj=>absurd hj (ZP _)⟩ ?ht ?hlen ?hps ?round ?kn ?kj
  case hg=>exact Is.of rfl
  case hit=>intro w' aA;exact IB v m h RO.nil (by omega)
  case ht=>
   dsimp only [Zb,Za]
   exact .cons dT (.cons cW (.cons .here (.cons .here (.cons .here .nil))))
  case hlen=>intro vs oF;obtain ⟨x,_,rfl⟩:=Zt.1 oF;rfl
  case hps=>intro t ht;simp only [ZS,Zp,or_false] at ht;rcases ht with rfl | rfl <;> exact Zav rfl
  case kj=>intro y;cases y
  case kn=>
   rintro ⟨Sx,L2⟩ D2 hJ
   dsimp only [Zb,Za] at hJ ⊢
   rw [uk] at hJ
   obtain ⟨hC2,Xx⟩:=hC.next B6 hJ
   refine Jj<|Jj<|Jt<|Jg<|Jv rfl<|JB rfl (by omega)<|Ja rfl<|Jn ?_
   apply A7 (i+1,Sx,L2) ⟨hC2,Xx⟩ (show 4-(i+1)<4-i by omega)
   case hs1=>exact cg
   case ht=>
    exact .cons .here (.cons .here (.cons cW .nil))
  case round=>
   rintro l2 rc W2 US k ⟨Sx,L2⟩ vs hsz hk hJ hB hF
   dsimp only at hJ
   obtain ⟨OC,TM,rfl,gU,VQ⟩:=DG hk
   have aaw:=hJ.D8 eJ rz
   have Fi:L2.length=L2.length:=rfl
   have Rb:(L2.map (Value.int .i64)).length=L2.length*1:=by rw [Zd,Zaq]
   have Kc:∀ (w':World) (Sx:Value),Rd w' Sx 1 (ints L2)→aj Tryz.prog 154 [Sx,.int .i64 (iK r OC).to] w' (.bool (L2.contains (iK r OC).to)):=fun w' Sx hr=>ly _ hr
   dsimp only [Ti.cells,List.zip_cons_cons,List.zip_nil_right,mh,Zb,Za]
   (refine Jg<|Jz rfl rfl fun _ _=>aq (.of rfl) (.of rfl) .here rfl rfl (fo rfl rfl rfl) (bG rfl) ak<|Jn ?_)
   with_reducible apply mw
   case ht=>exact Take.there .here
   refine aT (E:=3) (sz:=1) cW fun va vc e=>?_
   subst e
   (refine J0<|Jr<|JL rfl bL rfl<|bS rfl rfl ae<|JL rfl (.there .here) rfl ?_)
   cases GF:L2.contains (iK r OC).to with
   | true =>
    have NB:∀ (w':World),Rd w' (.slice va L2.length vc) 1 (ints L2)→aj Tryz.prog 154 [.slice va L2.length vc,.int .i64 (iK r OC).to] w' (.bool true):=fun w' hr=>GF ▸ Kc w' _ hr
    (refine ai bj rfl (fun w' aA=>(NB w' (kO aA cW Fi)))<|JH rfl<|Jn<|bK (.of rfl)<|Jw<|Jj ?_)
    apply lM (.slice va L2.length vc,L2)
    case ht=>exact .here
    case hx=>exact hJ.stay TM (Zbj.1 GF)
    case h2=>exact .cons (.there .here) (.cons (.there .here) .nil)
   | false =>
    have NB:∀ (w':World),Rd w' (.slice va L2.length vc) 1 (ints L2)→aj Tryz.prog 154 [.slice va L2.length vc,.int .i64 (iK r OC).to] w' (.bool false):=fun w' hr=>GF ▸ Kc w' _ hr
    (refine ai bj rfl (fun w' aA=>(NB w' (kO aA cW Fi)))<|JH rfl<|Jn<|cP (.of rfl)<|Jg<|JL rfl bL rfl<|bS rfl rfl ae<|JL rfl (.there .here) rfl<|br (aC (.cons (.of rfl) .nil) rfl rfl rfl rfl) rfl fun _ _=>?_)
    refine bF (.of rfl) (.of rfl) dT .here ak (by rfl) (en rfl) (by rfl) (by rfl) (by rfl) eC (by rfl) ?_
    intro v'
    refine aT (by exact .here) fun a' dA e=>?_
    subst e
    (refine aq (.of rfl) (.of rfl) dT rfl rfl (en rfl) (bG rfl) ak<|Jx<|Jj ?_)
    apply lM (.slice a' (L2.length+1) dA,L2++[(iK r OC).to])
    case ht=>exact cW
    case hx=>exact hJ.add gJ TM (fun hm=>by rw [Zbj.2 hm] at GF;cases GF)
    case h2=>
     show bD _ [bH Pu (.cells #[.slice a' (L2.length+1) dA] 49 (0,0)),row 3 1 (.slice a' (L2.length+1) dA) (L2++[(iK r OC).to]).length ((L2++[(iK r OC).to]).map (Value.int .i64))] _
     rw [Zg,Zs]
     exact .cons .here (.cons .here .nil)
 ·obtain rfl:i=L.length:=by omega
  have oH:=hC.done eJ rz
  have hcb:L.contains (nQ r de)=Lm r v so (nQ r de):=by rw [Zba,Zbj,oH,H3]
  have NB:∀ (w':World),Rd w' (.slice oa L.length oc) 1 (ints L)→aj Tryz.prog 154 [.slice oa L.length oc,.int .i64 (r.de[j0]).mx] w' (.bool (Lm r v so (nQ r de))):=fun w' hr=>by
   rw [← hcb,Us];exact ly _ hr
  refine Jq<|Jr<|Jv rfl<|JL rfl .here rfl<|JI rfl<|JA rfl<|Jn<|Jc rfl fun az=>Jp<|Jl<|Jo<|Jt<|Jq<|Jq ?_
  with_reducible refine dE 10 (by kernel_rfl) ?_
  (refine aF (gT .here) rfl<|nF rfl rfl ae<|aF (gT bL) rfl<|aF (cR bL) rfl<|ju rfl rfl<|fI bj rfl (fun w' aA=>(w9 w' (Mem.keeps aA)))<|aF (ar (.of rfl) (.of rfl) GG (by omega) (by omega) bb) rfl<|nF rfl rfl ae<|aF (ag (.of rfl) (At.base vF rfl)) rfl<|fI bj rfl (fun w' aA=>(NB w' (kO aA (.there .here) Fi))) ?_)
  with_reducible refine dI ?_
  cases hrb:Lm r v so (nQ r de) with
  | true =>
   (refine Jn<|cP (.of rfl)<|Jr<|Ja rfl<|Ja rfl<|Jn<|Ju ?_)
   refine aQ 3 1 ?_
   first | with_reducible apply aO | with_reducible apply aP
   case he=>exact fV rfl rfl rfl
   case hR=>
    intro w' aA
    exact aG (.slice none 0 0) trivial (by exact .cons .here .nil) aA rfl
  | false =>
   (refine Jn<|bK (.of rfl)<|Jk<|Jr<|JL rfl .here rfl ?_)
   with_reducible apply fP (As:=[row 3 1 (.slice oa L.length oc) L.length (L.map (Value.int .i64))])
   case hr=>exact bN
   case hd=>rfl
   case ht=>exact l6
   case hc=>
    intro w1 AT aR vA hs1 CQ _
    exact P0 rfl (by omega) hs1
   intro _ _
   have Np:qK L=vP r v so:=KA eJ rz hC.nd oH (HH L) (Mi L)
   have VL:(vP r v so).length=L.length:=by rw [← Np,qT]
   rw [Np]
   dsimp only [id_eq,Zb,Za]
   refine Ji<|JL rfl (.there .here) rfl<|Ja rfl<|Ja rfl<|Jn<|Je ?_
   first | with_reducible apply aO | with_reducible apply aP
   case he=>exact fV rfl rfl rfl
   case hR=>
    intro w' aA
    exact aG (.slice oa L.length oc) trivial (show bD _ [row 3 1 (.slice oa L.length oc) (vP r v so).length ((vP r v so).map (Value.int .i64))] _ by rw [VL];exact .cons .here .nil) aA rfl
end Go.Proofs.A1
namespace Go.Proofs.A1
open Go Go.SL
theorem IW {lv:Value} {l:List Int} {p:Int→Bool} {f:FuncId} {first cap:List Value} [bR Tryz.prog f] {w:World} (h:Rd w lv 1 (ints l)) (cz:∀ x∈l,∀ w',aJ [] w w'→aj Tryz.prog f (first++[.int .i64 x]++cap) w' (.bool (p x))) :
  aj Tryz.prog 247 [lv,.func (.func f) first.toArray cap.toArray] w (.int .i64 (fT p l)):=by
 obtain ⟨a,cp,b,o,rfl,dj,bV,ha,hc⟩:=h
 rw [c8] at *
 unfold maxLen at bV
 refine ah Tryz.func247 rfl rfl ?_
 refine Jr<|Ja rfl<|Jn<|Jq<|Jr<|Jv rfl<|JI rfl<|Jv rfl<|Jn<|J0 ?_
 refine aW (fun k:Nat=>k≤l.length∧∀ i,i<k→(l[i]?.map p).getD false=false) (fun k=>[(8,.int .i64 k),(7,.int .i64 l.length),(0,.slice a l.length cp),(1,.func (.func f) first.toArray cap.toArray)]) (fun _=>[]) (fun k=>l.length-k) ?_ ?_
 ·apply aI 0 ⟨Zi _,fun i h=>by omega⟩
  case hs1=>exact cg
  case ht=>(try simp only [Ze,Zf,Za]);exact .nil
 rintro k ⟨hk,hf⟩
 by_cases aM:k<l.length
 ·have cG:=ha (jC aM)
  have c0:w.cell? ⟨b,o+k*1,none⟩=some (.int .i64 l[k]):=(hc k _ (ib aM)).2 0 _ rfl
  have iT:=cz _ (Zj aM)
  have hps:(l[k]?.map p).getD false=p l[k]:=by simp [aM]
  (refine Jr<|JA rfl<|Jn<|Jq<|Jd rfl fun az=>Jk<|Jq<|J0<|Jr<|Jv rfl<|Ja rfl<|Ji<|Jv rfl<|Jv rfl<|Jv rfl<|ab (fM cG az) rfl<|ab (ag (.of rfl) (At.base c0 rfl)) rfl<|ai bN rfl (fun w' aA=>(iT w' (Mem.keeps aA)))<|Jn<|pt rfl (fun az=>?_) fun az=>?_;refine Jr<|Jv rfl<|Ja rfl<|Jn<|Je<|Jm<|Jh<|Jh<|Jm<|Jh<|JT ?_;rotate_left;refine Jw<|Jj<|Jt<|Jg<|JB rfl (by omega)<|Jv rfl<|Jn ?_;rotate_right)
  ·rw [gy hf aM az]
  ·apply aK (k+1) ⟨by omega,fun i hi=>by
    by_cases e:i=k
    ·rw [e,hps];exact az
    ·exact hf i (by omega)⟩ (by omega)
   case hs1=>exact cg
   case ht=>(try simp only [Ze,Zf,Za]);exact .nil
 ·obtain rfl:k=l.length:=by omega
  refine Jr<|JA rfl<|Jn<|Jq<|Jc rfl fun az=>Jp<|Jl<|Jo<|Jt<|Jr<|Ja rfl<|Jn<|Je<|JT ?_
  rw [fA hf]
theorem vJ {lv:Value} {l:List Int} {p:Int→Bool} {f:FuncId} {first cap:List Value} [bR Tryz.prog f] {w:World} (h:Rd w lv 1 (ints l)) (cz:∀ x∈l,∀ w',aJ [] w w'→aj Tryz.prog f (first++[.int .i64 x]++cap) w' (.bool (p x))) :
  aj Tryz.prog 161 [lv,.func (.func f) first.toArray cap.toArray] w (.bool (l.any p)):=by
 have iT:∀ w',aJ [] w w'→aj Tryz.prog 247 [lv,.func (.func f) first.toArray cap.toArray] w' (.int .i64 (fT p l)):=fun w' hk=>
  IW (h.keeps hk) fun x hx w2 eF=>cz x hx w2 (hk.trans eF)
 rw [← je]
 refine ah Tryz.func161 rfl rfl ?_
 (refine Jr<|Ja rfl<|Ji<|Jv rfl<|Jv rfl<|ai bj rfl (fun w' aA=>(iT w' (Mem.keeps aA)))<|JG rfl<|Ja rfl<|Jn<|Je<|JT ?_)
 rfl
theorem vR {cv:Value} {L:List Int} (x:Int) {b:Nat} {w:World} (h:Rd w cv 1 (ints L)) (f1:w.cell? ⟨b,0,none⟩=some cv) :
  aj Tryz.prog 157 [.int .i64 x,.pointer (some ⟨b,0,none⟩)] w (.bool (L.contains x)):=by
 have h1:=Rd.one h
 refine ah Tryz.func157 rfl rfl ?_
 (refine Jr<|Ja rfl<|Ji<|ab (ag (.of rfl) (At.base f1 rfl)) rfl<|Jv rfl ?_)
 refine ai bj rfl (fun w' aA=>ly x (h.keeps aA.keeps)) ?_
 refine Ja rfl<|Jn<|Je<|JT ?_
 rfl
theorem vQ {cv:Value} {L:List Int} (x:Int) {b b2:Nat} {w:World} (h:Rd w cv 1 (ints L)) (f1:w.cell? ⟨b,0,none⟩=some cv) (f2:w.cell? ⟨b2,0,none⟩=some (.func (.func 157) #[] #[.pointer (some ⟨b,0,none⟩)])) :
  aj Tryz.prog 158 [.int .i64 x,.pointer (some ⟨b2,0,none⟩)] w (.bool (!L.contains x)):=by
 refine ah Tryz.func158 rfl rfl ?_
 (refine Jr<|Ja rfl<|Ji<|ab (ag (.of rfl) (At.base f2 rfl)) rfl<|Jv rfl ?_)
 refine ai bN rfl (fun w' aA=>vR x (h.keeps aA.keeps) (eh f1 rfl (by simp) aA.keeps)) ?_
 refine JH rfl<|Ja rfl<|Jn<|Je<|JT ?_
 rfl
def th (r:Ro) (v:Int) (L:List Int) (x:Ti):Bool:=L.contains x.fr&&!L.contains x.to&&!gV r.po v x.nm
theorem R3 {r:Ro} {s d t p:Value} (v:Int) {cv:Value} {L:List Int} (x:Ti) {b b2 b3 b5 b6:Nat} {w:World} (hr:RR w r s d t p) (h:Rd w cv 1 (ints L)) (f1:w.cell? ⟨b,0,none⟩=some cv) (f2:w.cell? ⟨b2,0,none⟩=some (.func (.func 157) #[] #[.pointer (some ⟨b,0,none⟩)]))
  (f3:w.cell? ⟨b3,0,none⟩=some (.func (.func 158) #[] #[.pointer (some ⟨b2,0,none⟩)])) (hA:BR w b5 (RC r s d t p)) (f6:w.cell? ⟨b6,0,none⟩=some (.int .i64 v)) :
  aj Tryz.prog 160 [.agg x.cells.toArray,.pointer (some ⟨b2,0,none⟩),.pointer (some ⟨b3,0,none⟩),.pointer (some ⟨b5,0,none⟩),.pointer (some ⟨b6,0,none⟩)] w (.bool (th r v L x)):=by
 have h1:=Rd.one hr.sr
 have h2:=Rd.one hr.de
 have h3:=Rd.one hr.ti
 have h4:=Rd.one hr.po
 have ke:∀ (j:Nat) (u:Value),[Value.int .i64 r.lv,.int .i64 r.ma,s,d,t,p][j]? = some u→w.cell? ⟨b5,0+j,none⟩=some u:=hA
 unfold Ti.cells
 refine ah Tryz.func160 rfl rfl ?_
 (refine Jr<|Jy rfl rfl fun _ _=>Ja rfl<|Ji<|ab (ag (.of rfl) (At.base f2 rfl)) rfl<|bS rfl rfl ae<|JL rfl .here rfl ?_)
 cases kF:L.contains x.fr with
 | false =>
  have hB:th r v L x=false:=by unfold th;rw [kF];rfl
  rw [hB]
  refine ai bN rfl (fun w' aA=>kF ▸ vR x.fr (h.keeps aA.keeps) (eh f1 rfl (by simp) aA.keeps)) ?_
  (refine Jv rfl<|aD rfl rfl inferInstance (fun hg bA=>(ag (.of rfl) (At.base f3 rfl))) rfl<|aD rfl rfl inferInstance (fun hg bA=>(au (.of rfl) ae)) rfl<|aD rfl rfl inferInstance (fun hg bA=>(ag (.bI bA rfl) (At.lit .here rfl))) rfl<|dC rfl rfl rfl rfl<|ab (cX (.of rfl) (.of rfl) (.of rfl) rfl) rfl<|Jv rfl<|aD rfl rfl inferInstance (fun hg bA=>(jc (.of rfl) (ew.base ke rfl) rfl)) rfl<|aD rfl rfl inferInstance (fun hg bA=>(ag (.of rfl) (At.base f6 rfl))) rfl<|aD rfl rfl inferInstance (fun hg bA=>(au (.of rfl) ae)) rfl<|aD rfl rfl inferInstance (fun hg bA=>(ag (.bI bA rfl) (At.lit .here rfl))) rfl<|dC rfl rfl rfl rfl<|aD rfl rfl inferInstance (fun hg bA=>(dU (.bI bA rfl))) rfl<|ab (cX (.of rfl) (.of rfl) (.of rfl) rfl) rfl<|Ja rfl<|Jn<|Je<|JT ?_)
  rfl
 | true =>
  have hB:th r v L x=(!L.contains x.to&&!gV r.po v x.nm):=by unfold th;rw [kF];rfl
  rw [hB]
  refine ai bN rfl (fun w' aA=>kF ▸ vR x.fr (h.keeps aA.keeps) (eh f1 rfl (by simp) aA.keeps)) ?_
  (refine Jv rfl<|JK rfl rfl<|ab (ag (.of rfl) (At.base f3 rfl)) rfl<|JK rfl rfl<|bS rfl rfl ae<|JK rfl rfl<|JL rfl .here rfl<|JK rfl rfl ?_)
  cases jS:L.contains x.to with
  | true =>
   with_reducible apply ai
   case hr=>exact bN
   case hd=>rfl
   case hc=>
    intro w' aA
    have q:=vQ x.to (h.keeps aA.keeps) (eh f1 rfl (by simp) aA.keeps) (eh f2 rfl (by simp) aA.keeps)
    rw [jS] at q
    exact q
   (refine ab (cX (.of rfl) (.of rfl) (.of rfl) rfl) rfl<|Jv rfl<|aD rfl rfl inferInstance (fun hg bA=>(jc (.of rfl) (ew.base ke rfl) rfl)) rfl<|aD rfl rfl inferInstance (fun hg bA=>(ag (.of rfl) (At.base f6 rfl))) rfl<|aD rfl rfl inferInstance (fun hg bA=>(au (.of rfl) ae)) rfl<|aD rfl rfl inferInstance (fun hg bA=>(ag (.bI bA rfl) (At.lit .here rfl))) rfl<|dC rfl rfl rfl rfl<|aD rfl rfl inferInstance (fun hg bA=>(dU (.bI bA rfl))) rfl<|ab (cX (.of rfl) (.of rfl) (.of rfl) rfl) rfl<|Ja rfl<|Jn<|Je<|JT ?_)
   rfl
  | false =>
   with_reducible apply ai
   case hr=>exact bN
   case hd=>rfl
   case hc=>
    intro w' aA
    have q:=vQ x.to (h.keeps aA.keeps) (eh f1 rfl (by simp) aA.keeps) (eh f2 rfl (by simp) aA.keeps)
    rw [jS] at q
    exact q
   (refine ab (eN (.of rfl) (.of rfl) (.of rfl) rfl) rfl<|Jv rfl<|JK rfl rfl<|ab (gW (ew.base ke rfl)) rfl<|JK rfl rfl<|ab (ag (.of rfl) (At.base f6 rfl)) rfl<|JK rfl rfl<|bS rfl rfl ae<|JK rfl rfl<|JL rfl .here rfl<|JK rfl rfl ?_)
   cases hb:gV r.po v x.nm with
   | true =>
    with_reducible apply ai
    case hr=>exact eM
    case hd=>rfl
    case hc=>
     intro w' aA
     have q:=qC v x.nm (hr.keeps aA.keeps)
     rw [hb] at q
     exact q
    (refine JK rfl rfl<|JH rfl<|ab (cX (.of rfl) (.of rfl) (.of rfl) rfl) rfl<|Ja rfl<|Jn<|Je<|JT ?_)
    rfl
   | false =>
    with_reducible apply ai
    case hr=>exact eM
    case hd=>rfl
    case hc=>
     intro w' aA
     have q:=qC v x.nm (hr.keeps aA.keeps)
     rw [hb] at q
     exact q
    (refine JK rfl rfl<|JH rfl<|ab (eN (.of rfl) (.of rfl) (.of rfl) rfl) rfl<|Ja rfl<|Jn<|Je<|JT ?_)
    rfl
theorem bz {α:Type} {l:List Oper} {i:Nat} {v:α}:mQ l i (fun _=>v):=fun _ _ _=>rfl
def BW (L:List Int) (k:Nat):Int:=if k=0 then -1 else L.getD (k-1) 0
theorem DK {L:List Int} {k:Nat} (h:k<L.length):BW L (k+1)=L[k]:=by
 unfold BW;rw [if_neg (by omega),Zas,Zk,Zc h];rfl
def SR (r:Ro) (L:List Int) (k:Nat):Int:=(L[k]?.map fun x=>aX [fg r x,ch (decide (x≤BW L k)) 11]).getD 0
theorem R4 {r:Ro} {L:List Int} {k:Nat} (h:k<L.length):SR r L k=aX [fg r L[k],ch (decide (L[k]≤BW L k)) 11]:=by
 unfold SR;rw [Zc h];rfl
def V3 (r:Ro) (v:Int) (so de:ByteArray) (L:List Int):Int:=aX [pS r v so de,ch (decide ((4:Int)<(L.length:Nat))) 5]
def SP (r:Ro) (L:List Int):Int:=jE (SR r L) L.length
def SO (r:Ro) (v:Int) (so de:ByteArray) (L:List Int):Bool:=r.ti.any (th r v L)||(gB r v so r.ti.length).any (fun x=>!L.contains x)||L.contains (nQ r de)
def V2 (r:Ro) (v:Int) (so de:ByteArray) (L:List Int):Int:=if V3 r v so de L≠0 then V3 r v so de L else if SP r L≠0 then SP r L else ch (SO r v so de L) 19
set_option maxHeartbeats 2000000 in
theorem Ep {r:Ro} {s d t p cv:Value} (v:Int) (so de:ByteArray) {L:List Int} {w:World} (h:RR w r s d t p) (cT:lD r) (hw:Rd w cv 1 (ints L)) :
  aj Tryz.prog 37 [RA r s d t p,.int .i64 v,.string so,.string de,cv] w (.int .i64 (V2 r v so de L)):=by
 have h1:=Rd.one h.sr
 have h2:=Rd.one h.de
 have h3:=Rd.one h.ti
 have h4:=Rd.one h.po
 have AK:=hw
 obtain ⟨aw,cw,bw,ow,rfl,O4,B2,Uy,Kb⟩:=hw
 rw [c8] at *
 unfold maxLen at B2
 have hcw:∀ w',aJ [] w w'→aj Tryz.prog 151 [.agg #[.int .i64 r.lv,.int .i64 r.ma,s,d,t,p],.int .i64 v,.string so,.string de] w' (.int .i64 (pS r v so de)):=fun w' hk=>qA v so de (h.keeps hk) cT
 unfold RA
 refine ah Tryz.func37 rfl rfl ?_
 refine Jr<|Jy rfl rfl fun _ _=>Jy rfl rfl fun _ _=>Jy rfl rfl fun _ _=>Ja rfl<|Jn<|Jq<|Jq ?_
 with_reducible refine cZ 10 (by kernel_rfl) ?_
 (refine ao (cR bL) rfl<|ao (gT (.there .here)) rfl<|ao l7 rfl<|ao l7 rfl<|aY wj rfl (fun w' aA=>(hcw w' (Mem.keeps aA)))<|ao (gT .here) rfl<|ao (bJ (.of rfl)) rfl<|ao (km (.of rfl) (.of rfl)) rfl<|aY bj rfl (fun w' aA=>(dV _ 5 w'))<|eB (aC (.cons (.of rfl) (.cons (.of rfl) .nil)) rfl rfl rfl rfl) rfl rfl ?_)
 with_reducible refine dB rfl fun bq nq=>?_
 (refine ai bN rfl (fun w' aA=>(dO (Mem.dw aA .here rfl rfl) (bY.cons (bY.cons bY.nil))))<|Ja rfl<|Ji<|Jv rfl<|JD rfl<|Jn<|gm rfl (fun az=>?_) fun az=>?_;refine Jr<|Jv rfl<|Ja rfl<|Jn<|Ju<|JT ?_;rotate_left;refine Jk<|Jr<|Ja rfl<|Jn<|Jq<|Jr<|JL rfl (.there .here) rfl<|JI rfl<|Jv rfl<|Jn<|J0 ?_;rotate_right)
 ·have e1:V2 r v so de L=V3 r v so de L:=if_pos az
  rw [e1];rfl
 have Kl:V3 r v so de L=0:=Zo.1 az
 have hX:V2 r v so de L=if SP r L≠0 then SP r L else ch (SO r v so de L) 19:=if_neg az
 clear az
 obtain ⟨eJ,hv,rz,fJ⟩:=yX (cy.1 Kl _ Zq)
 have h6:L.length≤4:=by
  have:=(bO (by decide)).1 (cy.1 Kl (ch (decide ((4:Int)<(L.length:Nat))) 5) (by simp))
  simp only [decide_eq_false_iff_not] at this
  omega
 have ht6:=eJ.len.2.2
 rename_i b5 ND b6 hb6 b9 hb9
 refine aW (fun k:Nat=>k≤L.length∧∀ i,i<k→SR r L i=0) (fun k=>[(35,.int .i64 (k:Nat)),(34,.int .i64 (L.length:Nat)),(33,.slice aw L.length cw),(12,.int .i64 (BW L k)),(9,.pointer (some ⟨b9,0,none⟩)),(6,.pointer (some ⟨b6,0,none⟩)),(5,.pointer (some ⟨b5,0,none⟩)),(2,.string so),(3,.string de)])
  (fun k=>[bH b9 (.cells #[.slice aw L.length cw] 49 (0,0)),bH b6 (.cells #[.int .i64 v] 3 (0,0)),JP b5 r s d t p]) (fun k=>L.length-k) ?_ ?_
 ·apply aI 0 ⟨Zi _,fun i hi=>by omega⟩
  case hs1=>exact cg
  case ht=>(try simp only [Ze,Zf,Za]);exact .cons (.there .here) (.cons (.there .here) (.cons (.there .here) .nil))
 rintro k ⟨hk,hf⟩
 by_cases aM:k<L.length
 ·have Ke:=Uy (jC aM)
  have c0:w.cell? ⟨bw,ow+k*1,none⟩=some (.int .i64 L[k]):=(Kb k _ (ib aM)).2 0 _ rfl
  have jv:=R4 (r:=r) aM
  have hhs:∀ w',aJ [] w w'→aj Tryz.prog 136 [.agg #[.int .i64 r.lv,.int .i64 r.ma,s,d,t,p],.int .i64 L[k]] w' (.int .i64 (fg r L[k])):=fun w' hk=>Fg (s:=s) (d:=d) (t:=t) (p:=p) L[k] h
  (refine Jr<|JA rfl<|Jn<|Jq<|Jd rfl fun az=>Jk<|Jq<|J0<|Jr<|ab (ar (.of rfl) (.of rfl) Ke (by omega) az bb) rfl<|ab (ag (.of rfl) (At.base c0 rfl)) rfl<|Ja rfl<|Jn<|Jq<|Jr<|ab (cR bL) rfl<|Jv rfl<|ai bj rfl (fun w' aA=>(hhs w' (Mem.keeps aA)))<|Jv rfl<|Jv rfl<|JF rfl<|ai bj rfl (fun w' aA=>(dV _ 11 w'))<|br (aC (.cons (.of rfl) (.cons (.of rfl) .nil)) rfl rfl rfl rfl) rfl fun _ _=>ai bN rfl (fun w' aA=>(dO (Mem.dw aA .here rfl rfl) (bY.cons (bY.cons bY.nil))))<|Ja rfl<|Ji<|Jv rfl<|JD rfl<|Jn<|gm rfl (fun az=>?_) fun az=>?_;refine Jr<|Jv rfl<|Ja rfl<|Jn<|Ju<|Jm<|Jh<|Jh<|Jm<|Jh<|JT ?_;rotate_left;refine Jk<|Jg<|Jv rfl<|Ja rfl<|Jx<|Jj<|Jt<|Jg<|JB rfl (by omega)<|Jv rfl<|Jn ?_;rotate_right)
  ·rw [← jv] at az ⊢
   have hB:SP r L=SR r L k:=eW hf aM az
   rw [← hB] at az ⊢
   rw [hX,if_pos az]
  have hz:SR r L k=0:=by rw [jv];exact Zo.1 az
  have DR:=DK aM
  apply aK (k+1) ⟨by omega,fun i hi=>by
   by_cases e:i=k
   ·rw [e];exact hz
   ·exact hf i (by omega)⟩ (by omega)
  case hs1=>rw [DR];exact .cons rfl (.cons rfl (.cons rfl (.cons rfl (.cons rfl (.cons rfl (.cons rfl (.cons rfl (.cons rfl .nil))))))))
  case ht=>exact l6
 ·obtain rfl:k=L.length:=by omega
  have UL:SP r L=0:=dS.2 hf
  rw [hX,if_neg (by rw [UL];decide)]
  (refine Jr<|JA rfl<|Jn<|Jq<|Jc rfl fun az=>Jp<|Jl<|Jo<|Jt<|Jr<|ab (bC .nil (.cons (.of rfl) .nil)) rfl<|Jz rfl rfl fun _ _=>aq (.of rfl) (.of rfl) .here rfl rfl (en rfl) (bG rfl) ak<|Ji<|ab (bC .nil (.cons (.of rfl) .nil)) rfl<|Jz rfl rfl fun _ _=>aq (.of rfl) (.of rfl) .here rfl rfl (en rfl) (bG rfl) ak<|Ji<|bS rfl rfl ae<|JL rfl dT rfl<|ab (bC .nil (.cons (.of rfl) (.cons (.of rfl) (.cons (.of rfl) (.cons (.of rfl) .nil))))) rfl ?_)
  rename_i G5 afy b17 afx
  with_reducible apply ai
  case hr=>exact bj
  case hd=>rfl
  case hc=>
   intro w' aA
   have hR:=h.keeps aA.keeps
   have f9:w'.cell? ⟨b9,0,none⟩=some (.slice aw L.length cw):=At.lit bL rfl w' aA
   have f16:w'.cell? ⟨G5,0,none⟩=some (.func (.func 157) #[] #[.pointer (some ⟨b9,0,none⟩)]):=At.lit (by exact Take.there .here) rfl w' aA
   have f17:w'.cell? ⟨b17,0,none⟩=some (.func (.func 158) #[] #[.pointer (some ⟨G5,0,none⟩)]):=At.lit (by exact .here) rfl w' aA
   have f6:w'.cell? ⟨b6,0,none⟩=some (.int .i64 v):=At.lit cW rfl w' aA
   have hA:BR w' b5 [.int .i64 r.lv,.int .i64 r.ma,s,d,t,p]:=BR.of aA dT
   exact Ae (f:=160) (p:=th r v L) (first:=[]) (cap:=[.pointer (some ⟨G5,0,none⟩),.pointer (some ⟨b17,0,none⟩),.pointer (some ⟨b5,0,none⟩),.pointer (some ⟨b6,0,none⟩)]) hR.ti (fun x hx w2 eF=>R3 v x (hR.keeps eF) (AK.keeps (aA.keeps.trans eF)) (cu f9 rfl eF) (cu f16 rfl eF) (cu f17 rfl eF) (hA.keeps eF) (cu f6 rfl eF))
  refine Ja rfl<|Jn<|Jq ?_
  cases tu:r.ti.any (th r v L) with
  | true =>
   have hC:SO r v so de L=true:=by unfold SO;rw [tu];rfl
   rw [hC]
   with_reducible refine dL 23 (by kernel_rfl) ?_
   (refine an (fun β=>(aN (.of rfl))) dy rfl<|an (fun β=>(aN (.of rfl))) dy rfl<|bP rfl (fun _=>rfl) (Or.inr rfl) rfl<|bP rfl (fun _=>rfl) (Or.inr rfl) rfl<|bP rfl (fun _=>rfl) (Or.inr rfl) rfl<|bP rfl (fun _=>rfl) (Or.inr rfl) rfl<|bP rfl (fun _=>rfl) (Or.inr rfl) rfl<|bP rfl (fun _=>rfl) (Or.inr rfl) rfl<|an (fun β=>(eN (.of rfl) (.of rfl) (.of rfl) rfl)) dy rfl<|an (fun β=>(aN (.of rfl))) dy rfl<|bP rfl (fun _=>rfl) (Or.inr rfl) rfl<|bP rfl (fun _=>rfl) (Or.inr rfl) rfl<|bP rfl (fun _=>rfl) (Or.inr rfl) rfl<|bP rfl (fun _=>rfl) (Or.inr rfl) rfl<|bP rfl (fun _=>rfl) (Or.inr rfl) rfl<|bP rfl (fun _=>rfl) (Or.inr rfl) rfl<|bP rfl (fun _=>rfl) (Or.inr rfl) rfl<|bP rfl (fun _=>rfl) (Or.inr rfl) rfl<|bP rfl (fun _=>rfl) (Or.inr rfl) rfl<|bP rfl (fun _=>rfl) (Or.inr rfl) rfl<|an (fun β=>(eN (.of rfl) (.of rfl) (.of rfl) rfl)) dy rfl ?_)
   dsimp only [Nat.zero_add,Nat.reduceAdd]
   with_reducible apply dd (B:=[]) (F:=fun _=>.int .i64 (ch true 19)) (args:=fun _=>[.bool true,.int .i64 19])
   case hB=>rfl
   case hr=>exact fun β=>aZ (.of rfl) (.cons (.of rfl) (.cons (.of rfl) .nil)) inferInstance rfl
   case hi=>exact bz
   case hd=>rfl
   case hc=>exact fun β w' hb=>dV _ _ _
   refine an (fun β=>(cB (.of rfl))) dy rfl ?_
   refine fh fun β=>?_
   dsimp only [ei,Za,Zb,List.append_eq,Nat.reduceAdd]
   with_reducible refine cH (by kernel_rfl) ?_
   refine Jt<|Je<|JT ?_
   rfl
  | false =>
   have hC:SO r v so de L=((gB r v so r.ti.length).any (fun x=>!L.contains x)||L.contains (nQ r de)):=by unfold SO;rw [tu];rfl
   rw [hC]
   obtain ⟨j0,z8⟩:∃ i:Nat,bE (cq r) de=(i:Nat):=⟨(bE (cq r) de).toNat,by have:=eG fJ;omega⟩
   have AN:j0<r.de.length:=by
    obtain ⟨hl,_⟩:=fq (l:=cq r) (s:=de) (by omega)
    rw [z8,ZI] at hl
    unfold cq at hl;rwa [Zd] at hl
   have Us:nQ r de=(r.de[j0]).mx:=by unfold nQ;rw [z8,ZI,Zk,Zc AN];rfl
   have Nq:∀ w',aJ [] w w'→bu Tryz.prog 152 [.agg #[.int .i64 r.lv,.int .i64 r.ma,s,d,t,p],.int .i64 v,.string so] w' [] (fun _:Value=>True) id (fun x=>[row 3 1 x (gB r v so r.ti.length).length ((gB r v so r.ti.length).map (Value.int .i64))]):=fun w' hk=>EO (s:=s) (d:=d) (t:=t) (p:=p) v so (h.keeps hk) (by omega) rz
   have w9:∀ w',aJ [] w w'→aj Tryz.prog 155 [.agg #[.int .i64 r.lv,.int .i64 r.ma,s,d,t,p],.string de] w' (.int .i64 (j0:Nat)):=fun w' hk=>z8 ▸ fL de (h.keeps hk)
   generalize gB r v so r.ti.length=R0 at Nq ⊢
   cases W4:R0.any (fun x=>!L.contains x) with
   | true =>
    rw [Bool.true_or]
    with_reducible refine dL 23 (by kernel_rfl) ?_
    (refine an (fun β=>(aN (.of rfl))) dy rfl<|an (fun β=>(aN (.of rfl))) dy rfl<|bX rfl (fun _=>rfl)<|an (fun β=>(bT (.of rfl) dT ak (by rfl))) dy rfl<|bX rfl (fun _=>rfl)<|an (fun β=>(ag (.of rfl) (At.lit cW rfl))) dy rfl<|bX rfl (fun _=>rfl)<|an (fun β=>(aN (.of rfl))) dy rfl ?_)
    dsimp only [Nat.zero_add,Nat.reduceAdd]
    refine bX rfl (fun _=>rfl) ?_
    with_reducible apply dp (ι:=Value) (Φ:=fun _=>True) (val:=id) (own:=fun x=>[row 3 1 x R0.length (R0.map (Value.int .i64))]) (g:=id) (B:=[]) (args:=fun _=>[.agg #[.int .i64 r.lv,.int .i64 r.ma,s,d,t,p],.int .i64 v,.string so])
    case hg=>exact fun x=>⟨x,rfl⟩
    case hB=>rfl
    case hr=>exact fun β=>aZ (.of rfl) (.cons (.of rfl) (.cons (.of rfl) (.cons (.of rfl) .nil))) inferInstance rfl
    case hd=>rfl
    case hc=>exact fun β w' hb=>Nq w' hb.mem.keeps
    dsimp only [id_eq,Nat.reduceAdd]
    (refine bX rfl (fun _=>rfl)<|an (fun β=>(ag (.of rfl) (At.lit .here rfl))) dy rfl ?_)
    dsimp only [Nat.zero_add,Nat.reduceAdd]
    refine bX rfl (fun _=>rfl) ?_
    with_reducible apply dd (B:=[5]) (F:=fun _=>.bool true) (args:=fun β=>[β 5,.func (.func 158) #[] #[.pointer (some ⟨G5,0,none⟩)]])
    case hB=>first | rfl | kernel_rfl
    case hr=>exact fun β=>aZ (.of rfl) (.cons (.of rfl) (.cons (.of rfl) .nil)) inferInstance rfl
    case hi=>exact bz
    case hd=>rfl
    case hc=>
     intro β w' hb
     have m5:=hb.at 5 Zq (s:=⟨fun β=>β 5,fun β=>[row 3 1 (β 5) R0.length (R0.map (Value.int .i64))]⟩) (by kernel_rfl)
     dsimp only [Zb,Za] at m5
     have s1:Rd w' (β 5) 1 (ints R0):=kO m5 (by exact .here) rfl
     have f9:w'.cell? ⟨b9,0,none⟩=some (.slice aw L.length cw):=At.lit cW rfl w' m5
     have f16:w'.cell? ⟨G5,0,none⟩=some (.func (.func 157) #[] #[.pointer (some ⟨b9,0,none⟩)]):=At.lit bL rfl w' m5
     have q:=vJ (f:=158) (p:=fun x=>!L.contains x) (first:=[]) (cap:=[.pointer (some ⟨G5,0,none⟩)]) s1 (fun x hx w2 eF=>vQ x (AK.keeps (hb.mem.keeps.trans eF)) (cu f9 rfl eF) (cu f16 rfl eF))
     rw [W4] at q
     exact q
    (refine an (fun β=>(eN (.of rfl) (.of rfl) (.of rfl) rfl)) dy rfl<|an (fun β=>(aN (.of rfl))) dy rfl<|bP rfl (fun _=>rfl) (Or.inr rfl) rfl<|bP rfl (fun _=>rfl) (Or.inr rfl) rfl<|bP rfl (fun _=>rfl) (Or.inr rfl) rfl<|bP rfl (fun _=>rfl) (Or.inr rfl) rfl<|bP rfl (fun _=>rfl) (Or.inr rfl) rfl<|bP rfl (fun _=>rfl) (Or.inr rfl) rfl<|bP rfl (fun _=>rfl) (Or.inr rfl) rfl<|bP rfl (fun _=>rfl) (Or.inr rfl) rfl<|bP rfl (fun _=>rfl) (Or.inr rfl) rfl<|bP rfl (fun _=>rfl) (Or.inr rfl) rfl<|an (fun β=>(eN (.of rfl) (.of rfl) (.of rfl) rfl)) dy rfl ?_)
    dsimp only [Nat.zero_add,Nat.reduceAdd]
    with_reducible apply dd (B:=[]) (F:=fun _=>.int .i64 (ch true 19)) (args:=fun _=>[.bool true,.int .i64 19])
    case hB=>rfl
    case hr=>exact fun β=>aZ (.of rfl) (.cons (.of rfl) (.cons (.of rfl) .nil)) inferInstance rfl
    case hi=>exact bz
    case hd=>rfl
    case hc=>exact fun β w' hb=>dV _ _ _
    refine an (fun β=>(cB (.of rfl))) dy rfl ?_
    refine fh fun β=>?_
    dsimp only [ei,Za,Zb,List.append_eq,Nat.reduceAdd]
    with_reducible refine cH (by kernel_rfl) ?_
    refine Jt<|Je<|JT ?_
    rfl
   | false =>
    rw [Bool.false_or]
    have mq:=h.de
    obtain ⟨a3,sK,b3,o3,rfl,nD,gG,tM,ql⟩:=mq
    rw [cn] at *
    unfold maxLen at gG
    have GG:=tM (fW AN)
    have oI:=(ql j0 _ (eR AN)).2
    unfold De.cells at oI
    have vF:=oI 1 _ rfl
    rw [← Us] at vF
    cases VL:L.contains (nQ r de) with
    | true =>
     with_reducible refine dL 23 (by kernel_rfl) ?_
     (refine an (fun β=>(aN (.of rfl))) dy rfl<|an (fun β=>(aN (.of rfl))) dy rfl<|bX rfl (fun _=>rfl)<|an (fun β=>(bT (.of rfl) dT ak (by rfl))) dy rfl<|bX rfl (fun _=>rfl)<|an (fun β=>(ag (.of rfl) (At.lit cW rfl))) dy rfl<|bX rfl (fun _=>rfl)<|an (fun β=>(aN (.of rfl))) dy rfl ?_)
     dsimp only [Nat.zero_add,Nat.reduceAdd]
     refine bX rfl (fun _=>rfl) ?_
     with_reducible apply dp (ι:=Value) (Φ:=fun _=>True) (val:=id) (own:=fun x=>[row 3 1 x R0.length (R0.map (Value.int .i64))]) (g:=id) (B:=[]) (args:=fun _=>[.agg #[.int .i64 r.lv,.int .i64 r.ma,s,.slice a3 r.de.length sK,t,p],.int .i64 v,.string so])
     case hg=>exact fun x=>⟨x,rfl⟩
     case hB=>rfl
     case hr=>exact fun β=>aZ (.of rfl) (.cons (.of rfl) (.cons (.of rfl) (.cons (.of rfl) .nil))) inferInstance rfl
     case hd=>rfl
     case hc=>exact fun β w' hb=>Nq w' hb.mem.keeps
     dsimp only [id_eq,Nat.reduceAdd]
     (refine bX rfl (fun _=>rfl)<|an (fun β=>(ag (.of rfl) (At.lit .here rfl))) dy rfl ?_)
     dsimp only [Nat.zero_add,Nat.reduceAdd]
     refine bX rfl (fun _=>rfl) ?_
     with_reducible apply dd (B:=[5]) (F:=fun _=>.bool false) (args:=fun β=>[β 5,.func (.func 158) #[] #[.pointer (some ⟨G5,0,none⟩)]])
     case hB=>first | rfl | kernel_rfl
     case hr=>exact fun β=>aZ (.of rfl) (.cons (.of rfl) (.cons (.of rfl) .nil)) inferInstance rfl
     case hi=>exact bz
     case hd=>rfl
     case hc=>
      intro β w' hb
      have m5:=hb.at 5 Zq (s:=⟨fun β=>β 5,fun β=>[row 3 1 (β 5) R0.length (R0.map (Value.int .i64))]⟩) (by kernel_rfl)
      dsimp only [Zb,Za] at m5
      have s1:Rd w' (β 5) 1 (ints R0):=kO m5 (by exact .here) rfl
      have f9:w'.cell? ⟨b9,0,none⟩=some (.slice aw L.length cw):=At.lit cW rfl w' m5
      have f16:w'.cell? ⟨G5,0,none⟩=some (.func (.func 157) #[] #[.pointer (some ⟨b9,0,none⟩)]):=At.lit bL rfl w' m5
      have q:=vJ (f:=158) (p:=fun x=>!L.contains x) (first:=[]) (cap:=[.pointer (some ⟨G5,0,none⟩)]) s1 (fun x hx w2 eF=>vQ x (AK.keeps (hb.mem.keeps.trans eF)) (cu f9 rfl eF) (cu f16 rfl eF))
      rw [W4] at q
      exact q
     (refine an (fun β=>(cX (.of rfl) (.of rfl) (.of rfl) rfl)) dy rfl<|an (fun β=>(aN (.of rfl))) dy rfl<|bX rfl (fun _=>rfl)<|an (fun β=>(ag (.of rfl) (At.lit (.there .here) rfl))) dy rfl<|bX rfl (fun _=>rfl)<|an (fun β=>(au (.of rfl) ae)) dy rfl<|bX rfl (fun _=>rfl)<|an (fun β=>(ag (.of rfl) (At.lit dT rfl))) dy rfl<|bX rfl (fun _=>rfl)<|an (fun β=>(bT (.of rfl) dT ak (by rfl))) dy rfl<|bX rfl (fun _=>rfl)<|an (fun β=>(aN (.of rfl))) dy rfl ?_)
     dsimp only [Nat.zero_add,Nat.reduceAdd]
     refine bX rfl (fun _=>rfl) ?_
     with_reducible apply dd (B:=[]) (F:=fun _=>.int .i64 (j0:Nat)) (args:=fun _=>[.agg #[.int .i64 r.lv,.int .i64 r.ma,s,.slice a3 r.de.length sK,t,p],.string de])
     case hB=>rfl
     case hr=>exact fun β=>aZ (.of rfl) (.cons (.of rfl) (.cons (.of rfl) .nil)) inferInstance rfl
     case hi=>exact bz
     case hd=>rfl
     case hc=>exact fun β w' hb=>w9 w' hb.mem.keeps
     (refine bX rfl (fun _=>rfl)<|an (fun β=>(ar (.of rfl) (.of rfl) GG (by omega) (by omega) bb)) dy rfl<|bX rfl (fun _=>rfl)<|an (fun β=>(au (.of rfl) ae)) dy rfl<|bX rfl (fun _=>rfl)<|an (fun β=>(ag (.of rfl) (At.base vF rfl))) dy rfl ?_)
     dsimp only [Nat.zero_add,Nat.reduceAdd]
     refine bX rfl (fun _=>rfl) ?_
     with_reducible apply dd (B:=[]) (F:=fun _=>.bool true) (args:=fun _=>[.int .i64 (nQ r de),.pointer (some ⟨b9,0,none⟩)])
     case hB=>rfl
     case hr=>exact fun β=>aZ (Is.of rfl) (G0.cons (Is.of rfl) G0.nil) inferInstance ez
     case hi=>exact bz
     case hd=>rfl
     case hc=>
      intro β w' hb
      have m5:=hb.mem
      have f9:w'.cell? ⟨b9,0,none⟩=some (.slice aw L.length cw):=At.lit bL rfl w' m5
      have q:=vR (nQ r de) (AK.keeps hb.mem.keeps) f9
      rw [VL] at q
      exact q
     refine an (fun β=>(eN (.of rfl) (.of rfl) (.of rfl) rfl)) dy rfl ?_
     dsimp only [Nat.zero_add,Nat.reduceAdd]
     with_reducible apply dd (B:=[]) (F:=fun _=>.int .i64 (ch true 19)) (args:=fun _=>[.bool true,.int .i64 19])
     case hB=>rfl
     case hr=>exact fun β=>aZ (.of rfl) (.cons (.of rfl) (.cons (.of rfl) .nil)) inferInstance rfl
     case hi=>exact bz
     case hd=>rfl
     case hc=>exact fun β w' hb=>dV _ _ _
     refine an (fun β=>(cB (.of rfl))) dy rfl ?_
     refine fh fun β=>?_
     dsimp only [ei,Za,Zb,List.append_eq,Nat.reduceAdd]
     with_reducible refine cH (by kernel_rfl) ?_
     refine Jt<|Je<|JT ?_
     rfl
    | false =>
     with_reducible refine dL 23 (by kernel_rfl) ?_
     (refine an (fun β=>(aN (.of rfl))) dy rfl<|an (fun β=>(aN (.of rfl))) dy rfl<|bX rfl (fun _=>rfl)<|an (fun β=>(bT (.of rfl) dT ak (by rfl))) dy rfl<|bX rfl (fun _=>rfl)<|an (fun β=>(ag (.of rfl) (At.lit cW rfl))) dy rfl<|bX rfl (fun _=>rfl)<|an (fun β=>(aN (.of rfl))) dy rfl ?_)
     dsimp only [Nat.zero_add,Nat.reduceAdd]
     refine bX rfl (fun _=>rfl) ?_
     with_reducible apply dp (ι:=Value) (Φ:=fun _=>True) (val:=id) (own:=fun x=>[row 3 1 x R0.length (R0.map (Value.int .i64))]) (g:=id) (B:=[]) (args:=fun _=>[.agg #[.int .i64 r.lv,.int .i64 r.ma,s,.slice a3 r.de.length sK,t,p],.int .i64 v,.string so])
     case hg=>exact fun x=>⟨x,rfl⟩
     case hB=>rfl
     case hr=>exact fun β=>aZ (.of rfl) (.cons (.of rfl) (.cons (.of rfl) (.cons (.of rfl) .nil))) inferInstance rfl
     case hd=>rfl
     case hc=>exact fun β w' hb=>Nq w' hb.mem.keeps
     dsimp only [id_eq,Nat.reduceAdd]
     (refine bX rfl (fun _=>rfl)<|an (fun β=>(ag (.of rfl) (At.lit .here rfl))) dy rfl ?_)
     dsimp only [Nat.zero_add,Nat.reduceAdd]
     refine bX rfl (fun _=>rfl) ?_
     with_reducible apply dd (B:=[5]) (F:=fun _=>.bool false) (args:=fun β=>[β 5,.func (.func 158) #[] #[.pointer (some ⟨G5,0,none⟩)]])
     case hB=>first | rfl | kernel_rfl
     case hr=>exact fun β=>aZ (.of rfl) (.cons (.of rfl) (.cons (.of rfl) .nil)) inferInstance rfl
     case hi=>exact bz
     case hd=>rfl
     case hc=>
      intro β w' hb
      have m5:=hb.at 5 Zq (s:=⟨fun β=>β 5,fun β=>[row 3 1 (β 5) R0.length (R0.map (Value.int .i64))]⟩) (by kernel_rfl)
      dsimp only [Zb,Za] at m5
      have s1:Rd w' (β 5) 1 (ints R0):=kO m5 (by exact .here) rfl
      have f9:w'.cell? ⟨b9,0,none⟩=some (.slice aw L.length cw):=At.lit cW rfl w' m5
      have f16:w'.cell? ⟨G5,0,none⟩=some (.func (.func 157) #[] #[.pointer (some ⟨b9,0,none⟩)]):=At.lit bL rfl w' m5
      have q:=vJ (f:=158) (p:=fun x=>!L.contains x) (first:=[]) (cap:=[.pointer (some ⟨G5,0,none⟩)]) s1 (fun x hx w2 eF=>vQ x (AK.keeps (hb.mem.keeps.trans eF)) (cu f9 rfl eF) (cu f16 rfl eF))
      rw [W4] at q
      exact q
     (refine an (fun β=>(cX (.of rfl) (.of rfl) (.of rfl) rfl)) dy rfl<|an (fun β=>(aN (.of rfl))) dy rfl<|bX rfl (fun _=>rfl)<|an (fun β=>(ag (.of rfl) (At.lit (.there .here) rfl))) dy rfl<|bX rfl (fun _=>rfl)<|an (fun β=>(au (.of rfl) ae)) dy rfl<|bX rfl (fun _=>rfl)<|an (fun β=>(ag (.of rfl) (At.lit dT rfl))) dy rfl<|bX rfl (fun _=>rfl)<|an (fun β=>(bT (.of rfl) dT ak (by rfl))) dy rfl<|bX rfl (fun _=>rfl)<|an (fun β=>(aN (.of rfl))) dy rfl ?_)
     dsimp only [Nat.zero_add,Nat.reduceAdd]
     refine bX rfl (fun _=>rfl) ?_
     with_reducible apply dd (B:=[]) (F:=fun _=>.int .i64 (j0:Nat)) (args:=fun _=>[.agg #[.int .i64 r.lv,.int .i64 r.ma,s,.slice a3 r.de.length sK,t,p],.string de])
     case hB=>rfl
     case hr=>exact fun β=>aZ (.of rfl) (.cons (.of rfl) (.cons (.of rfl) .nil)) inferInstance rfl
     case hi=>exact bz
     case hd=>rfl
     case hc=>exact fun β w' hb=>w9 w' hb.mem.keeps
     (refine bX rfl (fun _=>rfl)<|an (fun β=>(ar (.of rfl) (.of rfl) GG (by omega) (by omega) bb)) dy rfl<|bX rfl (fun _=>rfl)<|an (fun β=>(au (.of rfl) ae)) dy rfl<|bX rfl (fun _=>rfl)<|an (fun β=>(ag (.of rfl) (At.base vF rfl))) dy rfl ?_)
     dsimp only [Nat.zero_add,Nat.reduceAdd]
     refine bX rfl (fun _=>rfl) ?_
     with_reducible apply dd (B:=[]) (F:=fun _=>.bool false) (args:=fun _=>[.int .i64 (nQ r de),.pointer (some ⟨b9,0,none⟩)])
     case hB=>rfl
     case hr=>exact fun β=>aZ (Is.of rfl) (G0.cons (Is.of rfl) G0.nil) inferInstance ez
     case hi=>exact bz
     case hd=>rfl
     case hc=>
      intro β w' hb
      have m5:=hb.mem
      have f9:w'.cell? ⟨b9,0,none⟩=some (.slice aw L.length cw):=At.lit bL rfl w' m5
      have q:=vR (nQ r de) (AK.keeps hb.mem.keeps) f9
      rw [VL] at q
      exact q
     refine an (fun β=>(cX (.of rfl) (.of rfl) (.of rfl) rfl)) dy rfl ?_
     dsimp only [Nat.zero_add,Nat.reduceAdd]
     with_reducible apply dd (B:=[]) (F:=fun _=>.int .i64 (ch false 19)) (args:=fun _=>[.bool false,.int .i64 19])
     case hB=>rfl
     case hr=>exact fun β=>aZ (.of rfl) (.cons (.of rfl) (.cons (.of rfl) .nil)) inferInstance rfl
     case hi=>exact bz
     case hd=>rfl
     case hc=>exact fun β w' hb=>dV _ _ _
     refine an (fun β=>(cB (.of rfl))) dy rfl ?_
     refine fh fun β=>?_
     dsimp only [ei,Za,Zb,List.append_eq,Nat.reduceAdd]
     with_reducible refine cH (by kernel_rfl) ?_
     refine Jt<|Je<|JT ?_
     rfl
structure Tk where
 de:ByteArray
 so:List ByteArray
structure fu where
 tk:Tk
 v:Value
def fu.cells (x:fu):List Value:=[.string x.tk.de,x.v]
def iF (l:List fu):List (List Value):=l.map fu.cells
theorem du (l:List fu):(iF l).length=l.length:=by simp [iF]
theorem jy {l:List fu} {k:Nat} (h:k<l.length):(iF l)[k]? = some (l[k]).cells:=by simp [iF,h]
theorem jk {l:List fu} {k:Nat} (h:k<l.length):iF l≠[]:=by intro e;have:=congrArg List.length e;rw [du] at this;simp at this;subst this;simp at h
def sR (w:World) (l:List fu):Prop:=∀ x∈l,Rd w x.v 1 (im x.tk.so)
theorem sR.keeps {w w':World} {l:List fu} (h:sR w l) (hk:aJ [] w w'):sR w' l:=fun x hx=>(h x hx).keeps hk
theorem Fa {lv:Value} {l:List fu} {p:fu→Bool} {f:FuncId} {first cap:List Value} [bR Tryz.prog f] {w:World} (h:Rd w lv 2 (iF l)) (cz:∀ x∈l,∀ w',aJ [] w w'→aj Tryz.prog f (first++[.agg x.cells.toArray]++cap) w' (.bool (p x))) :
  aj Tryz.prog 252 [lv,.func (.func f) first.toArray cap.toArray] w (.int .i64 (fT p l)):=by
 obtain ⟨a,cp,b,o,rfl,dj,bV,ha,hc⟩:=h
 rw [du] at *
 unfold maxLen at bV
 refine ah Tryz.func252 rfl rfl ?_
 refine Jr<|Ja rfl<|Jn<|Jq<|Jr<|Jv rfl<|JI rfl<|Jv rfl<|Jn<|J0 ?_
 refine aW (fun k:Nat=>k≤l.length∧∀ i,i<k→(l[i]?.map p).getD false=false) (fun k=>[(8,.int .i64 k),(7,.int .i64 l.length),(0,.slice a l.length cp),(1,.func (.func f) first.toArray cap.toArray)]) (fun _=>[]) (fun k=>l.length-k) ?_ ?_
 ·apply aI 0 ⟨Zi _,fun i h=>by omega⟩
  case hs1=>exact cg
  case ht=>(try simp only [Ze,Zf,Za]);exact .nil
 rintro k ⟨hk,hf⟩
 by_cases aM:k<l.length
 ·have cG:=ha (jk aM)
  have aB:=(hc k _ (jy aM)).2
  have iT:=cz _ (Zj aM)
  have hps:(l[k]?.map p).getD false=p l[k]:=by simp [aM]
  unfold fu.cells at aB iT
  (refine Jr<|JA rfl<|Jn<|Jq<|Jd rfl fun az=>Jk<|Jq<|J0<|Jr<|Jv rfl<|Ja rfl<|Ji<|Jv rfl<|Jv rfl<|Jv rfl<|ab (fM cG az) rfl<|ab (gW (ew.base aB rfl)) rfl<|ai bN rfl (fun w' aA=>(iT w' (Mem.keeps aA)))<|Jn<|pt rfl (fun az=>?_) fun az=>?_;refine Jr<|Jv rfl<|Ja rfl<|Jn<|Je<|Jm<|Jh<|Jh<|Jm<|Jh<|JT ?_;rotate_left;refine Jw<|Jj<|Jt<|Jg<|JB rfl (by omega)<|Jv rfl<|Jn ?_;rotate_right)
  ·rw [gy hf aM az]
  ·apply aK (k+1) ⟨by omega,fun i hi=>by
    by_cases e:i=k
    ·rw [e,hps];exact az
    ·exact hf i (by omega)⟩ (by omega)
   case hs1=>exact cg
   case ht=>(try simp only [Ze,Zf,Za]);exact .nil
 ·obtain rfl:k=l.length:=by omega
  refine Jr<|JA rfl<|Jn<|Jq<|Jc rfl fun az=>Jp<|Jl<|Jo<|Jt<|Jr<|Ja rfl<|Jn<|Je<|JT ?_
  rw [fA hf]
theorem NF {lv:Value} {l:List fu} {p:fu→Bool} {f:FuncId} {first cap:List Value} [bR Tryz.prog f] {w:World} (h:Rd w lv 2 (iF l)) (cz:∀ x∈l,∀ w',aJ [] w w'→aj Tryz.prog f (first++[.agg x.cells.toArray]++cap) w' (.bool (p x))) :
  aj Tryz.prog 248 [lv,.func (.func f) first.toArray cap.toArray] w (.bool (l.any p)):=by
 have iT:∀ w',aJ [] w w'→aj Tryz.prog 252 [lv,.func (.func f) first.toArray cap.toArray] w' (.int .i64 (fT p l)):=fun w' hk=>
  Fa (h.keeps hk) fun x hx w2 eF=>cz x hx w2 (hk.trans eF)
 rw [← je]
 refine ah Tryz.func248 rfl rfl ?_
 (refine Jr<|Ja rfl<|Ji<|Jv rfl<|Jv rfl<|ai bj rfl (fun w' aA=>(iT w' (Mem.keeps aA)))<|JG rfl<|Ja rfl<|Jn<|Je<|JT ?_)
 rfl
theorem SZ {x:fu} {y:ByteArray} {b:Nat} {w:World} (f1:w.cell? ⟨b,0,none⟩=some (.string y)):aj Tryz.prog 249 [.agg x.cells.toArray,.pointer (some ⟨b,0,none⟩)] w (.bool (decide (x.tk.de=y))):=by
 unfold fu.cells
 refine ah Tryz.func249 rfl rfl ?_
 (refine Jr<|Jy rfl rfl fun _ _=>Ja rfl<|Ji<|bS rfl rfl ae<|JL rfl .here rfl<|bS rfl rfl ae<|ab (ag (.of rfl) (At.base f1 rfl)) rfl<|ab (dG (.of rfl) (.of rfl)) rfl<|Ja rfl<|Jn<|Je<|JT ?_)
 rfl
theorem uQ {P:Program} {c:Cx} {sl:aH} {hs:List bd} {dst:Option Tmp} {ty:TypeId} {pos:String} {af:Array Edge} {g:Option (Nat×Bool)} {t u:TypeId} {x y:Operand} {a b:ByteArray} (hx:Is sl x (.string a)) (hy:Is sl y (.string b)) (e:a≠b) :
  cY P c sl hs ⟨dst,.binOp .neq t x y u,ty,pos,af,g⟩ (.bool true):=by
 have:=eZ (P:=P) (c:=c) (hs:=hs) (dst:=dst) (ty:=ty) (pos:=pos) (af:=af) (g:=g) (t:=t) (u:=u) hx hy
 rwa [decide_eq_true e] at this
theorem Bv {P:Program} {c:Cx} {sl:aH} {hs:List bd} {dst:Option Tmp} {ty:TypeId} {pos:String} {af:Array Edge} {g:Option (Nat×Bool)} {t u:TypeId} {x y:Operand} {a b:ByteArray} (hx:Is sl x (.string a)) (hy:Is sl y (.string b)) (e:a=b) :
  cY P c sl hs ⟨dst,.binOp .neq t x y u,ty,pos,af,g⟩ (.bool false):=by
 have:=eZ (P:=P) (c:=c) (hs:=hs) (dst:=dst) (ty:=ty) (pos:=pos) (af:=af) (g:=g) (t:=t) (u:=u) hx hy
 rwa [decide_eq_false (not_not_intro e)] at this
def jd (r:Ro) (o:ByteArray):Bool:=decide (o≠⟨#[]⟩)&&decide (o≠⟨#[45]⟩)&&decide (bE (cF r) o<0)
theorem S0 {r:Ro} {s d t p:Value} (o:ByteArray) {b:Nat} {w:World} (hr:RR w r s d t p) (hA:BR w b (RC r s d t p)) :
  aj Tryz.prog 251 [.string o,.pointer (some ⟨b,0,none⟩)] w (.bool (jd r o)):=by
 have h1:=Rd.one hr.sr
 have h2:=Rd.one hr.de
 have h3:=Rd.one hr.ti
 have h4:=Rd.one hr.po
 have ke:∀ (j:Nat) (u:Value),[Value.int .i64 r.lv,.int .i64 r.ma,s,d,t,p][j]? = some u→w.cell? ⟨b,0+j,none⟩=some u:=hA
 refine ah Tryz.func251 rfl rfl ?_
 by_cases J9:o=⟨#[]⟩
 ·have hB:jd r o=false:=by unfold jd;rw [decide_eq_false (not_not_intro J9)];rfl
  rw [hB]
  (refine Jr<|Ja rfl<|Ji<|Jv rfl<|ab (Bv (.of rfl) (.of rfl) J9) rfl<|Jv rfl<|il rfl rfl rfl rfl<|aD rfl rfl inferInstance (fun hg bA=>(eZ (.bI bA rfl) (.of rfl))) rfl<|ab (cX (.of rfl) (.of rfl) (.of rfl) rfl) rfl<|Jv rfl<|aD rfl rfl inferInstance (fun hg bA=>(jc (.of rfl) (ew.base ke rfl) rfl)) rfl<|il rfl rfl rfl rfl<|dC rfl rfl rfl rfl<|dC rfl rfl rfl rfl<|ab (cX (.of rfl) (.of rfl) (.of rfl) rfl) rfl<|Ja rfl<|Jn<|Je<|JT ?_)
  rfl
 by_cases Rr:o=⟨#[45]⟩
 ·have hB:jd r o=false:=by unfold jd;rw [decide_eq_false (not_not_intro Rr),Bool.and_false];rfl
  rw [hB]
  (refine Jr<|Ja rfl<|Ji<|Jv rfl<|ab (uQ (.of rfl) (.of rfl) J9) rfl<|Jv rfl<|JK rfl rfl<|Jv rfl<|JK rfl rfl<|ab (Bv (.of rfl) (.of rfl) Rr) rfl<|ab (cX (.of rfl) (.of rfl) (.of rfl) rfl) rfl<|Jv rfl<|aD rfl rfl inferInstance (fun hg bA=>(jc (.of rfl) (ew.base ke rfl) rfl)) rfl<|il rfl rfl rfl rfl<|dC rfl rfl rfl rfl<|dC rfl rfl rfl rfl<|ab (cX (.of rfl) (.of rfl) (.of rfl) rfl) rfl<|Ja rfl<|Jn<|Je<|JT ?_)
  rfl
 have hB:jd r o=decide (bE (cF r) o<0):=by unfold jd;rw [decide_eq_true J9,decide_eq_true Rr];rfl
 rw [hB]
 (refine Jr<|Ja rfl<|Ji<|Jv rfl<|ab (uQ (.of rfl) (.of rfl) J9) rfl<|Jv rfl<|JK rfl rfl<|Jv rfl<|JK rfl rfl<|ab (uQ (.of rfl) (.of rfl) Rr) rfl<|ab (eN (.of rfl) (.of rfl) (.of rfl) rfl) rfl<|Jv rfl<|JK rfl rfl<|ab (gW (ew.base ke rfl)) rfl<|JK rfl rfl<|Jv rfl<|JK rfl rfl ?_)
 refine ai bj rfl (fun w' aA=>n9 o (hr.keeps aA.keeps)) ?_
 refine JK rfl rfl<|JA rfl ?_
 with_reducible apply ab (V:=Value.bool (decide (bE (cF r) o<0)))
 case hr=>
  with_reducible apply gC
  case hx=>exact Is.of rfl
  case hy=>exact Is.of rfl
  case hz=>exact Is.of rfl
  case e=>rfl
 case hd=>rfl
 refine Ja rfl<|Jn<|Je<|JT ?_
 rfl
def cr (l:List fu):List Tk:=l.map (·.tk)
def wJ (r:Ro) (l:List Tk) (k:Nat):Int:=(l[k]?.map fun x=>aX [ph r x.de,ch ((l.take k).any fun y=>decide (y.de=x.de)) 9,ch (decide ((x.so.length:Int)≠r.lv)) 2,ch (x.so.any (jd r)) 10]).getD 0
theorem pU {r:Ro} {l:List Tk} {k:Nat} (h:k<l.length):wJ r l k=aX [ph r (l[k]).de,ch ((l.take k).any fun y=>decide (y.de=(l[k]).de)) 9,ch (decide (((l[k]).so.length:Int)≠r.lv)) 2,ch ((l[k]).so.any (jd r)) 10]:=by
 unfold wJ;rw [Zc h];rfl
def Db (l:List Tk):Int:=aX [ch (decide ((l.length:Int)=0)) 12,ch (decide ((8:Int)<(l.length:Nat))) 5]
def tH (r:Ro) (l:List Tk):Int:=if Db l≠0 then Db l else jE (wJ r l) l.length
set_option maxHeartbeats 2000000 in
theorem rK {r:Ro} {s d t p kv:Value} {l:List fu} {w:World} (h:RR w r s d t p) (hw:Rd w kv 2 (iF l)) (hM:sR w l) :
  aj Tryz.prog 164 [RA r s d t p,kv] w (.int .i64 (tH r (cr l))):=by
 have h1:=Rd.one h.sr
 have h2:=Rd.one h.de
 have h3:=Rd.one h.ti
 have h4:=Rd.one h.po
 have AK:=hw
 obtain ⟨aw,cw,bw,ow,rfl,O4,B2,Uy,Kb⟩:=hw
 rw [du] at *
 unfold maxLen at B2
 have qh:(cr l).length=l.length:=Zd _
 unfold RA
 refine ah Tryz.func164 rfl rfl ?_
 (refine Jr<|Jy rfl rfl fun _ _=>Ja rfl<|Jn<|Jq<|Jr<|Jv rfl<|JI rfl<|JC rfl<|ai bj rfl (fun w' aA=>(dV _ 12 w'))<|Jv rfl<|JI rfl<|JE rfl<|ai bj rfl (fun w' aA=>(dV _ 5 w'))<|br (aC (.cons (.of rfl) (.cons (.of rfl) .nil)) rfl rfl rfl rfl) rfl fun _ _=>ai bN rfl (fun w' aA=>(dO (Mem.dw aA .here rfl rfl) (bY.cons (bY.cons bY.nil))))<|Ja rfl<|Ji<|Jv rfl<|JD rfl<|Jn<|gm rfl (fun az=>?_) fun az=>?_;refine Jr<|Jv rfl<|Ja rfl<|Jn<|Ju<|JT ?_;rotate_left;refine Jk<|Jq<|Jr<|Jv rfl<|JI rfl<|Jv rfl<|Jn<|J0 ?_;rotate_right)
 ·have e1:tH r (cr l)=Db (cr l):=if_pos (by unfold Db;rw [qh];exact az)
  rw [e1];unfold Db;rw [qh]
 have Kl:Db (cr l)=0:=by unfold Db;rw [qh];exact Zo.1 az
 have hX:tH r (cr l)=jE (wJ r (cr l)) l.length:=by unfold tH;rw [if_neg (by rw [Kl];decide),qh]
 clear az
 rename_i b2 tL bq nq
 refine aW (fun k:Nat=>k≤l.length∧∀ i,i<k→wJ r (cr l) i=0) (fun k=>[(26,.int .i64 (k:Nat)),(25,.int .i64 (l.length:Nat)),(24,.slice aw l.length cw),(2,.pointer (some ⟨b2,0,none⟩)),(1,.slice aw l.length cw)])
  (fun k=>[JP b2 r s d t p]) (fun k=>l.length-k) ?_ ?_
 ·apply aI 0 ⟨Zi _,fun i hi=>by omega⟩
  case hs1=>exact cg
  case ht=>(try simp only [Ze,Zf,Za]);exact .cons (.there .here) .nil
 rintro k ⟨hk,hf⟩
 by_cases aM:k<l.length
 ·have Ke:=Uy (jk aM)
  have aB:=(Kb k _ (jy aM)).2
  unfold fu.cells at aB
  have hx:=hM _ (Zj aM)
  have jv:=pU (r:=r) (l:=cr l) (k:=k) (by omega)
  have hgk:(cr l)[k]'(by omega)=(l[k]).tk:=Z1 _
  rw [hgk] at jv
  have vv:Rd w (Go.sliced aw 0 (k:Int).toNat cw 2) 2 (iF (l.take k)):=by
   have:=AK.sliced (l:=0) (m:=k) (Zi _) (by omega)
   rw [ZI]
   rwa [List.drop_zero,show (iF l).take k=iF (l.take k) by unfold iF;rw [ZaV]] at this
  have Ry:(l.take k).any (fun y=>decide (y.tk.de=(l[k]).tk.de))=((cr l).take k).any fun y=>decide (y.de=(l[k]).tk.de):=by
   unfold cr;rw [← ZaV,List.any_map];rfl
  generalize l[k]=x at aB hx jv Ry ⊢
  obtain ⟨⟨xd,xs⟩,xv⟩:=x
  dsimp only at aB hx jv Ry ⊢
  have QE:=hx
  obtain ⟨ax,cx,bx,ox,rfl,O3,B1,Yl,X2⟩:=hx
  rw [bW] at *
  unfold maxLen at B1
  have fJ:∀ w',aJ [] w w'→aj Tryz.prog 112 [.agg #[.int .i64 r.lv,.int .i64 r.ma,s,d,t,p],.string xd] w' (.int .i64 (ph r xd)):=fun w' hk=>eA xd (h.keeps hk)
  (refine Jr<|JA rfl<|Jn<|Jq<|Jd rfl fun az=>Jk<|Jq<|J0<|Jr<|Jv rfl<|ab (ar (.of rfl) (.of rfl) Ke (by omega) az bb) rfl<|ab (gW (ew.base aB rfl)) rfl<|Jz rfl rfl fun _ _=>Ja rfl<|aq (.of rfl) (.of rfl) .here rfl rfl (fY rfl rfl) (bG rfl) ak<|Ji<|Jv rfl<|Jv rfl<|ab (hY (.of rfl) (.of rfl) (by omega) (by omega)) rfl<|ab (bC .nil (.cons (.of rfl) .nil)) rfl ?_)
  rename_i b7 Ux
  with_reducible apply ai
  case hr=>exact bj
  case hd=>rfl
  case hc=>
   intro w' aA
   have f7:w'.cell? ⟨b7,0,none⟩=some (.string xd):=(BR.of (cs:=[.string xd,.slice ax xs.length cx]) aA (by exact .here)) 0 _ rfl
   exact NF (f:=249) (p:=fun y=>decide (y.tk.de=xd)) (first:=[]) (cap:=[.pointer (some ⟨b7,0,none⟩)]) (vv.keeps aA.keeps) (fun y hy w2 eF=>SZ (cu f7 rfl eF))
  rw [Ry]
  (refine Ja rfl<|Ji<|bS rfl rfl ae<|JL rfl .here rfl<|ab (bC .nil (.cons (.of rfl) .nil)) rfl ?_)
  with_reducible apply ai
  case hr=>exact bj
  case hd=>rfl
  case hc=>
   intro w' aA
   have hR:=h.keeps aA.keeps
   have hA:BR w' b2 [.int .i64 r.lv,.int .i64 r.ma,s,d,t,p]:=BR.of aA (by exact Take.there .here)
   exact Kh (f:=251) (p:=jd r) (first:=[]) (cap:=[.pointer (some ⟨b2,0,none⟩)]) (QE.keeps aA.keeps) (fun o ho w2 eF=>S0 o (hR.keeps eF) (hA.keeps eF))
  refine Ja rfl<|Jn<|Jq ?_
  with_reducible refine cZ 16 (by kernel_rfl) ?_
  (refine ao (cR (.there .here)) rfl<|ao kZ rfl<|ao (gT .here) rfl<|aY bj rfl (fun w' aA=>(fJ w' (Mem.keeps aA)))<|ao l7 rfl<|aY bj rfl (fun w' aA=>(dV _ 9 w'))<|ao kZ rfl<|ao (gT .here) rfl<|ao (bJ (.of rfl)) rfl<|ao kZ rfl<|ao (gT (.there .here)) rfl<|ao (fa (.of rfl) (.of rfl)) rfl<|aY bj rfl (fun w' aA=>(dV _ 2 w'))<|ao l7 rfl<|aY bj rfl (fun w' aA=>(dV _ 10 w'))<|eB (aC (.cons (.of rfl) (.cons (.of rfl) (.cons (.of rfl) (.cons (.of rfl) .nil)))) rfl rfl rfl rfl) rfl rfl ?_)
  with_reducible refine dB rfl fun b55 Yf=>?_
  (refine ai bN rfl (fun w' aA=>(dO (Mem.dw aA .here rfl rfl) (bY.cons (bY.cons (bY.cons (bY.cons bY.nil))))))<|Ja rfl<|Ji<|Jv rfl<|JD rfl<|Jn<|gm rfl (fun az=>?_) fun az=>?_;refine Jr<|Jv rfl<|Ja rfl<|Jn<|Je<|Jm<|Jh<|Jh<|Jm<|Jh<|JT ?_;rotate_left;refine Jw<|Jj<|Jt<|Jg<|JB rfl (by omega)<|Jv rfl<|Jn ?_;rotate_right)
  ·rw [← jv] at az ⊢
   have hB:jE (wJ r (cr l)) l.length=wJ r (cr l) k:=eW hf aM az
   rw [hX,hB]
  have hz:wJ r (cr l) k=0:=by rw [jv];exact Zo.1 az
  apply aK (k+1) ⟨by omega,fun i hi=>by
   by_cases e:i=k
   ·rw [e];exact hz
   ·exact hf i (by omega)⟩ (by omega)
  case hs1=>exact cg
  case ht=>(try simp only [Ze,Zf,Za]);exact .cons bL .nil
 ·obtain rfl:k=l.length:=by omega
  have UL:jE (wJ r (cr l)) l.length=0:=dS.2 hf
  rw [hX,UL]
  refine Jr<|JA rfl<|Jn<|Jq<|Jc rfl fun az=>Jp<|Jl<|Jo<|Jt<|Jr<|Ja rfl<|Jn<|Je<|JT ?_
  rfl
def yn (v:Int) (o:ByteArray) (x:Po):Bool:=decide (x.lv=v)&&decide (x.ou=o)
theorem SV {x:Po} (v:Int) (o:ByteArray) {b1 b2:Nat} {w:World} (f1:w.cell? ⟨b1,0,none⟩=some (.int .i64 v)) (f2:w.cell? ⟨b2,0,none⟩=some (.string o)) :
  aj Tryz.prog 315 [.agg x.cells.toArray,.pointer (some ⟨b1,0,none⟩),.pointer (some ⟨b2,0,none⟩)] w (.bool (yn v o x)):=by
 unfold Po.cells
 refine ah Tryz.func315 rfl rfl ?_
 (refine Jr<|Jy rfl rfl fun _ _=>Ja rfl<|Ji<|ab (cR .here) rfl<|ab (ag (.of rfl) (At.base f1 rfl)) rfl<|ab (ag (.of rfl) (At.base f2 rfl)) rfl<|bS rfl rfl ae<|JL rfl .here rfl<|ab (aU (.cons (.of rfl) (.cons (.of rfl) (.cons (.of rfl) .nil))) ak) rfl<|ab (ue (.of rfl) (.of rfl) (jZ (fj (fj lT))) rfl) rfl<|Ja rfl<|Jn<|Je<|JT ?_)
 simp [yn]
def RB (b:Nat) (r:Ro) (s d t p:Value):bd:=JP b r s d t p
def PB (p:Value) (l:List Po):bd:=row 188 3 p l.length (fO l)
set_option maxHeartbeats 1000000 in
theorem xC {r:Ro} {s d t p:Value} {b:Nat} {l:List Po} (v:Int) (o:ByteArray) {w:World} {fp:List Nat} (lj:fp.Nodup) (hs:ct (hp w) [RB b r s d t p,PB p l] fp) (cT:l.length≤1000000) :
  bu Tryz.prog 256 [.pointer (some ⟨b,0,none⟩),.int .i64 v,.string o] w fp (fun _:Value=>True) (fun _=>.tuple #[]) (fun p'=>[RB b r s d t p',PB p' (l.filter fun x=>!yn v o x)]):=by
 unfold RB PB at *
 refine eb Tryz.func256 rfl rfl lj hs ?_
 (refine Jr<|Jy rfl rfl fun _ _=>Jy rfl rfl fun _ _=>Jn<|Jg<|Jv rfl<|Jv rfl<|ab (dQ (.of rfl)) rfl<|bS rfl rfl ae<|JL rfl bL rfl<|ab (bC .nil (.cons (.of rfl) (.cons (.of rfl) .nil))) rfl ?_)
 rename_i b4 wA b5 ND
 with_reducible apply fP (As:=[row 188 3 p l.length (fO l)])
 case hr=>exact bj
 case hd=>rfl
 case ht=>exact .cons cW .nil
 case hc=>
  intro w1 AT aR vA hs1 CQ kQ
  have h4:b4 ∉ AT:=kQ b4 _ _ (by exact Take.there .here)
  have h5:b5 ∉ AT:=kQ b5 _ _ (by exact .here)
  have f4:w1.cell? ⟨b4,0,none⟩=some (.int .i64 v):=At.lit (by exact Take.there .here) rfl w1 aR
  have f5:w1.cell? ⟨b5,0,none⟩=some (.string o):=At.lit (by exact .here) rfl w1 aR
  exact N0 (f:=315) (p:=yn v o) (first:=[]) (cap:=[.pointer (some ⟨b4,0,none⟩),.pointer (some ⟨b5,0,none⟩)]) vA hs1 rfl cT (fun x _ w2 eF=>SV v o (eh f4 rfl h4 eF) (eh f5 rfl h5 eF))
 intro p' _
 dsimp only [id_eq,Zb,Za]
 refine aT (by exact .here) fun va vc e=>?_
 subst e
 (refine ab (dQ (.of rfl)) rfl<|bS rfl rfl ae<|aq (.of rfl) (.of rfl) cW rfl rfl (en rfl) (bG rfl) ak<|Jx ?_)
 first | with_reducible apply aO | with_reducible apply aP
 case he=>exact pO rfl
 case hR=>
  intro w' aA
  exact aG (.slice va (l.filter fun x=>!yn v o x).length vc) trivial (by exact .cons .here (.cons .here .nil)) aA rfl
theorem GV {lv:Value} {l:List Po} {w:World} (h:Rd w lv 3 (td l)) (hl:l.length≤1000) :
  bu Tryz.prog 316 [lv] w [] (fun _:Value=>True) id (fun v=>[row 188 3 v l.length (fO l)]):=by
 have h':=h
 obtain ⟨a,cp,b,o,rfl,dj,bV,ha,hc⟩:=h
 refine aS Tryz.func316 rfl rfl ?_
 cases a with
 | none =>
  have qk:l=[]:=by
   cases l with
   | nil=>rfl
   | cons x r=>exact absurd (ha (by simp [td])) (by simp)
  subst qk
  (refine Jr<|Ja rfl<|Jn<|Jq<|Jr<|Jv rfl<|ab (gD (.of rfl) (.of rfl)) rfl<|Jn<|cP (.of rfl)<|Jr<|Ja rfl<|Jn<|Ju ?_)
  refine aQ 188 3 ?_
  first | with_reducible apply aO | with_reducible apply aP
  case he=>exact dH rfl rfl
  case hR=>
   intro w' aA
   exact aG (.slice none 0 0) trivial (by exact .cons .here .nil) aA rfl
 | some ad =>
  (refine Jr<|Ja rfl<|Jn<|Jq<|Jr<|Jv rfl<|ab (gD (.of rfl) (.of rfl)) rfl<|Jn<|bK (.of rfl)<|Jk<|Jr ?_)
  with_reducible apply br
  case hr=>exact kK
  case hd=>rfl
  intro bq nq
  refine Lq rfl rfl ?_
  refine bZ (g:=bq) (E:=188) (ys:=[]) 0 3 (by exact .here) rfl rfl rfl ?_
  with_reducible apply gY
  case hx=>exact Is.of rfl
  case hy=>exact Is.of rfl
  case ht=>exact .here
  case hsrc=>exact fun w' aA=>h'.keeps aA.keeps
  case h1=>exact EU l
  case hz=>exact rfl
  case hsz=>exact rfl
  case hb0=>exact rfl
  case hb=>rw [c6];omega
  case hd=>rfl
  intro v'
  rw [c6,ZC,Za,← zG]
  refine Ja rfl<|Jn<|Je ?_
  first | with_reducible apply aO | with_reducible apply aP
  case he=>exact dH rfl rfl
  case hR=>
   intro w' aA
   exact aG v' trivial (by exact .cons .here .nil) aA rfl
def Vm (w:World) (b:Nat) (l:List (ByteArray×Value)):Prop:=∃ es clock,w.heap[b]? = some (.map es clock)∧IA (fun s:ByteArray=>Value.string s) l es clock
theorem Vm.jB {w w':World} {b:Nat} {l:List (ByteArray×Value)} {md:List Nat} (h:Vm w b l) (hn:b ∉ md) (hk:aJ md w w'):Vm w' b l:=by
 obtain ⟨es,ck,h1,h2⟩:=h
 have hb:b<w.heap.size:=(ZY.1 h1).1
 have:=hk.block b hb hn
 exact ⟨es,ck,by rw [this,h1],h2⟩
theorem uR {P:Program} {c:Cx} {sl:aH} {hs:List bd} {dst:Option Tmp} {ty:TypeId} {pos:String} {af:Array Edge} {g:Option (Nat×Bool)} {t kt et:TypeId} {x y:Operand} {b:Nat} {k:ByteArray} {l:List (ByteArray×Value)} {z V:Value} [hu:iV P t (.map kt et)] [GA:iV P kt .string] [hz:lZ P et z]
  (hx:Is sl x (.map (some b))) (hy:Is sl y (.string k)) (hl:Looks c hs b (fun s:ByteArray=>Value.string s) l) (e:(eD k l).getD z=V) :
  cY P c sl hs ⟨dst,.lookup t x y false,ty,pos,af,g⟩ V:=e ▸ Gc IK hx hy hl
def Qg (r:Ro) (x y:Po):Int:=aX [kr x.lv y.lv,kr (dX r x.ou) (dX r y.ou)]
theorem P3 {r:Ro} {x y:Po} {b bm:Nat} {w:World} (hd:CT r) (hx:jg (ef r) x.ou=true) (hy:jg (ef r) y.ou=true) (f:w.cell? ⟨b,0,none⟩=some (.map (some bm))) (hm:Vm w bm (oq r)) :
  aj Tryz.prog 318 [.agg x.cells.toArray,.agg y.cells.toArray,.pointer (some ⟨b,0,none⟩)] w (.int .i64 (Qg r x y)):=by
 have ex:(eD x.ou (oq r)).getD (lG 0 0 0)=lG (dX r x.ou) (kC r x.ou) (j7 r x.ou):=by rw [pY hd,hx];rfl
 have ey:(eD y.ou (oq r)).getD (lG 0 0 0)=lG (dX r y.ou) (kC r y.ou) (j7 r y.ou):=by rw [pY hd,hy];rfl
 unfold Po.cells
 refine ah Tryz.func318 rfl rfl ?_
 refine Jr<|Jy rfl rfl fun _ _=>Jy rfl rfl fun _ _=>Ja rfl<|Jn<|Jq ?_
 with_reducible refine cZ 17 (by kernel_rfl) ?_
 (refine ao kZ rfl<|ao (gT (.there .here)) rfl<|ao kZ rfl<|ao (gT .here) rfl<|aY bj rfl (fun w' aA=>(Cq _ _ w'))<|ao (ag (.of rfl) (At.base f rfl)) rfl<|ao kZ rfl<|ao (gT (.there .here)) rfl ?_)
 refine ao (uR (l:=oq r) (z:=lG 0 0 0) (V:=.agg #[.int .i64 (dX r x.ou),.int .i64 (kC r x.ou),.int .i64 (j7 r x.ou)]) (Is.of rfl) (Is.of rfl) (fun w' aA=>hm.jB (by simp) aA.keeps) ex) rfl ?_
 (refine ao (By (.of rfl) rfl) rfl<|ao (ag (.of rfl) (At.base f rfl)) rfl<|ao kZ rfl<|ao (gT .here) rfl ?_)
 refine ao (uR (l:=oq r) (z:=lG 0 0 0) (V:=.agg #[.int .i64 (dX r y.ou),.int .i64 (kC r y.ou),.int .i64 (j7 r y.ou)]) (Is.of rfl) (Is.of rfl) (fun w' aA=>hm.jB (by simp) aA.keeps) ey) rfl ?_
 (refine ao (By (.of rfl) rfl) rfl<|aY bj rfl (fun w' aA=>(Cq _ _ w'))<|eB (aC (.cons (.of rfl) (.cons (.of rfl) .nil)) rfl rfl rfl rfl) rfl rfl ?_)
 with_reducible refine dB rfl fun bq nq=>?_
 skip
 refine ai bN rfl (fun w' aA=>Ts (l:=[kr x.lv y.lv,kr (dX r x.ou) (dX r y.ou)]) (Mem.dw aA (by exact .here) rfl rfl)) ?_
 refine Ja rfl<|Jn<|Je<|JT ?_
 rfl
end Go.Proofs.A1
namespace Go.Proofs.A1
open Go Go.SL Go.Shelf
theorem uf (r:Ro) (x y:Po):Qg r x y<0↔x.lv<y.lv∨(x.lv=y.lv∧dX r x.ou<dX r y.ou):=by
 unfold Qg
 generalize dX r x.ou=a
 generalize dX r y.ou=b
 simp only [aX,kr]
 repeat' split
 all_goals omega
theorem MK {α:Type} (r:Ro) (g:α→Po):Go.Sort.SWO (ltOf fun x y:α=>Qg r (g x) (g y)):=by
 constructor
 ·intro x;unfold ltOf;rw [decide_eq_false_iff_not,uf];omega
 ·intro x y z h1 h2
  unfold ltOf at *
  rw [decide_eq_true_eq,uf] at *
  omega
 ·intro x y z h1 h2
  unfold ltOf at *
  rw [decide_eq_false_iff_not,uf] at *
  omega
theorem HK {r:Ro} {v:Value} {l:List Po} {LD bm:Nat} {w:World} {fp:List Nat} (hs:ct (hp w) [PB v l] fp) (hd:CT r) (iR:∀ x∈l,jg (ef r) x.ou=true) (cT:l.length≤1000000)
  (f:w.cell? ⟨LD,0,none⟩=some (.map (some bm))) (hm:Vm w bm (oq r)) (Yv:LD ∉ fp) (VU:bm ∉ fp) :
  bu Tryz.prog 317 [v,.func (.func 318) #[] #[.pointer (some ⟨LD,0,none⟩)]] w fp (fun l':List Po=>l'.Perm l∧l'.Pairwise (fun x y=>¬ Qg r y x<0)) (fun _=>.tuple #[]) (fun l'=>[PB v l']):=by
 obtain ⟨f1,f2,rfl,h1,h2⟩:=hs
 obtain rfl:f2=[]:=h2
 obtain ⟨rfl,hlen,h1⟩:=h1
 rw [ZU] at *
 rcases h1 with ⟨rfl,h0⟩ | ⟨g,cap,cur,rfl,hg,kF,jS,ql,Ac⟩
 ·have qk:l=[]:=Z0 (by omega)
  subst qk
  refine (AnyF.slices_SortFunc_none Tryz.Dk none 0 (.func (.func 318) #[] #[.pointer (some ⟨LD,0,none⟩)]) w).mono fun e w' ⟨he,hw⟩=>?_
  subst hw
  exact ⟨[],he,⟨.refl _,.nil⟩,.refl _ _,[],Zaj,⟨[],[],rfl,⟨rfl,hlen,.inl ⟨rfl,h0⟩⟩,rfl⟩,by simp⟩
 ·have Rw:g<w.heap.size:=(ZY.1 hg).1
  by_cases qk:l=[]
  ·subst qk
   refine (AnyF.slices_SortFunc_none Tryz.Dk (some ⟨g,0,none⟩) cap (.func (.func 318) #[] #[.pointer (some ⟨LD,0,none⟩)]) w).mono fun e w' ⟨he,hw⟩=>?_
   subst hw
   exact ⟨[],he,⟨.refl _,.nil⟩,.refl _ _,[g],by simp,⟨[g],[],rfl,⟨rfl,hlen,.inr ⟨g,cap,cur,rfl,hg,kF,jS,ql,Ac⟩⟩,rfl⟩,fun b hb=>.inl hb⟩
  obtain ⟨x0,QE⟩:=List.exists_mem_of_ne_nil l qk
  let α:={x:Po // jg (ef r) x.ou=true}
  let _:Inhabited α:=⟨⟨x0,iR x0 QE⟩⟩
  let enc:α→List Value:=fun x=>x.1.cells
  have np:cur=([]++fO l++cur.toList.drop (l.length*3)).toArray:=by
   apply Array.ext'
   show cur.toList=_
   rw [← Ac,Za,ZZ]
  generalize T1:cur.toList.drop (l.length*3)=post at np
  let la:List α:=l.attach.map fun x=>⟨x.1,iR x.1 x.2⟩
  have Rf:la.map (fun x:α=>x.1)=l:=by
   show (l.attach.map fun x=>(⟨x.1,iR x.1 x.2⟩:α)).map (fun x:α=>x.1)=l
   rw [ZaH]
   exact List.attach_map_subtype_val l
  have B3:∀ m:List α,(m.map enc).flatten=fO (m.map fun x:α=>x.1):=fun m=>by
   rw [zG];unfold td
   rw [ZaH];rfl
  have DT:la.length=l.length:=by
   show (l.attach.map fun x=>(⟨x.1,iR x.1 x.2⟩:α)).length=_
   rw [Zd,List.length_attach]
  have tL:w.heap[g]? = some (.cells ([]++(la.map enc).flatten++post).toArray 188 (0,0)):=by rw [B3,Rf,← np];exact hg
  have key:=Bf Tryz.Dk (k:=3) Tryz.isAgg188 Tryz.sizeOf188 (enc:=enc) (fun _=>rfl)
   (fun x u hu=>by
    simp only [enc,Po.cells,ZS,Zp,or_false] at hu
    rcases hu with rfl | rfl | rfl <;> rfl)
   (MK r (fun x:α=>x.1)) (g:=318) (b:=g) (cap:=cap) (cb:=#[.pointer (some ⟨LD,0,none⟩)]) (l:=la) (pre:=[]) (cur:=post) (E:=188) (w:=w)
   (enters_of Tryz.func318 (by kernel_rfl) rfl) tL (by rw [DT];omega)
   (fun w' hk x y=>P3 (r:=r) (x:=x.1) (y:=y.1) hd x.2 y.2 (eh f rfl Yv hk) (hm.jB VU hk))
  rw [DT] at key
  refine Calls.mono key ?_
  rintro e w' ⟨he,l',ig,Xg,hk,dz⟩
  have yA:(l'.map fun x:α=>x.1).length=l.length:=by rw [Zd,ig.length_eq,DT]
  rw [B3] at dz
  refine ⟨l'.map fun x:α=>x.1,he,⟨?_,?_⟩,hk,[g],by simp,⟨[g],[],rfl,⟨rfl,?_,.inr ⟨g,cap,_,?_,dz,?_,jS,?_,?_⟩⟩,rfl⟩,fun b hb=>.inl hb⟩
  ·have:=ig.map (fun x:α=>x.1)
   rwa [Rf] at this
  ·rw [ZbA]
   refine Xg.imp fun {x y} h=>?_
   unfold ltOf at h
   rwa [decide_eq_false_iff_not] at h
  ·exact jz _
  ·rw [yA]
  ·rw [yA];exact kF
  ·rw [← ql]
   have:=congrArg (fun x:Array Value=>x.size) np
   simp only [Zbm,Zg,jz,Zai,ZC] at this ⊢
   rw [yA,this]
  ·show List.take _ ([]++fO _++post)=_
   rw [Za,Zae (by rw [jz];exact Zz _),Zal (by rw [jz];exact Zz _)]
end Go.Proofs.A1
namespace Go.Proofs.A1
open Go Go.SL
set_option maxHeartbeats 2000000 in
theorem zH {r:Ro} {s d t p:Value} {w:World} (h:RR w r s d t p) (cT:lD r) (Xh:r.po.length≤1000000) :
  bu Tryz.prog 184 [RA r s d t p] w [] (fun _:Value×Value×Value×Value=>True) (fun x=>RA r x.1 x.2.1 x.2.2.1 x.2.2.2) (fun x=>[J1 r x.1,J2 r x.2.1,J3 r x.2.2.1,PB x.2.2.2 r.po]):=by
 have h1:=Rd.one h.sr
 have h2:=Rd.one h.de
 have h3:=Rd.one h.ti
 have h4:=Rd.one h.po
 have JO:=h.po
 have qL:=h.po
 obtain ⟨a4,cp4,q4,o4,rfl,yD,mG,G4,Ac⟩:=qL
 rw [c6] at *
 unfold maxLen at mG
 unfold RA
 refine aS Tryz.func184 rfl rfl ?_
 (refine Jr<|Jy rfl rfl fun _ _=>Jz rfl rfl fun _ _=>Ji<|ab (cR (.there .here)) rfl<|Jz rfl rfl fun _ _=>aq (.of rfl) (.of rfl) .here rfl rfl (gA rfl rfl h1 h2 h3 rfl) (bG rfl) ak<|Jn<|Jq ?_)
 have hs0:=h.sr
 have SH:=h.de
 with_reducible refine dL 7 (by kernel_rfl) ?_
 (refine an (fun β=>(au (.of rfl) ae)) dy rfl<|an (fun β=>(ag (.of rfl) (At.lit bL rfl))) dy rfl ?_)
 dsimp only [Nat.zero_add,Nat.reduceAdd]
 with_reducible apply dp (ι:=Value) (Φ:=fun _=>True) (val:=id) (own:=fun x=>[J1 r x]) (g:=id) (B:=[]) (args:=fun _=>[s])
 case hg=>exact fun x=>⟨x,rfl⟩
 case hB=>rfl
 case hr=>exact fun β=>aZ (.of rfl) (.cons (.of rfl) .nil) inferInstance rfl
 case hd=>rfl
 case hc=>exact fun β w' hb=>GU (h.sr.keeps hb.mem.keeps) (by have:=cT.1;omega)
 dsimp only [id_eq,Nat.reduceAdd]
 (refine an (fun β=>(au (.of rfl) ae)) dy rfl<|an (fun β=>(ag (.of rfl) (At.lit bL rfl))) dy rfl ?_)
 dsimp only [Nat.zero_add,Nat.reduceAdd]
 with_reducible apply dp (ι:=Value) (Φ:=fun _=>True) (val:=id) (own:=fun x=>[J2 r x]) (g:=id) (B:=[]) (args:=fun _=>[d])
 case hg=>exact fun x=>⟨x,rfl⟩
 case hB=>rfl
 case hr=>exact fun β=>aZ (.of rfl) (.cons (.of rfl) .nil) inferInstance rfl
 case hd=>rfl
 case hc=>exact fun β w' hb=>GW (h.de.keeps hb.mem.keeps) (by have:=cT.2.1;omega)
 dsimp only [id_eq,Nat.reduceAdd]
 refine an (fun β=>(au (.of rfl) ae)) dy rfl ?_
 refine fh fun β=>?_
 dsimp only [ei,Za,Zb,List.append_eq,Nat.reduceAdd]
 generalize β 2=sv
 generalize β 5=dv
 clear β
 refine aT (v:=sv) (by exact .here) fun sa sc e=>?_
 subst e
 refine aT (v:=dv) (by exact Take.there .here) fun da dc e=>?_
 subst e
 refine cC (rs:=[7]) (by kernel_rfl) (by simp) (ZA.2 ⟨?_,fun _ h=>absurd h Zp⟩)
 refine cQ rfl ?_
 (refine aq (.of rfl) (.of rfl) bL rfl rfl (en rfl) (bG rfl) ak<|Jn ?_)
 refine cC (rs:=[8]) (by kernel_rfl) (by simp) (ZA.2 ⟨?_,fun _ h=>absurd h Zp⟩)
 refine cQ rfl ?_
 (refine bS rfl rfl ae<|Jn ?_)
 refine cC (rs:=[9]) (by kernel_rfl) (by simp) (ZA.2 ⟨?_,fun _ h=>absurd h Zp⟩)
 refine cQ rfl ?_
 (refine aq (.of rfl) (.of rfl) .here rfl rfl (en rfl) (bG rfl) ak<|Jn ?_)
 with_reducible refine cH (by kernel_rfl) ?_
 (refine Jt<|Jr<|bS rfl rfl ae<|JL rfl dT rfl ?_)
 refine JN bN rfl (fun w1 aR=>GS (h.keeps aR.keeps).ti (by have:=cT.2.2;omega)) ?_
 intro tv _
 dsimp only [id_eq,Zb,Za]
 refine aT (v:=tv) (by exact .here) fun ta tc e=>?_
 subst e
 (refine bS rfl rfl ae<|aq (.of rfl) (.of rfl) (.there .here) rfl rfl (en rfl) (bG rfl) ak<|Ji<|bS rfl rfl ae<|JL rfl eX rfl<|JI rfl ?_)
 with_reducible apply br
 case hr=>
  with_reducible apply MB
  case hx=>exact Is.of rfl
  case hy=>exact Is.of rfl
  case hl=>exact Zz _
  case hb=>omega
  case hz=>rfl
  case hsz=>rfl
  case h63=>omega
 case hd=>rfl
 intro bg Rw
 (refine bS rfl rfl ae<|aq (.of rfl) (.of rfl) (.there .here) rfl rfl (en rfl) (bG rfl) ak<|Ji<|bS rfl rfl ae<|JL rfl .here rfl<|bS rfl rfl ae<|JL rfl pz rfl ?_)
 with_reducible apply Hw
 case hx=>exact Is.of rfl
 case hy=>exact Is.of rfl
 case ht=>exact Take.there .here
 case hsrc=>exact fun w' aA=>JO.keeps aA.keeps
 case h1=>exact EU r.po
 case hfit=>
  simp [Value.cells]
 case hd=>rfl
 rw [Zal (by rw [c6];exact Zz _),← zG,zm _ _ (by rw [jz];simp [Value.cells])]
 refine cN (n:=r.po.length) (xs:=fO r.po) (cap:=r.po.length) (g:=bg) (E:=188) (sz:=3) (by exact .here) (Zz _) (by unfold maxLen;omega) ?_ (jz _) ?_
 ·rw [Zg,Zbd,jz];simp [Value.cells]
 (refine Ji<|ab (cR (.there .here)) rfl<|aq (.of rfl) (.of rfl) eX rfl rfl (gA rfl rfl rfl rfl rfl rfl) (bG rfl) ak<|Jn<|Je ?_)
 first | with_reducible apply aO | with_reducible apply aP
 case he=>exact kR rfl inferInstance rfl .here ak (by rfl)
 case hR=>
  intro w' aA
  exact aG (.slice sa r.sr.length sc,.slice da r.de.length dc,.slice ta r.ti.length tc,.slice (some ⟨bg,0,none⟩) r.po.length r.po.length) trivial (by exact .cons dT (.cons dT (.cons cW (.cons (.there .here) .nil)))) aA rfl
end Go.Proofs.A1
namespace Go.Proofs.A1
structure Sw (po:List Po) (D:List ByteArray) (f:Po→Bool):Prop where
 de:∀ p∈po,p.ou∈D→f p=true
 up:∀ p∈po,∀ q∈po,f q=true→q.lv=p.lv→q.ip=p.ou→f p=true
theorem Sw.start (po:List Po) (D:List ByteArray):Sw po D fun _=>true:=⟨fun _ _ _=>rfl,fun _ _ _ _ _ _ _=>rfl⟩
theorem Sw.step {po:List Po} {D:List ByteArray} {f:Po→Bool} (h:Sw po D f) {v:Int} {o:ByteArray} (hD:o ∉ D) (hu:∀ q∈po,f q=true→¬ (q.lv=v∧q.ip=o)):Sw po D fun x=>f x&&!yn v o x:=by
 refine ⟨fun p hp hd=>?_,fun p hp q hq hf e1 e2=>?_⟩
 ·have h1:=h.de p hp hd
  have h2:yn v o p=false:=by
   unfold yn
   have:¬ p.ou=o:=fun e=>hD (e ▸ hd)
   simp [this]
  simp [h1,h2]
 ·rw [Bool.and_eq_true] at hf
  have h1:=h.up p hp q hq hf.1 e1 e2
  have h2:yn v o p=false:=by
   unfold yn
   by_cases a:p.lv=v
   ·by_cases b:p.ou=o
    ·exact absurd ⟨e1.trans a,e2.trans b⟩ (hu q hq hf.1)
    ·simp [b]
   ·simp [a]
  simp [h1,h2]
theorem tx (po:List Po) (f:Po→Bool) (v:Int) (o:ByteArray):(po.filter f).filter (fun x=>!yn v o x)=po.filter fun x=>f x&&!yn v o x:=by
 rw [List.filter_filter]
 congr 1
 funext x
 exact Bool.and_comm _ _
end Go.Proofs.A1
namespace Go.Proofs.A1
open Go Go.SL
def Ro.wp (r:Ro) (po:List Po):Ro:=⟨r.lv,r.ma,r.sr,r.de,r.ti,po⟩
theorem iJ.wp {r:Ro} {q po:List Po} (h:iJ r po):iJ (r.wp q) po:=⟨h.qK,h.II,h.out,h.vo,h.M0,h.Co,h.use⟩
theorem pR.wp {r:Ro} {q:List Po} (h:pR r):pR (r.wp q):=⟨h.sd,h.st,h.dt,h.Su⟩
theorem CT.wp {r:Ro} {q:List Po} (h:CT r):CT (r.wp q):=⟨h.nd⟩
theorem rR.wp {r:Ro} (h:rR r) {q:List Po} (hq:iJ r q):rR (r.wp q):=⟨h.lim,h.Pp.wp,h.len,h.sm,h.dm,h.tm,hq.wp⟩
theorem rR.nd {r:Ro} (h:rR r):(cM r).Nodup:=h.Pp.parts.2.2.1
def wK (D:List ByteArray) (po:List Po):List Po:=po.filter fun p=>jg D p.ou||po.any fun q=>decide (q.lv=p.lv)&&decide (q.ip=p.ou)
def F6 (D:List ByteArray):Nat→List Po→List Po
 | 0,po=>po
 | n+1,po=>F6 D n (wK D po)
def wL (D:List ByteArray) (po:List Po):List Po:=F6 D po.length po
theorem Bb {D:List ByteArray} {po:List Po} (h:wK D po=po):∀ n,F6 D n po=po
 | 0=>rfl
 | n+1=>by rw [F6,h];exact Bb h n
theorem ED {D:List ByteArray}:∀ (n:Nat) (po:List Po) (f:Po→Bool),Sw po D f→(po.filter f).length≤n →
  ∃ g:Po→Bool,Sw po D g∧F6 D n (po.filter f)=po.filter g∧wK D (po.filter g)=po.filter g
 | 0, po, f, h, hl => by
  have e:po.filter f=[]:=Z0 (by omega)
  exact ⟨f,h,rfl,by rw [e];rfl⟩
 | n + 1, po, f, h, hl => by
  have hS:Sw po D fun p=>f p&&(jg D p.ou||(po.filter f).any fun q=>decide (q.lv=p.lv)&&decide (q.ip=p.ou)):=by
   refine ⟨fun p hp hd=>?_,fun p hp q hq hf e1 e2=>?_⟩
   ·have:=h.de p hp hd
    show (f p&&(jg D p.ou||_))=true
    rw [this,eV.2 hd];rfl
   ·rw [Zm] at hf
    have h1:=h.up p hp q hq hf.1 e1 e2
    rw [h1,ZaA,ZO]
    right
    rw [ZM]
    exact ⟨q,Zv.2 ⟨hq,hf.1⟩,by simp [e1,e2]⟩
  have e:wK D (po.filter f)=po.filter fun p=>f p&&(jg D p.ou||(po.filter f).any fun q=>decide (q.lv=p.lv)&&decide (q.ip=p.ou)):=by
   unfold wK
   rw [Zbx]
   refine ZaZ fun p _=>?_
   rw [Bool.and_comm]
  by_cases XR:wK D (po.filter f)=po.filter f
  ·exact ⟨f,h,Bb XR _,XR⟩
  ·have aM:(wK D (po.filter f)).length<(po.filter f).length:=by
    have hle:(wK D (po.filter f)).length≤(po.filter f).length:=Z6 _ _
    rcases Zbo (wK D (po.filter f)).length (po.filter f).length with h1 | h1
    ·exact h1
    ·exact absurd (List.filter_sublist.eq_of_length (Nat.le_antisymm hle h1)) XR
   rw [F6,e]
   exact ED n po _ hS (by rw [← e];omega)
structure Swd (po:List Po) (D:List ByteArray) (f:Po→Bool):Prop where
 sw:Sw po D f
 us:∀ p∈po,f p=true→p.ou∈D∨∃ q∈po,f q=true∧q.lv=p.lv∧q.ip=p.ou
theorem EE (D:List ByteArray) (po:List Po):∃ g,Swd po D g∧wL D po=po.filter g:=by
 obtain ⟨g,h1,h2,h3⟩:=ED (D:=D) po.length po (fun _=>true) ⟨fun _ _ _=>rfl,fun _ _ _ _ _ _ _=>rfl⟩ (Z6 _ _)
 rw [ZaP.2 fun _ _=>rfl] at h2
 refine ⟨g,⟨h1,fun p hp hg=>?_⟩,h2⟩
 have hm:p∈wK D (po.filter g):=by rw [h3];exact Zv.2 ⟨hp,hg⟩
 have:=(Zv.1 hm).2
 rw [ZO,eV,ZM] at this
 rcases this with h | ⟨q,hq,e⟩
 ·exact .inl h
 ·rw [Zm,decide_eq_true_eq,decide_eq_true_eq] at e
  obtain ⟨a,b⟩:=Zv.1 hq
  exact .inr ⟨q,a,b,e.1,e.2⟩
structure Ou (r:Ro) (po:List Po):Prop where
 one:sU po
 out:∀ p∈po,p.ou∈cq r∨p.ou∈cM r
 vo:∀ p∈po,p.ip∈cF r∨p.ip∈cM r
 Co:∀ v,¬ ∃ t∈cM r,t∈eI po v ((cM r).length+1) t
theorem iJ.acy {r:Ro} {po:List Po} (h:iJ r po):Ou r po:=⟨iJ.one h.qK,h.out,h.vo,h.Co⟩
theorem Ou.sub {r:Ro} {po:List Po} (h:Ou r po) (f:Po→Bool):Ou r (po.filter f):=by
 have hs:∀ p∈po.filter f,p∈po:=fun p hp=>(Zv.1 hp).1
 exact ⟨h.one.filter f,fun p hp=>h.out p (hs p hp),fun p hp=>h.vo p (hs p hp),fun v ⟨t,ht,hc⟩=>h.Co v ⟨t,ht,Aq h.one hs hc⟩⟩
theorem Ou.short {r:Ro} (hn:pR r) {po:List Po} (h:Ou r po):∀ v o m,(cM r).length+1≤m→eI po v m o=eI po v ((cM r).length+1) o:=fun v o m hm=>
 mJ (T:=cM r) (iJ.tie hn h.out h.vo) (h.Co v) o hm
theorem Ou.tid {r:Ro} (hn:pR r) {po:List Po} (h:Ou r po) {f:Po→Bool} (hf:Swd po (cq r) f):po.filter f=wL (cq r) po:=by
 obtain ⟨g,hg,e⟩:=EE (cq r) po
 rw [e]
 exact MY h.one (h.short hn) hf.sw.de hf.sw.up hf.us hg.sw.de hg.sw.up hg.us
def Tk.at (t:Tk) (k:Nat):ByteArray:=t.so.getD k ⟨#[]⟩
def Tk.zero:Tk:=⟨⟨#[]⟩,[]⟩
def nK (r:Ro) (t:Tk) (k:Nat):Bool:=!decide (t.at k=⟨#[]⟩)&&!decide (t.at k=jG r (k:Nat) t.de)
def nE (r:Ro) (t:Tk):Nat→List Po→List Po
 | 0,po=>po
 | k+1,po=>if nK r t k then (nE r t k po).filter (fun x=>!yn (k:Nat) t.de x) else nE r t k po
def jF (r:Ro) (l:List Tk):Nat→List Po
 | 0=>r.po
 | i+1=>nE r (l.getD i Tk.zero) (l.getD i Tk.zero).so.length (jF r l i)
def dash:ByteArray:=⟨#[45]⟩
def oA (r:Ro) (t:Tk) (k:Nat):Bool:=nK r t k&&!decide (t.at k=dash)
def pA (r:Ro) (t:Tk):Nat→List Po→Option (List Po)
 | 0,po=>some po
 | k+1,po=>(pA r t k po).bind fun q=>if oA r t k then (qO (r.wp q) (k:Nat) (t.at k) t.de).map fun p=>lF r q (k:Nat) (t.at k) p t.de else some q
def iO (r:Ro) (l:List Tk) (po:List Po):Nat→Option (List Po)
 | 0=>some po
 | i+1=>(iO r l po i).bind (pA r (l.getD i Tk.zero) (l.getD i Tk.zero).so.length)
theorem F9 {r:Ro} {t:Tk} {po:List Po} {k:Nat} (h:pA r t k po=none):∀ {m},k≤m→pA r t m po=none:=by
 intro m hm
 induction hm with
 | refl=>exact h
 | step _ ih=>rw [pA,ih];rfl
theorem xU {r:Ro} {l:List Tk} {po:List Po} {k:Nat} (h:iO r l po k=none):∀ {m},k≤m→iO r l po m=none:=by
 intro m hm
 induction hm with
 | refl=>exact h
 | step _ ih=>rw [iO,ih];rfl
def zx (r:Ro) (l:List Tk) (po:List Po):Nat:=((List.range l.length).find? fun i=>(iO r l po (i+1)).isNone).getD 0
theorem MD {r:Ro} {l:List Tk} {po:List Po} {i:Nat} (hi:i<l.length) {q:List Po} (h1:iO r l po i=some q) (h2:iO r l po (i+1)=none):zx r l po=i:=by
 unfold zx
 have:(List.range l.length).find? (fun i=>(iO r l po (i+1)).isNone)=some i:=by
  rw [List.find?_eq_some_iff_append]
  refine ⟨by rw [h2];rfl,List.range i,(List.range (l.length-i-1)).map (fun x=>x+i+1),?_,fun j hj=>?_⟩
  ·apply List.ext_getElem
   ·simp;omega
   ·intro n a b
    rw [Zbw]
    rcases Zam n i with c | c | c
    ·rw [Zat (by simpa using c)];simp
    ·subst c;rw [Zao (by simp)];simp
    ·rw [Zao (by simp;omega)]
     simp only [ZaN]
     obtain ⟨d,hd⟩:∃ d,n-i=d+1:=⟨n-i-1,by omega⟩
     simp only [hd,List.getElem_cons_succ,Z1,Zbw]
     omega
  ·have hj:=ZQ.1 hj
   cases hn:iO r l po (j+1) with
   | some _=>rfl
   | none=>rw [xU hn (show j+1≤i by omega)] at h1;cases h1
 rw [this];rfl
def lU (r:Ro) (l:List Tk):Int:=fT (fun t=>(r.de.getD (bE (cq r) t.de).toNat ⟨⟨#[]⟩,0,false⟩).pr) l
def Ro.nil:Ro:=⟨0,0,[],[],[],[]⟩
def hP (r:Ro) (l:List Tk):Ro×Int×Int:=
 if 0≤lU r l then (Ro.nil,lU r l,31) else
 match iO r l (wL (cq r) (jF r l l.length)) l.length with
 | none=>(Ro.nil,(zx r l (wL (cq r) (jF r l l.length)):Nat),18)
 | some po=>(r.wp po,0,0)
structure AV (r:Ro) (l:List Tk):Prop where
 de:∀ t∈l,t.de∈cq r
 nd:(l.map Tk.de).Nodup
 lv:∀ t∈l,(t.so.length:Int)=r.lv
 so:∀ t∈l,∀ s∈t.so,s=⟨#[]⟩∨s=dash∨s∈cF r
 D8:l.length≤8
theorem AV.wp {r:Ro} {l:List Tk} (h:AV r l) (q:List Po):AV (r.wp q) l:=⟨h.de,h.nd,h.lv,h.so,h.D8⟩
def NY (r:Ro) (t:Tk) (k:Nat) (p:Po):Bool:=(List.range k).any fun i=>nK r t i&&yn (i:Nat) t.de p
theorem nu (r:Ro) (t:Tk):∀ (k:Nat) (po:List Po),nE r t k po=po.filter fun p=>!NY r t k p
 | 0,po=>by rw [nE,ZaP.2 fun p _=>by simp [NY]]
 | k + 1, po => by
  rw [nE,nu r t k po]
  have e:∀ p,NY r t (k+1) p=(NY r t k p||(nK r t k&&yn (k:Nat) t.de p)):=fun p=>by
   unfold NY;rw [Zby,List.any_append];simp
  split
  ·rename_i h
   rw [Zbx]
   refine ZaZ fun p _=>?_
   rw [e,h,ZaA,Bool.not_or,Bool.and_comm]
  ·rename_i h
   refine ZaZ fun p _=>?_
   rw [e,ZaY.2 h,Bool.false_and,Bool.or_false]
def Ku (r:Ro) (l:List Tk) (i:Nat) (p:Po):Bool:=(List.range i).any fun j=>NY r (l.getD j Tk.zero) (l.getD j Tk.zero).so.length p
theorem kS (r:Ro) (l:List Tk):∀ i,jF r l i=r.po.filter fun p=>!Ku r l i p
 | 0=>by rw [jF,ZaP.2 fun p _=>by simp [Ku]]
 | i + 1 => by
  rw [jF,nu,kS r l i,Zbx]
  refine ZaZ fun p _=>?_
  have e:Ku r l (i+1) p=(Ku r l i p||NY r (l.getD i Tk.zero) (l.getD i Tk.zero).so.length p):=by
   unfold Ku;rw [Zby,List.any_append];simp
  rw [e,Bool.not_or,Bool.and_comm]
theorem FB {r:Ro} {t:Tk} {k:Nat} {p:Po}:NY r t k p=true↔∃ i,i<k∧nK r t i=true∧p.lv=(i:Nat)∧p.ou=t.de:=by
 unfold NY yn
 simp [ZM]
theorem NZ {r:Ro} {l:List Tk} {p:Po}:Ku r l l.length p=true↔∃ t∈l,∃ i,i<t.so.length∧nK r t i=true∧p.lv=(i:Nat)∧p.ou=t.de:=by
 unfold Ku
 rw [ZM]
 constructor
 ·rintro ⟨j,hj,h⟩
  have hj:=ZQ.1 hj
  rw [Zk,Zc hj] at h
  exact ⟨l[j],Zj hj,FB.1 h⟩
 ·rintro ⟨t,ht,h⟩
  obtain ⟨j,hj,rfl⟩:=Zu ht
  refine ⟨j,ZQ.2 hj,?_⟩
  rw [Zk,Zc hj]
  exact FB.2 h
theorem lP {r:Ro} {W:List Po→Jb→Option (List Nat)}:∀ {a b:List Jb} {po:List Po},r7 r W po (a++b)=(r7 r W po a).bind fun q=>r7 r W q b
 | [],b,po=>rfl
 | j :: a, b, po => by
  rw [Zb,r7,r7]
  cases W po j with
  | none=>rfl
  | some p=>exact lP
def vm (r:Ro) (t:Tk):Nat→List Jb
 | 0=>[]
 | k+1=>vm r t k++if oA r t k then [⟨(k:Nat),t.at k,t.de⟩] else []
def vl (r:Ro) (l:List Tk):Nat→List Jb
 | 0=>[]
 | i+1=>vl r l i++vm r (l.getD i Tk.zero) (l.getD i Tk.zero).so.length
def jW (r:Ro) (po:List Po) (j:Jb):Option (List Nat):=if jg (cq r) j.d then qO (r.wp po) j.v j.s j.d else none
theorem LO {r:Ro} {v:Int} {so de:ByteArray} {p:List Nat} (h:qO r v so de=some p):(fB r r.po v so).least (nQ r de) p:=by
 unfold qO at h
 split at h
 ·cases h
 ·rename_i e
  cases h
  exact Wn.R7 e
theorem OL (r:Ro):∀ po j p,jW r po j=some p→(fB r po j.v j.s).ok p∧(fB r po j.v j.s).fin p=kC r j.d:=by
 intro po j p h
 unfold jW at h
 split at h
 ·rename_i hd
  have hl:=LO h
  exact ⟨hl.1,hl.2.1.trans (Kv (r:=r) (eV.1 hd)).symm⟩
 ·cases h
theorem r9 {r:Ro} {t:Tk} (ht:t.de∈cq r):∀ (k:Nat) (po:List Po),pA r t k po=r7 r (jW r) po (vm r t k)
 | 0,po=>rfl
 | k + 1, po => by
  rw [pA,vm,lP,r9 ht k po]
  congr 1
  funext q
  cases oA r t k with
  | false=>rfl
  | true =>
   rw [if_pos rfl,if_pos rfl,r7]
   unfold jW
   rw [if_pos (eV.2 ht)]
   cases qO (r.wp q) (k:Nat) (t.at k) t.de with
   | none=>rfl
   | some p=>rfl
theorem r8 {r:Ro} {l:List Tk} (hl:∀ t∈l,t.de∈cq r) (po:List Po):∀ i,i≤l.length→iO r l po i=r7 r (jW r) po (vl r l i)
 | 0,_=>rfl
 | i + 1, hi => by
  rw [iO,vl,lP,r8 hl po i (by omega)]
  congr 1
  funext q
  refine r9 ?_ _ _
  rw [Zk,Zc (by omega)]
  exact hl _ (Zj _)
theorem oC {r:Ro} {t:Tk} {k:Nat} {j:Jb}:j∈vm r t k↔∃ i,i<k∧oA r t i=true∧j=⟨(i:Nat),t.at i,t.de⟩:=by
 induction k with
 | zero=>simp [vm]
 | succ k ih =>
  rw [vm,Zx,ih]
  constructor
  ·rintro (⟨i,h1,h2,h3⟩ | h)
   ·exact ⟨i,by omega,h2,h3⟩
   ·split at h
    ·rename_i hb
     exact ⟨k,by omega,hb,ZB.1 h⟩
    ·cases h
  ·rintro ⟨i,h1,h2,h3⟩
   by_cases e:i=k
   ·subst e
    right
    rw [if_pos h2,h3]
    exact ZB.2 rfl
   ·exact .inl ⟨i,by omega,h2,h3⟩
theorem oB {r:Ro} {l:List Tk} {i:Nat} {j:Jb} (hi:i≤l.length):j∈vl r l i↔∃ m,∃ hm:m<i,∃ k,k<(l[m]'(by omega)).so.length∧oA r (l[m]'(by omega)) k=true∧j=⟨(k:Nat),(l[m]'(by omega)).at k,(l[m]'(by omega)).de⟩:=by
 induction i with
 | zero=>simp [vl]
 | succ i ih =>
  rw [vl,Zx,ih (by omega),Zk,Zc (show i<l.length by omega),Zab,oC]
  constructor
  ·rintro (⟨m,hm,h⟩ | h)
   ·exact ⟨m,by omega,h⟩
   ·exact ⟨i,by omega,h⟩
  ·rintro ⟨m,hm,h⟩
   by_cases e:m=i
   ·subst e;exact .inr h
   ·exact .inl ⟨m,by omega,h⟩
def JbD (a b:Jb):Prop:=¬(b.v=a.v∧b.d=a.d)
theorem zT (r:Ro) (t:Tk):∀ k,(vm r t k).Pairwise JbD
 | 0=>.nil
 | k + 1 => by
  rw [vm,List.pairwise_append]
  refine ⟨zT r t k,?_,fun a ha b hb=>?_⟩
  ·split
   ·exact List.pairwise_singleton _ _
   ·exact .nil
  ·split at hb
   ·obtain ⟨i,h1,_,rfl⟩:=oC.1 ha
    rw [ZB.1 hb]
    rintro ⟨e,_⟩
    dsimp only at e
    omega
   ·cases hb
theorem tB {l:List Tk} (hn:(l.map Tk.de).Nodup) {i j:Nat} (hi:i<l.length) (hj:j<l.length) (hne:i≠j):l[i].de≠l[j].de:=by
 intro e
 have h:=Z4.1 hn
 have hl:(l.map Tk.de).length=l.length:=Zd _
 rcases Zam i j with c | c | c
 ·exact h i j (by omega) (by omega) c (by simpa using e)
 ·exact hne c
 ·exact h j i (by omega) (by omega) c (by simpa using e.symm)
theorem zS {r:Ro} {l:List Tk} (hn:(l.map Tk.de).Nodup):∀ i,i≤l.length→(vl r l i).Pairwise JbD
 | 0,_=>.nil
 | i + 1, hi => by
  rw [vl,List.pairwise_append]
  refine ⟨zS hn i (by omega),zT r _ _,fun a ha b hb=>?_⟩
  rw [Zk,Zc (show i<l.length by omega),Zab] at hb
  obtain ⟨m,hm,k,_,_,rfl⟩:=(oB (by omega)).1 ha
  obtain ⟨k',_,_,rfl⟩:=oC.1 hb
  rintro ⟨_,e⟩
  exact tB hn (show i<l.length by omega) (show m<l.length by omega) (by omega) e
theorem lu {r:Ro} {t:Tk} {k:Nat}:nK r t k=true↔t.at k≠⟨#[]⟩∧t.at k≠jG r (k:Nat) t.de:=by
 unfold nK;simp
theorem mF {r:Ro} {t:Tk} {k:Nat}:oA r t k=true↔t.at k≠⟨#[]⟩∧t.at k≠jG r (k:Nat) t.de∧t.at k≠dash:=by
 unfold oA;rw [Zm,lu];simp [and_assoc]
theorem Tk.at_mem {t:Tk} {k:Nat} (h:k<t.so.length):t.at k∈t.so:=by
 unfold Tk.at
 rw [Zk,Zc h];exact Zj h
def qy (r:Ro) (l:List Tk):List Po:=wL (cq r) (jF r l l.length)
def SS (r:Ro) (l:List Tk) (v:Int) (y:ByteArray):Prop:=∃ t∈l,∃ i,i<t.so.length∧nK r t i=true∧v=(i:Nat)∧y=t.de
theorem qx {r:Ro} (h:rR r) {l:List Tk} (hl:AV r l):iJ r (qy r l)∧(∀ v y,y∈cq r→¬ SS r l v y→ek (qy r l) v y=ek r.po v y∧rJ (qy r l) v (cF r) y=rJ r.po v (cF r) y)∧∀ v y,SS r l v y→ek (qy r l) v y=none:=by
 obtain ⟨f,hf,e⟩:=EE (cq r) (jF r l l.length)
 have hg:∀ p,(!Ku r l l.length p)=true↔¬ SS r l p.lv p.ou:=fun p=>by
  rw [Zbp,← Zau]
  exact not_congr NZ
 unfold qy
 rw [e,kS] at *
 obtain ⟨k1,k2,k3⟩:=NX (g:=fun p=>!Ku r l l.length p) (f:=f) h.ui h.val (fun p hp ht=>(hg p).2 fun ⟨t,WV,i,_,_,_,e5⟩=>h.ui.dt _ (hl.de t WV) (e5 ▸ ht)) hf.sw.de hf.sw.up hf.us
 refine ⟨k1,fun v y hy hd=>k2 v y hy fun p _ e1 e2=>(hg p).2 (by rw [e1,e2];exact hd),fun v y hd=>k3 v y fun p _ e1 e2=>?_⟩
 have:¬ (!Ku r l l.length p)=true:=fun q=>(hg p).1 q (by rw [e1,e2];exact hd)
 exact Zau _ ▸ this
theorem zR {r:Ro} (h:rR r) {l:List Tk} (hl:AV r l) {t:Tk} (ht:t∈l) {k:Nat} (hk:k<t.so.length) (hj:oA r t k=true):(0≤((k:Nat):Int)∧((k:Nat):Int)<r.lv)∧t.at k∈cF r∧t.de∈cq r∧ek (qy r l) (k:Nat) t.de=none:=by
 have h1:=hl.lv t ht
 obtain ⟨j1,j2,j3⟩:=mF.1 hj
 refine ⟨by omega,?_,hl.de t ht,(qx h hl).2.2 _ _ ⟨t,ht,k,hk,lu.2 ⟨j1,j2⟩,rfl,rfl⟩⟩
 rcases hl.so t ht _ (Tk.at_mem hk) with e | e | e
 ·exact absurd e j1
 ·exact absurd e j3
 ·exact e
theorem Qv {r:Ro} (h:rR r) {l:List Tk} (hl:AV r l) {i:Nat} (hi:i<l.length) {k:Nat} (hk:k≤l[i].so.length) {q0 q:List Po} (h0:iO r l (qy r l) i=some q0) (h1:pA r l[i] k q0=some q) :
  iJ r q∧∀ m,k≤m→m<l[i].so.length→nK r l[i] m=true→ek q (m:Nat) l[i].de=none:=by
 have mq:=hl.de l[i] (Zj hi)
 rw [r8 hl.de _ i (by omega)] at h0
 rw [r9 mq] at h1
 have h2:r7 r (jW r) (qy r l) (vl r l i++vm r l[i] k)=some q:=by rw [lP,h0];exact h1
 have yB:∀ j∈vl r l i++vm r l[i] k,∃ m,∃ hm:m<l.length,∃ n,n<l[m].so.length∧oA r l[m] n=true∧j=⟨(n:Nat),l[m].at n,l[m].de⟩∧(m=i→n<k):=by
  intro j hj
  rcases Zx.1 hj with hj | hj
  ·obtain ⟨m,hm,n,e1,e2,e3⟩:=(oB (by omega)).1 hj
   exact ⟨m,by omega,n,e1,e2,e3,fun e=>by omega⟩
  ·obtain ⟨n,e1,e2,e3⟩:=oC.1 hj
   exact ⟨i,hi,n,by omega,e2,e3,fun _=>e1⟩
 obtain ⟨k1,_,k3⟩:=zr h.ui h.nd (OL r) _ _ _ (qx h hl).1 (fun j hj=>by
   obtain ⟨m,hm,n,e1,e2,rfl,_⟩:=yB j hj
   exact zR h hl (Zj hm) e1 e2) (List.pairwise_append.2 ⟨zS hl.nd i (by omega),zT r _ _,fun a ha b hb=>by
   obtain ⟨m,hm,n,_,_,rfl⟩:=(oB (by omega)).1 ha
   obtain ⟨n',_,_,rfl⟩:=oC.1 hb
   rintro ⟨_,e⟩
   exact tB hl.nd hi (show m<l.length by omega) (by omega) e⟩) h2
 refine ⟨k1,fun m aR ml DV=>?_⟩
 rw [(k3 (m:Nat) l[i].de mq fun j hj ⟨e1,e2⟩=>by
  obtain ⟨x,hx,n,_,_,rfl,e5⟩:=yB j hj
  by_cases c:x=i
  ·subst c
   have:=e5 rfl
   dsimp only at e1
   omega
  ·exact tB hl.nd hx hi c e2.symm).2]
 exact (qx h hl).2.2 _ _ ⟨l[i],Zj hi,m,ml,DV,rfl,rfl⟩
theorem P4 {r:Ro} (h:rR r) {l:List Tk} (hl:AV r l) {q:List Po} (h0:iO r l (qy r l) l.length=some q) :
  iJ r q∧(∀ v y,y∈cq r→¬ SS r l v y→rJ q v (cF r) y=rJ r.po v (cF r) y) ∧
  ∀ t∈l,∀ k,k<t.so.length→nK r t k=true→rJ q (k:Nat) (cF r) t.de=if t.at k=dash then ⟨#[]⟩ else t.at k:=by
 rw [r8 hl.de _ _ (Zz _)] at h0
 have yB:∀ j∈vl r l l.length,∃ t∈l,∃ n,n<t.so.length∧oA r t n=true∧j=⟨(n:Nat),t.at n,t.de⟩:=by
  intro j hj
  obtain ⟨m,hm,n,e1,e2,e3⟩:=(oB (Zz _)).1 hj
  exact ⟨_,Zj hm,n,e1,e2,e3⟩
 obtain ⟨k1,k2,k3⟩:=zr h.ui h.nd (OL r) _ _ _ (qx h hl).1 (fun j hj=>by
   obtain ⟨t,ht,n,e1,e2,rfl⟩:=yB j hj
   exact zR h hl ht e1 e2) (zS hl.nd _ (Zz _)) h0
 have hDr:∀ t∈l,∀ n,n<t.so.length→oA r t n=true→SS r l (n:Nat) t.de:=fun t ht n hn hj=>by
  obtain ⟨j1,j2,_⟩:=mF.1 hj
  exact ⟨t,ht,n,hn,lu.2 ⟨j1,j2⟩,rfl,rfl⟩
 refine ⟨k1,fun v y hy hd=>?_,fun t ht k hk DV=>?_⟩
 ·rw [(k3 v y hy fun j hj ⟨e1,e2⟩=>by
   obtain ⟨t,ht,n,a1,a2,rfl⟩:=yB j hj
   exact hd (by rw [e1,e2];exact hDr t ht n a1 a2)).1]
  exact ((qx h hl).2.1 v y hy hd).2
 ·by_cases Ut:t.at k=dash
  ·rw [if_pos Ut,(k3 (k:Nat) t.de (hl.de t ht) fun j hj ⟨e1,e2⟩=>by
    obtain ⟨t',Gt,n,a1,a2,rfl⟩:=yB j hj
    dsimp only at e1 e2
    obtain ⟨x,hx,rfl⟩:=Zu ht
    obtain ⟨x',QF,rfl⟩:=Zu Gt
    have e:x=x':=Classical.byContradiction fun c=>tB hl.nd hx QF c e2
    subst e
    have e3:k=n:=by omega
    subst e3
    exact (mF.1 a2).2.2 Ut).1]
   exact yM (fun hs=>h.ui.sd _ hs (hl.de t ht)) ((qx h hl).2.2 _ _ ⟨t,ht,k,hk,DV,rfl,rfl⟩)
  ·rw [if_neg Ut]
   obtain ⟨d1,d2⟩:=lu.1 DV
   have hj:oA r t k=true:=mF.2 ⟨d1,d2,Ut⟩
   obtain ⟨x,hx,rfl⟩:=Zu ht
   exact k2 ⟨(k:Nat),l[x].at k,l[x].de⟩ ((oB (Zz _)).2 ⟨x,hx,k,hk,hj,rfl⟩)
theorem Ew {po:List Po} {v:Int} {o:ByteArray}:nH po v o=true↔∃ p∈po,p.lv=v∧p.ip=o:=by
 unfold nH zX
 rw [ZM]
 exact ⟨fun ⟨p,hp,h⟩=>⟨p,hp,by simpa using h⟩,fun ⟨p,hp,h⟩=>⟨p,hp,by simpa using h⟩⟩
end Go.Proofs.A1
