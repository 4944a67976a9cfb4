/- Parts of the proof: KO KP KQ KR KS KT KU KW KX KYq P5p P5q P5r P5t. -/
import Derived.Test.YteonnodafmegaaaGreatDoorNM08
import Derived.Test.YteonnodafmegaaaGreatDoorNM04
import Derived.Test.YteonnodafmegaaaGreatDoorNM03
import Derived.Shelf.Slices.In.SortNone
import Derived.Test.YteonnodafmegaaaGreatDoorNM02
import Derived.Test.YteonnodafmegaaaGreatDoorNM05
import Derived.Test.YteonnodafmegaaaGreatDoorNM07
import Derived.Test.YteonnodafmegaaaGreatDoorNM01
set_option linter.unusedSectionVars false
set_option linter.unusedVariables false
set_option linter.unusedSimpArgs false
namespace Go.Proofs.A1
open Go Go.SL Go.Shelf Go.RowKit
def qK (l:List Int):List Int:=l.mergeSort fun x y=>decide (x≤y)
theorem qJ (l:List Int):(qK l).length=l.length:=List.length_mergeSort _
theorem HN (l:List Int):List.Perm (qK l) l:=List.mergeSort_perm _ _
theorem Mt (l:List Int):(qK l).Pairwise (·≤·):=by
 have:=List.pairwise_mergeSort (le:=fun x y:Int=>decide (x≤y)) (fun a b c h1 h2=>by simp at *;omega) (fun a b=>by simp;omega) l
 exact this.imp fun h=>by simpa using h
theorem Ih {α:Type} [Inhabited α] {enc:α→Value} {w:World} {g n:Nat} {os:Array Obj} {cur:Array Value} {e:TypeId} {fr:Nat×Nat} (d:Array α) (hb:w.heap[g]? = some (.cells cur e fr)) :
  (Go.Sort.grow (Go.Sort.putRow enc (Go.Sort.ahead w n) g 0 d) os).heap[g]? = some (.cells (Go.Sort.putCells enc 0 d cur) e fr):=by
 have hg:g<w.heap.size:=(ZX.1 hb).1
 rw [Go.Sort.heap_grow_old _ _ (by simpa using hg)]
 simp [Go.Sort.putRow,Go.Sort.mapBlock,Go.Sort.ahead,Zbf,hb,Go.Sort.onCells]
theorem Gd {α:Type} [Inhabited α] {enc:α→Value} {w:World} {g n:Nat} {os:Array Obj} (d:Array α):aH [g] w (Go.Sort.grow (Go.Sort.putRow enc (Go.Sort.ahead w n) g 0 d) os):=by
 refine ⟨rfl,rfl,rfl,Nat.le_add_right _ _,by simp,fun k hk hne=>?_⟩
 rw [Go.Sort.heap_grow_old _ _ (by simpa using hk)]
 have:g≠k:=fun e=>hne (by rw [e];simp)
 simp [Go.Sort.putRow,Go.Sort.mapBlock,Go.Sort.ahead,Zbf,this]
theorem HH {α:Type} [Inhabited α] {enc:α→Value} (cur:Array Value) (ts:List α) (h:ts.length≤cur.size):(Go.Sort.putCells enc 0 ts.toArray cur).toList.take ts.length=ts.map enc:=by
 apply Zap
 intro j
 by_cases hj:j<ts.length
 ·rw [List.getElem?_take_of_lt hj,ZaC]
  simp [Go.Sort.putCells,hj,show j<cur.size by omega]
 ·rw [List.getElem?_take_eq_none (by omega),Zaf (by simp;omega)]
theorem DL {w:World} {g:Nat} {cur:Array Value} {e:TypeId} {l:List Int} (hb:w.heap[g]? = some (.cells cur e (0,0))) (ht:cur.toList.take l.length=l.map (Value.int .i64)):Go.Sort.Holds (Value.int .i64) w g 0 l.toArray:=by
 intro j hj
 have l8:j<l.length:=by simpa using hj
 refine ⟨?_,by simp [World.frozen?,hb]⟩
 have h1:(cur.toList.take l.length)[j]? = (l.map (Value.int .i64))[j]?:=by rw [ht]
 rw [List.getElem?_take_of_lt l8] at h1
 simp only [World.cell?,hb,ZB]
 simp only [Option.isSome_none,ZaR,if_false]
 rw [ZaC] at h1
 rw [h1]
 simp [l8]
theorem Qd {v:Value} {l:List Int} {n:Nat} {w:World} {fp:List Nat} (hn:n=l.length) (hl:n≤1000000) (hs:ch (hp w) [row 3 1 v n (l.map (Value.int .i64))] fp) :
  bh Tryz.prog 156 [v] w fp (fun _:Unit=>True) (fun _=>.tuple #[]) (fun _=>[row 3 1 v n ((qK l).map (Value.int .i64))]):=by
 obtain ⟨f1,f2,rfl,h1,h2⟩:=hs
 obtain rfl:f2=[]:=h2
 obtain ⟨rfl,hlen,h1⟩:=h1
 rw [ZU]
 rcases h1 with ⟨rfl,h0⟩ | ⟨g,cap,cur,rfl,hg,kz,j6,qk,zV⟩
 ·have qi:l=[]:=Z2 (by omega)
  refine (Any.slices_Sort_int_none Tryz.EY none 0 w).mono fun e w' ⟨he,hw⟩=>?_
  subst hw
  refine ⟨(),he,trivial,.refl _ _,[],Zam,⟨[],[],rfl,⟨rfl,?_,.inl ⟨rfl,h0⟩⟩,rfl⟩,by simp⟩
  rw [Zd,qJ];omega
 ·rw [Zar] at qk zV
  have RI:g<w.heap.size:=(ZX.1 hg).1
  subst hn
  refine (Tryz.slices_Sort_int g 0 cap l w (DL hg zV) RI (by omega)).mono fun e w' ⟨he,m,os,hw⟩=>?_
  subst hw
  refine ⟨(),he,trivial,Gd _,[g],by simp,⟨[g],[],rfl,⟨rfl,?_,.inr ⟨g,cap,_,rfl,Ih _ hg,kz,j6,?_,?_⟩⟩,rfl⟩,by simp [Value.ownBlock]⟩
  ·rw [Zd,qJ];omega
  ·simp [Go.Sort.putCells,qk]
  ·rw [Zar]
   have:=HH (enc:=Value.int .i64) cur (qK l) (by rw [qJ];omega)
   rw [qJ] at this
   exact this
def KT (r:Ro) (v:Int) (so de:ByteArray):Int:=if pQ r v so de≠0 then pQ r v so de else if LA r v so (nM r de) then 24 else 0
def GU (r:Ro) (v:Int) (so de:ByteArray):List Int:=if pQ r v so de≠0 then [] else if LA r v so (nM r de) then [] else vA r v so
theorem TH {L:List Int} {i:Nat} (h:i<L.length) (cur:List Value):(L.map (Value.int .i64)++cur)[i*1]? = some (.int .i64 L[i]):=by
 rw [Zar,ZI (by rw [Zd];exact h),ZD,Zc h];rfl
structure vU (r:Ro) (v:Int) (so:ByteArray) (L:List Int) (m:Int) (L':List Int) (k:Nat):Prop where
 pre:L <+: L'
 nd:L'.Nodup
 rc:∀ x∈L',(fw r r.po v so).Rc x
 dn:∀ j,j<k→∀ t,(fm r v m r.ti.length)[j]? = some t→(iG r t).to∈L'
theorem vU.DZ {r:Ro} (eG:tq r) {v:Int} {so:ByteArray} (hs:so∈cC r) {L L':List Int} {m:Int} {k:Nat} (h:vU r v so L m L' k):L'.length≤4:=by
 have hl:=eG.lim
 refine E2 h.nd fun x hx=>?_
 have:=uO eG hs (h.rc x hx)
 omega
theorem vU.stay {r:Ro} {v:Int} {so:ByteArray} {L L':List Int} {m:Int} {k t:Nat} (h:vU r v so L m L' k) (ht:(fm r v m r.ti.length)[k]? = some t) (hc:(iG r t).to∈L'):vU r v so L m L' (k+1):=by
 refine ⟨h.pre,h.nd,h.rc,fun j hj t' Gs=>?_⟩
 by_cases e:j=k
 ·subst e
  rw [ht] at Gs
  cases Gs
  exact hc
 ·exact h.dn j (by omega) t' Gs
theorem vU.add {r:Ro} {v:Int} {so:ByteArray} {L L':List Int} {m:Int} {k t:Nat} (h:vU r v so L m L' k) (hm:m∈L) (ht:(fm r v m r.ti.length)[k]? = some t) (hc:¬ (iG r t).to∈L'):vU r v so L m (L'++[(iG r t).to]) (k+1):=by
 have iv:=ZW ht
 unfold fm at iv
 rw [Zv,ZT,qm v so,Zm,decide_eq_true_eq] at iv
 have XD:(fw r r.po v so).Rc (iG r t).to:=Wn.Rc.fe (N:=fw r r.po v so) iv.1 iv.2.2 (by rw [iv.2.1];exact h.rc m (h.pre.subset hm))
 have h2:vU r v so L m (L'++[(iG r t).to]) k:=by
  refine ⟨h.pre.trans (Zbe _ _),?_,fun x hx=>?_,fun j hj t' Gs=>ZE _ (h.dn j hj t' Gs)⟩
  ·rw [ZF]
   refine ⟨h.nd,by simp,fun a ha b hb e=>?_⟩
   rw [ZK] at hb
   subst hb;subst e
   exact hc ha
  ·rcases Zx.1 hx with hx | hx
   ·exact h.rc x hx
   ·rw [ZK.1 hx];exact XD
 exact h2.stay ht (by simp)
theorem vV.next {r:Ro} {v:Int} {so:ByteArray} {L L':List Int} {m:Int} {i:Nat} (h:vV r v so L i) (hi:L[i]? = some m) (hJ:vU r v so L m L' (fm r v m r.ti.length).length):vV r v so L' (i+1)∧i+1≤L'.length:=by
 have iw:=(Zl.1 hi).1
 have AG:=hJ.pre.length_le
 refine ⟨⟨hJ.nd,hJ.rc,fun x hx=>hJ.pre.subset (h.rt x hx),fun j x hj hx t ht hf=>?_⟩,by omega⟩
 have Q0:L[j]? = some x:=by
  rw [← hx]
  obtain ⟨q,rfl⟩:=hJ.pre
  rw [ZI (by omega)]
 by_cases e:j=i
 ·subst e
  rw [hi] at Q0
  cases Q0
  have hm:t∈fm r v m r.ti.length:=by unfold fm;exact Zv.2 ⟨ZT.2 ht,hf⟩
  obtain ⟨q,hq,e⟩:=Zs hm
  exact hJ.dn q hq t (by rw [Zc hq,e])
 ·exact hJ.pre.subset (h.dn j x (by omega) Q0 t ht hf)
set_option maxHeartbeats 2000000 in
theorem V4 {r:Ro} {s d t p:Value} (v:Int) (so de:ByteArray) {w:World} (h:RR w r s d t p) (cI:lz r):bh Tryz.prog 36 [RA r s d t p,.int .i64 v,.string so,.string de] w [] (fun _:Value=>True) (fun x=>.tuple #[x,.int .i64 (KT r v so de)]) (fun x=>[row 3 1 x (GU r v so de).length ((GU r v so de).map (Value.int .i64))]):=by
 have h1:=Rd.one h.sr
 have h2:=Rd.one h.de
 have h3:=Rd.one h.ti
 have h4:=Rd.one h.po
 have mh:=h.de
 obtain ⟨a3,sq,b3,o3,rfl,nr,gB,tw,qk⟩:=mh
 rw [cg] at *
 unfold maxLen at gB
 unfold RA
 refine aQ Tryz.func36 rfl rfl ?_
 (refine Jr<|Jy rfl rfl fun _ _=>Ja rfl<|Ja rfl<|Jn<|Jq<|Jr<|ab (cL .here) rfl<|Jv rfl<|Jv rfl<|Jv rfl ?_)
 rename_i b4 wb
 refine ai vT rfl (fun w' aB=>qv (s:=s) (d:=.slice a3 r.de.length sq) (t:=t) (p:=p) v so de (h.keeps aB.keeps) cI) ?_
 (refine Ja rfl<|Ji<|Jv rfl<|JD rfl<|Jn<|fP rfl (fun ar=>?_) fun ar=>?_;refine Jr<|Jv rfl<|Ja rfl<|Ja rfl<|Jn<|Ju ?_;rotate_left;refine Jk<|Jr<|ab (cL .here) rfl<|Jv rfl<|Jv rfl ?_;rotate_right)
 ·have e1:GU r v so de=[]:=if_pos ar
  have e2:KT r v so de=pQ r v so de:=if_pos ar
  rw [e1,e2]
  refine aP 3 1 ?_
  first | with_reducible apply aN | with_reducible apply aO
  case he=>exact fY rfl rfl rfl
  case hR=>
   intro w' aB
   exact aF (.slice none 0 0) trivial (by exact .cons .here .nil) aB rfl
 have e0:pQ r v so de=0:=Zo.1 ar
 obtain ⟨eG,hv,r5,fH⟩:=yE e0
 have e1:GU r v so de=if LA r v so (nM r de) then [] else vA r v so:=if_neg ar
 have e2:KT r v so de=if LA r v so (nM r de) then 24 else 0:=if_neg ar
 clear ar
 have ht6:=eG.len.2.2
 obtain ⟨j0,zS⟩:∃ i:Nat,bE (cy r) de=(i:Nat):=⟨(bE (cy r) de).toNat,by have:=eC fH;omega⟩
 have BZ:j0<r.de.length:=by
  obtain ⟨hl,_⟩:=fE (l:=cy r) (s:=de) (by omega)
  rw [zS,ZG] at hl
  unfold cy at hl;rwa [Zd] at hl
 have UY:nM r de=(r.de[j0]).mx:=by unfold nM;rw [zS,ZG,Zk,Zc BZ];rfl
 have wI:∀ w',aH [] w w'→aj Tryz.prog 155 [.agg #[.int .i64 r.lv,.int .i64 r.ma,s,.slice a3 r.de.length sq,t,p],.string de] w' (.int .i64 (j0:Nat)):=fun w' hk=>zS ▸ fM de (h.keeps hk)
 have GH:=tw (gJ BZ)
 have kl:=(qk j0 _ (fj BZ)).2
 unfold De.cells at kl
 have wJ:=kl 1 _ rfl
 rw [e1,e2]
 refine JN eK rfl (fun w1 aR=>EI (s:=s) (d:=.slice a3 r.de.length sq) (t:=t) (p:=p) v so (h.keeps aR.keeps) (by omega) r5) ?_
 intro rv _
 dsimp only [id_eq,Zb,Za]
 refine aW (by exact .here) fun ra rc_ e=>?_
 subst e
 have hC:=vV.begin (v:=v) eG r5
 generalize gy r v so r.ti.length=L0 at hC ⊢
 (refine Jz rfl rfl fun _ _=>aq (.of rfl) (.of rfl) .here rfl rfl (eE rfl) (bF rfl) ak<|Jn<|Jq<|Jr<|Ja rfl<|Jn<|J0 ?_)
 rename_i PI YK
 refine Ev (ι:=Nat×Value×List Int) (fun x=>vV r v so x.2.2 x.1∧x.1≤x.2.2.length) (fun x=>[(12,.int .i64 (x.1:Nat)),(11,.pointer (some ⟨PI,0,none⟩)),(4,.pointer (some ⟨b4,0,none⟩)),(1,.int .i64 v),(2,.string so),(3,.string de)])
  (fun x=>[bG PI (.cells #[x.2.1] 49 (0,0)),row 3 1 x.2.1 x.2.2.length (x.2.2.map (Value.int .i64)),JP b4 r s (.slice a3 r.de.length sq) t p]) (fun x=>4-x.1) ?_ ?_
 ·apply xk (0,.slice ra L0.length rc_,L0) ⟨hC,Zi _⟩
  case hs1=>exact cd
  case ht=>
   exact .cons .here (.cons .here (.cons .here .nil))
 rintro ⟨i,ov,L⟩ ⟨hC,hiL⟩ D
 dsimp only at hC hiL ⊢
 have h4L:=hC.DZ eG r5
 have GJ:L.length=L.length:=rfl
 refine aW (by exact Take.there .here) fun oa oc e=>?_
 subst e
 by_cases aK:i<L.length
 ·refine Jq<|Jr<|Jv rfl<|JL rfl .here rfl<|JI rfl<|JA rfl<|Jn<|Jd rfl fun ar=>Jk<|Jq<|J0<|Jq ?_
  refine dd (by exact Take.there .here) (by omega) fun g gQ cur e oE Gz DJ BY=>?_
  cases e
  have c1:=TH aK cur
  with_reducible refine en 6 (by kernel_rfl) ?_
  (refine aL (cL bT) rfl ?_;refine ly rfl rfl ?_;refine aL (gT (.there .here)) rfl ?_;refine ly rfl rfl ?_;refine aL (az (.of rfl) (.of rfl) rfl (by omega) ar bj) rfl ?_;refine aL (ag (.of rfl) (At.mF .here c1)) rfl ?_)
  with_reducible refine eo ?_
  refine cN (by exact .here) oE Gz DJ BY ?_
  with_reducible apply jr
  case hr=>exact eK
  case hd=>rfl
  case ht=>exact bz.nil
  case hc=>
   intro w1 fp aR _ hs1
   obtain rfl:fp=[]:=hs1
   exact rZ (s:=s) (d:=.slice a3 r.de.length sq) (t:=t) (p:=p) v L[i] (h.keeps aR.keeps)
  intro y _
  dsimp only [id_eq,Zb,Za]
  refine Jn<|J0 ?_
  have B0:L[i]? = some L[i]:=Zc aK
  have iv:L[i]∈L:=Zj aK
  generalize L[i]=m at B0 iv ⊢
  refine jh (ps:=[40,41]) (f:=240) (first:=[]) (cap:=[.pointer (some ⟨y.1,0,none⟩),.pointer (some ⟨y.2.1,0,none⟩),.pointer (some ⟨y.2.2,0,none⟩)]) (ι:=Value×List Int) (κ:=Empty)
   (rst:=[JP b4 r s (.slice a3 r.de.length sq) t p]) ?hg
   [JP y.1 r s (.slice a3 r.de.length sq) t p,bG y.2.1 (.cells #[.int .i64 m] 3 (0,0)),bG y.2.2 (.cells #[.int .i64 v] 3 (0,0))] (LD r v m) ?hit
   (fun k x=>vU r v so L m x.2 k)
   (fun x=>[bG PI (.cells #[x.1] 49 (0,0)),row 3 1 x.1 x.2.length (x.2.map (Value.int .i64))])
   (fun _=>False) (fun _=>[]) (fun _=>.ret) (.slice (some ⟨g,0,none⟩) L.length oc,L) ⟨List.prefix_rfl,hC.nd,hC.rc,fun j hj=>absurd hj (ZO _)⟩ ?ht ?hlen ?hps ?round ?kn ?kj
  case hg=>exact Is.of rfl
  case hit=>intro w' aB;exact IU v m h RO.nil (by omega)
  case ht=>
   dsimp only [Zb,Za]
   exact .cons dO (.cons c6 (.cons .here (.cons .here (.cons .here .nil))))
  case hlen=>intro vs oB;obtain ⟨x,_,rfl⟩:=Zu.1 oB;rfl
  case hps=>intro t ht;simp only [ZR,Zq,or_false] at ht;rcases ht with rfl | rfl <;> exact Zav rfl
  case kj=>intro y;cases y
  case kn=>
   rintro ⟨SO,L2⟩ D2 hJ
   dsimp only [Zb,Za] at hJ ⊢
   rw [tV] at hJ
   obtain ⟨hC2,X5⟩:=hC.next B0 hJ
   refine Jj<|Jj<|Jt<|Jg<|Jv rfl<|JB rfl (by omega)<|Ja rfl<|Jn ?_
   apply AW (i+1,SO,L2) ⟨hC2,X5⟩ (show 4-(i+1)<4-i by omega)
   case hs1=>exact cd
   case ht=>
    exact .cons .here (.cons .here (.cons c6 .nil))
  case round=>
   rintro l2 rc W2 Vs k ⟨SO,L2⟩ vs hsz hk hJ hB hF
   dsimp only at hJ
   obtain ⟨OP,Uf,rfl,iw,Wv⟩:=DB hk
   have aaS:=hJ.DZ eG r5
   have GJ:L2.length=L2.length:=rfl
   have Rx:(L2.map (Value.int .i64)).length=L2.length*1:=by rw [Zd,Zar]
   have Kp:∀ (w':World) (SO:Value),Rd w' SO 1 (ints L2)→aj Tryz.prog 154 [SO,.int .i64 (iG r OP).to] w' (.bool (L2.contains (iG r OP).to)):=fun w' SO hr=>lq _ hr
   dsimp only [Ti.cells,List.zip_cons_cons,List.zip_nil_right,l5,Zb,Za]
   (refine Jg<|Jz rfl rfl fun _ _=>aq (.of rfl) (.of rfl) .here rfl rfl (fo rfl rfl rfl) (bF rfl) ak<|Jn ?_)
   with_reducible apply mm
   case ht=>exact Take.there .here
   refine aW (E:=3) (sz:=1) c6 fun va vc e=>?_
   subst e
   (refine J0<|Jr<|JL rfl bT rfl<|bP rfl rfl ae<|JL rfl (.there .here) rfl ?_)
   cases AJ:L2.contains (iG r OP).to with
   | true =>
    have NN:∀ (w':World),Rd w' (.slice va L2.length vc) 1 (ints L2)→aj Tryz.prog 154 [.slice va L2.length vc,.int .i64 (iG r OP).to] w' (.bool true):=fun w' hr=>AJ ▸ Kp w' _ hr
    (refine ai bd rfl (fun w' aB=>(NN w' (kK aB c6 GJ)))<|JH rfl<|Jn<|bN (.of rfl)<|Jw<|Jj ?_)
    apply lJ (.slice va L2.length vc,L2)
    case ht=>exact .here
    case hx=>exact hJ.stay Uf (Zbh.1 AJ)
    case h2=>exact .cons (.there .here) (.cons (.there .here) .nil)
   | false =>
    have NN:∀ (w':World),Rd w' (.slice va L2.length vc) 1 (ints L2)→aj Tryz.prog 154 [.slice va L2.length vc,.int .i64 (iG r OP).to] w' (.bool false):=fun w' hr=>AJ ▸ Kp w' _ hr
    (refine ai bd rfl (fun w' aB=>(NN w' (kK aB c6 GJ)))<|JH rfl<|Jn<|cF (.of rfl)<|Jg<|JL rfl bT rfl<|bP rfl rfl ae<|JL rfl (.there .here) rfl<|bo (aD (.cons (.of rfl) .nil) rfl rfl rfl rfl) rfl fun _ _=>?_)
    refine bH (.of rfl) (.of rfl) dO .here ak (by rfl) (eE rfl) (by rfl) (by rfl) (by rfl) eN (by rfl) ?_
    intro v'
    refine aW (by exact .here) fun a' dB e=>?_
    subst e
    (refine aq (.of rfl) (.of rfl) dO rfl rfl (eE rfl) (bF rfl) ak<|Jx<|Jj ?_)
    apply lJ (.slice a' (L2.length+1) dB,L2++[(iG r OP).to])
    case ht=>exact c6
    case hx=>exact hJ.add iv Uf (fun hm=>by rw [Zbh.2 hm] at AJ;cases AJ)
    case h2=>
     show bz _ [bG PI (.cells #[.slice a' (L2.length+1) dB] 49 (0,0)),row 3 1 (.slice a' (L2.length+1) dB) (L2++[(iG r OP).to]).length ((L2++[(iG r OP).to]).map (Value.int .i64))] _
     rw [Zg,Zr]
     exact .cons .here (.cons .here .nil)
 ·obtain rfl:i=L.length:=by omega
  have oD:=hC.done eG r5
  have hcb:L.contains (nM r de)=LA r v so (nM r de):=by rw [ZaY,Zbh,oD,Ie]
  have NN:∀ (w':World),Rd w' (.slice oa L.length oc) 1 (ints L)→aj Tryz.prog 154 [.slice oa L.length oc,.int .i64 (r.de[j0]).mx] w' (.bool (LA r v so (nM r de))):=fun w' hr=>by
   rw [← hcb,UY];exact lq _ hr
  refine Jq<|Jr<|Jv rfl<|JL rfl .here rfl<|JI rfl<|JA rfl<|Jn<|Jc rfl fun ar=>Jp<|Jl<|Jo<|Jt<|Jq<|Jq ?_
  with_reducible refine en 10 (by kernel_rfl) ?_
  (refine aL (gT .here) rfl<|oO rfl rfl ae<|aL (gT bT) rfl<|aL (cL bT) rfl<|ly rfl rfl<|gD bd rfl (fun w' aB=>(wI w' (Mem.keeps aB)))<|aL (az (.of rfl) (.of rfl) GH (by omega) (by omega) bj) rfl<|oO rfl rfl ae<|aL (ag (.of rfl) (At.base wJ rfl)) rfl<|gD bd rfl (fun w' aB=>(NN w' (kK aB (.there .here) GJ))) ?_)
  with_reducible refine eo ?_
  cases hrb:LA r v so (nM r de) with
  | true =>
   (refine Jn<|cF (.of rfl)<|Jr<|Ja rfl<|Ja rfl<|Jn<|Ju ?_)
   refine aP 3 1 ?_
   first | with_reducible apply aN | with_reducible apply aO
   case he=>exact fY rfl rfl rfl
   case hR=>
    intro w' aB
    exact aF (.slice none 0 0) trivial (by exact .cons .here .nil) aB rfl
  | false =>
   (refine Jn<|bN (.of rfl)<|Jk<|Jr<|JL rfl .here rfl ?_)
   with_reducible apply fS (As:=[row 3 1 (.slice oa L.length oc) L.length (L.map (Value.int .i64))])
   case hr=>exact bL
   case hd=>rfl
   case ht=>exact lU
   case hc=>
    intro w1 AO aR vh hs1 CK _
    exact Qd rfl (by omega) hs1
   intro _ _
   have NA:qK L=vA r v so:=KS eG r5 hC.nd oD (HN L) (Mt L)
   have Wq:(vA r v so).length=L.length:=by rw [← NA,qJ]
   rw [NA]
   dsimp only [id_eq,Zb,Za]
   refine Ji<|JL rfl (.there .here) rfl<|Ja rfl<|Ja rfl<|Jn<|Je ?_
   first | with_reducible apply aN | with_reducible apply aO
   case he=>exact fY rfl rfl rfl
   case hR=>
    intro w' aB
    exact aF (.slice oa L.length oc) trivial (show bz _ [row 3 1 (.slice oa L.length oc) (vA r v so).length ((vA r v so).map (Value.int .i64))] _ by rw [Wq];exact .cons .here .nil) aB rfl
end Go.Proofs.A1
namespace Go.Proofs.A1
open Go Go.SL
theorem JO {lv:Value} {l:List Int} {p:Int→Bool} {f:FuncId} {first cap:List Value} [bM Tryz.prog f] {w:World} (h:Rd w lv 1 (ints l)) (cr:∀ x∈l,∀ w',aH [] w w'→aj Tryz.prog f (first++[.int .i64 x]++cap) w' (.bool (p x))) :
  aj Tryz.prog 247 [lv,.func (.func f) first.toArray cap.toArray] w (.int .i64 (gP p l)):=by
 obtain ⟨a,cp,b,o,rfl,c7,bQ,ha,hc⟩:=h
 rw [cY] at *
 unfold maxLen at bQ
 refine ah Tryz.func247 rfl rfl ?_
 refine Jr<|Ja rfl<|Jn<|Jq<|Jr<|Jv rfl<|JI rfl<|Jv rfl<|Jn<|J0 ?_
 refine aX (fun k:Nat=>k≤l.length∧∀ i,i<k→(l[i]?.map p).getD false=false) (fun k=>[(8,.int .i64 k),(7,.int .i64 l.length),(0,.slice a l.length cp),(1,.func (.func f) first.toArray cap.toArray)]) (fun _=>[]) (fun k=>l.length-k) ?_ ?_
 ·apply aI 0 ⟨Zi _,fun i h=>by omega⟩
  case hs1=>exact cd
  case ht=>(try simp only [Ze,Zf,Za]);exact .nil
 rintro k ⟨hk,hf⟩
 by_cases aK:k<l.length
 ·have cB:=ha (jy aK)
  have c0:w.cell? ⟨b,o+k*1,none⟩=some (.int .i64 l[k]):=(hc k _ (hP aK)).2 0 _ rfl
  have iP:=cr _ (Zj aK)
  have hps:(l[k]?.map p).getD false=p l[k]:=by simp [aK]
  (refine Jr<|JA rfl<|Jn<|Jq<|Jd rfl fun ar=>Jk<|Jq<|J0<|Jr<|Jv rfl<|Ja rfl<|Ji<|Jv rfl<|Jv rfl<|Jv rfl<|ab (fG cB ar) rfl<|ab (ag (.of rfl) (At.base c0 rfl)) rfl<|ai bL rfl (fun w' aB=>(iP w' (Mem.keeps aB)))<|Jn<|nF rfl (fun ar=>?_) fun ar=>?_;refine Jr<|Jv rfl<|Ja rfl<|Jn<|Je<|Jm<|Jh<|Jh<|Jm<|Jh<|JT ?_;rotate_left;refine Jw<|Jj<|Jt<|Jg<|JB rfl (by omega)<|Jv rfl<|Jn ?_;rotate_right)
  ·rw [gp hf aK ar]
  ·apply aJ (k+1) ⟨by omega,fun i hi=>by
    by_cases e:i=k
    ·rw [e,hps];exact ar
    ·exact hf i (by omega)⟩ (by omega)
   case hs1=>exact cd
   case ht=>(try simp only [Ze,Zf,Za]);exact .nil
 ·obtain rfl:k=l.length:=by omega
  refine Jr<|JA rfl<|Jn<|Jq<|Jc rfl fun ar=>Jp<|Jl<|Jo<|Jt<|Jr<|Ja rfl<|Jn<|Je<|JT ?_
  rw [fv hf]
theorem vp {lv:Value} {l:List Int} {p:Int→Bool} {f:FuncId} {first cap:List Value} [bM Tryz.prog f] {w:World} (h:Rd w lv 1 (ints l)) (cr:∀ x∈l,∀ w',aH [] w w'→aj Tryz.prog f (first++[.int .i64 x]++cap) w' (.bool (p x))) :
  aj Tryz.prog 161 [lv,.func (.func f) first.toArray cap.toArray] w (.bool (l.any p)):=by
 have iP:∀ w',aH [] w w'→aj Tryz.prog 247 [lv,.func (.func f) first.toArray cap.toArray] w' (.int .i64 (gP p l)):=fun w' hk=>
  JO (h.keeps hk) fun x hx w2 eH=>cr x hx w2 (hk.trans eH)
 rw [← j4]
 refine ah Tryz.func161 rfl rfl ?_
 (refine Jr<|Ja rfl<|Ji<|Jv rfl<|Jv rfl<|ai bd rfl (fun w' aB=>(iP w' (Mem.keeps aB)))<|JG rfl<|Ja rfl<|Jn<|Je<|JT ?_)
 rfl
theorem vC {cv:Value} {L:List Int} (x:Int) {b:Nat} {w:World} (h:Rd w cv 1 (ints L)) (f1:w.cell? ⟨b,0,none⟩=some cv) :
  aj Tryz.prog 157 [.int .i64 x,.pointer (some ⟨b,0,none⟩)] w (.bool (L.contains x)):=by
 have h1:=Rd.one h
 refine ah Tryz.func157 rfl rfl ?_
 (refine Jr<|Ja rfl<|Ji<|ab (ag (.of rfl) (At.base f1 rfl)) rfl<|Jv rfl ?_)
 refine ai bd rfl (fun w' aB=>lq x (h.keeps aB.keeps)) ?_
 refine Ja rfl<|Jn<|Je<|JT ?_
 rfl
theorem vB {cv:Value} {L:List Int} (x:Int) {b b2:Nat} {w:World} (h:Rd w cv 1 (ints L)) (f1:w.cell? ⟨b,0,none⟩=some cv) (f2:w.cell? ⟨b2,0,none⟩=some (.func (.func 157) #[] #[.pointer (some ⟨b,0,none⟩)])) :
  aj Tryz.prog 158 [.int .i64 x,.pointer (some ⟨b2,0,none⟩)] w (.bool (!L.contains x)):=by
 refine ah Tryz.func158 rfl rfl ?_
 (refine Jr<|Ja rfl<|Ji<|ab (ag (.of rfl) (At.base f2 rfl)) rfl<|Jv rfl ?_)
 refine ai bL rfl (fun w' aB=>vC x (h.keeps aB.keeps) (ei f1 rfl (by simp) aB.keeps)) ?_
 refine JH rfl<|Ja rfl<|Jn<|Je<|JT ?_
 rfl
def sO (r:Ro) (v:Int) (L:List Int) (x:Ti):Bool:=L.contains x.fr&&!L.contains x.to&&!jq r.po v x.nm
theorem Sm {r:Ro} {s d t p:Value} (v:Int) {cv:Value} {L:List Int} (x:Ti) {b b2 b3 b5 b6:Nat} {w:World} (hr:RR w r s d t p) (h:Rd w cv 1 (ints L)) (f1:w.cell? ⟨b,0,none⟩=some cv) (f2:w.cell? ⟨b2,0,none⟩=some (.func (.func 157) #[] #[.pointer (some ⟨b,0,none⟩)]))
  (f3:w.cell? ⟨b3,0,none⟩=some (.func (.func 158) #[] #[.pointer (some ⟨b2,0,none⟩)])) (hA:BR w b5 (RC r s d t p)) (f6:w.cell? ⟨b6,0,none⟩=some (.int .i64 v)) :
  aj Tryz.prog 160 [.agg x.cells.toArray,.pointer (some ⟨b2,0,none⟩),.pointer (some ⟨b3,0,none⟩),.pointer (some ⟨b5,0,none⟩),.pointer (some ⟨b6,0,none⟩)] w (.bool (sO r v L x)):=by
 have h1:=Rd.one hr.sr
 have h2:=Rd.one hr.de
 have h3:=Rd.one hr.ti
 have h4:=Rd.one hr.po
 have j7:∀ (j:Nat) (u:Value),[Value.int .i64 r.lv,.int .i64 r.ma,s,d,t,p][j]? = some u→w.cell? ⟨b5,0+j,none⟩=some u:=hA
 unfold Ti.cells
 refine ah Tryz.func160 rfl rfl ?_
 (refine Jr<|Jy rfl rfl fun _ _=>Ja rfl<|Ji<|ab (ag (.of rfl) (At.base f2 rfl)) rfl<|bP rfl rfl ae<|JL rfl .here rfl ?_)
 cases kz:L.contains x.fr with
 | false =>
  have hB:sO r v L x=false:=by unfold sO;rw [kz];rfl
  rw [hB]
  refine ai bL rfl (fun w' aB=>kz ▸ vC x.fr (h.keeps aB.keeps) (ei f1 rfl (by simp) aB.keeps)) ?_
  (refine Jv rfl<|aA rfl rfl inferInstance (fun hg bB=>(ag (.of rfl) (At.base f3 rfl))) rfl<|aA rfl rfl inferInstance (fun hg bB=>(ao (.of rfl) ae)) rfl<|aA rfl rfl inferInstance (fun hg bB=>(ag (.bI bB rfl) (At.lit .here rfl))) rfl<|dC rfl rfl rfl rfl<|ab (cP (.of rfl) (.of rfl) (.of rfl) rfl) rfl<|Jv rfl<|aA rfl rfl inferInstance (fun hg bB=>(jt (.of rfl) (eF.base j7 rfl) rfl)) rfl<|aA rfl rfl inferInstance (fun hg bB=>(ag (.of rfl) (At.base f6 rfl))) rfl<|aA rfl rfl inferInstance (fun hg bB=>(ao (.of rfl) ae)) rfl<|aA rfl rfl inferInstance (fun hg bB=>(ag (.bI bB rfl) (At.lit .here rfl))) rfl<|dC rfl rfl rfl rfl<|aA rfl rfl inferInstance (fun hg bB=>(dV (.bI bB rfl))) rfl<|ab (cP (.of rfl) (.of rfl) (.of rfl) rfl) rfl<|Ja rfl<|Jn<|Je<|JT ?_)
  rfl
 | true =>
  have hB:sO r v L x=(!L.contains x.to&&!jq r.po v x.nm):=by unfold sO;rw [kz];rfl
  rw [hB]
  refine ai bL rfl (fun w' aB=>kz ▸ vC x.fr (h.keeps aB.keeps) (ei f1 rfl (by simp) aB.keeps)) ?_
  (refine Jv rfl<|JK rfl rfl<|ab (ag (.of rfl) (At.base f3 rfl)) rfl<|JK rfl rfl<|bP rfl rfl ae<|JK rfl rfl<|JL rfl .here rfl<|JK rfl rfl ?_)
  cases j6:L.contains x.to with
  | true =>
   with_reducible apply ai
   case hr=>exact bL
   case hd=>rfl
   case hc=>
    intro w' aB
    have q:=vB x.to (h.keeps aB.keeps) (ei f1 rfl (by simp) aB.keeps) (ei f2 rfl (by simp) aB.keeps)
    rw [j6] at q
    exact q
   (refine ab (cP (.of rfl) (.of rfl) (.of rfl) rfl) rfl<|Jv rfl<|aA rfl rfl inferInstance (fun hg bB=>(jt (.of rfl) (eF.base j7 rfl) rfl)) rfl<|aA rfl rfl inferInstance (fun hg bB=>(ag (.of rfl) (At.base f6 rfl))) rfl<|aA rfl rfl inferInstance (fun hg bB=>(ao (.of rfl) ae)) rfl<|aA rfl rfl inferInstance (fun hg bB=>(ag (.bI bB rfl) (At.lit .here rfl))) rfl<|dC rfl rfl rfl rfl<|aA rfl rfl inferInstance (fun hg bB=>(dV (.bI bB rfl))) rfl<|ab (cP (.of rfl) (.of rfl) (.of rfl) rfl) rfl<|Ja rfl<|Jn<|Je<|JT ?_)
   rfl
  | false =>
   with_reducible apply ai
   case hr=>exact bL
   case hd=>rfl
   case hc=>
    intro w' aB
    have q:=vB x.to (h.keeps aB.keeps) (ei f1 rfl (by simp) aB.keeps) (ei f2 rfl (by simp) aB.keeps)
    rw [j6] at q
    exact q
   (refine ab (eM (.of rfl) (.of rfl) (.of rfl) rfl) rfl<|Jv rfl<|JK rfl rfl<|ab (gS (eF.base j7 rfl)) rfl<|JK rfl rfl<|ab (ag (.of rfl) (At.base f6 rfl)) rfl<|JK rfl rfl<|bP rfl rfl ae<|JK rfl rfl<|JL rfl .here rfl<|JK rfl rfl ?_)
   cases hb:jq r.po v x.nm with
   | true =>
    with_reducible apply ai
    case hr=>exact eK
    case hd=>rfl
    case hc=>
     intro w' aB
     have q:=qx v x.nm (hr.keeps aB.keeps)
     rw [hb] at q
     exact q
    (refine JK rfl rfl<|JH rfl<|ab (cP (.of rfl) (.of rfl) (.of rfl) rfl) rfl<|Ja rfl<|Jn<|Je<|JT ?_)
    rfl
   | false =>
    with_reducible apply ai
    case hr=>exact eK
    case hd=>rfl
    case hc=>
     intro w' aB
     have q:=qx v x.nm (hr.keeps aB.keeps)
     rw [hb] at q
     exact q
    (refine JK rfl rfl<|JH rfl<|ab (eM (.of rfl) (.of rfl) (.of rfl) rfl) rfl<|Ja rfl<|Jn<|Je<|JT ?_)
    rfl
theorem bC {α:Type} {l:List Oper} {i:Nat} {v:α}:nw l i (fun _=>v):=fun _ _ _=>rfl
def BK (L:List Int) (k:Nat):Int:=if k=0 then -1 else L.getD (k-1) 0
theorem DG {L:List Int} {k:Nat} (h:k<L.length):BK L (k+1)=L[k]:=by
 unfold BK;rw [if_neg (by omega),ZaG,Zk,Zc h];rfl
def Tc (r:Ro) (L:List Int) (k:Nat):Int:=(L[k]?.map fun x=>aV [eV r x,bW (decide (x≤BK L k)) 11]).getD 0
theorem Sp {r:Ro} {L:List Int} {k:Nat} (h:k<L.length):Tc r L k=aV [eV r L[k],bW (decide (L[k]≤BK L k)) 11]:=by
 unfold Tc;rw [Zc h];rfl
def WJ (r:Ro) (v:Int) (so de:ByteArray) (L:List Int):Int:=aV [pQ r v so de,bW (decide ((4:Int)<(L.length:Nat))) 5]
def Ta (r:Ro) (L:List Int):Int:=iy (Tc r L) L.length
def S9 (r:Ro) (v:Int) (so de:ByteArray) (L:List Int):Bool:=r.ti.any (sO r v L)||(gy r v so r.ti.length).any (fun x=>!L.contains x)||L.contains (nM r de)
def WI (r:Ro) (v:Int) (so de:ByteArray) (L:List Int):Int:=if WJ r v so de L≠0 then WJ r v so de L else if Ta r L≠0 then Ta r L else bW (S9 r v so de L) 19
set_option maxHeartbeats 2000000 in
theorem El {r:Ro} {s d t p cv:Value} (v:Int) (so de:ByteArray) {L:List Int} {w:World} (h:RR w r s d t p) (cI:lz r) (hw:Rd w cv 1 (ints L)) :
  aj Tryz.prog 37 [RA r s d t p,.int .i64 v,.string so,.string de,cv] w (.int .i64 (WI r v so de L)):=by
 have h1:=Rd.one h.sr
 have h2:=Rd.one h.de
 have h3:=Rd.one h.ti
 have h4:=Rd.one h.po
 have AF:=hw
 obtain ⟨aw,cw,bw,ow,rfl,Pg,BV,U6,Kn⟩:=hw
 rw [cY] at *
 unfold maxLen at BV
 have hcw:∀ w',aH [] w w'→aj Tryz.prog 151 [.agg #[.int .i64 r.lv,.int .i64 r.ma,s,d,t,p],.int .i64 v,.string so,.string de] w' (.int .i64 (pQ r v so de)):=fun w' hk=>qv v so de (h.keeps hk) cI
 unfold RA
 refine ah Tryz.func37 rfl rfl ?_
 refine Jr<|Jy rfl rfl fun _ _=>Jy rfl rfl fun _ _=>Jy rfl rfl fun _ _=>Ja rfl<|Jn<|Jq<|Jq ?_
 with_reducible refine cQ 10 (by kernel_rfl) ?_
 (refine an (cL bT) rfl<|an (gT (.there .here)) rfl<|an kA rfl<|an kA rfl<|aT vT rfl (fun w' aB=>(hcw w' (Mem.keeps aB)))<|an (gT .here) rfl<|an (bD (.of rfl)) rfl<|an (iK (.of rfl) (.of rfl)) rfl<|aT bd rfl (fun w' aB=>(dU _ 5 w'))<|ek (aD (.cons (.of rfl) (.cons (.of rfl) .nil)) rfl rfl rfl rfl) rfl rfl ?_)
 with_reducible refine dp rfl fun bq mN=>?_
 (refine ai bL rfl (fun w' aB=>(dN (Mem.dh aB .here rfl rfl) (bU.cons (bU.cons bU.nil))))<|Ja rfl<|Ji<|Jv rfl<|JD rfl<|Jn<|fP rfl (fun ar=>?_) fun ar=>?_;refine Jr<|Jv rfl<|Ja rfl<|Jn<|Ju<|JT ?_;rotate_left;refine Jk<|Jr<|Ja rfl<|Jn<|Jq<|Jr<|JL rfl (.there .here) rfl<|JI rfl<|Jv rfl<|Jn<|J0 ?_;rotate_right)
 ·have e1:WI r v so de L=WJ r v so de L:=if_pos ar
  rw [e1];rfl
 have Fb:WJ r v so de L=0:=Zo.1 ar
 have hX:WI r v so de L=if Ta r L≠0 then Ta r L else bW (S9 r v so de L) 19:=if_neg ar
 clear ar
 obtain ⟨eG,hv,r5,fH⟩:=yE (cq.1 Fb _ Zt)
 have h6:L.length≤4:=by
  have:=(bK (by decide)).1 (cq.1 Fb (bW (decide ((4:Int)<(L.length:Nat))) 5) (by simp))
  simp only [decide_eq_false_iff_not] at this
  omega
 have ht6:=eG.len.2.2
 rename_i b5 NQ b6 hb6 b9 YF
 refine aX (fun k:Nat=>k≤L.length∧∀ i,i<k→Tc r L i=0) (fun k=>[(35,.int .i64 (k:Nat)),(34,.int .i64 (L.length:Nat)),(33,.slice aw L.length cw),(12,.int .i64 (BK L k)),(9,.pointer (some ⟨b9,0,none⟩)),(6,.pointer (some ⟨b6,0,none⟩)),(5,.pointer (some ⟨b5,0,none⟩)),(2,.string so),(3,.string de)])
  (fun k=>[bG b9 (.cells #[.slice aw L.length cw] 49 (0,0)),bG b6 (.cells #[.int .i64 v] 3 (0,0)),JP b5 r s d t p]) (fun k=>L.length-k) ?_ ?_
 ·apply aI 0 ⟨Zi _,fun i hi=>by omega⟩
  case hs1=>exact cd
  case ht=>(try simp only [Ze,Zf,Za]);exact .cons (.there .here) (.cons (.there .here) (.cons (.there .here) .nil))
 rintro k ⟨hk,hf⟩
 by_cases aK:k<L.length
 ·have Kr:=U6 (jy aK)
  have c0:w.cell? ⟨bw,ow+k*1,none⟩=some (.int .i64 L[k]):=(Kn k _ (hP aK)).2 0 _ rfl
  have jd:=Sp (r:=r) aK
  have hhs:∀ w',aH [] w w'→aj Tryz.prog 136 [.agg #[.int .i64 r.lv,.int .i64 r.ma,s,d,t,p],.int .i64 L[k]] w' (.int .i64 (eV r L[k])):=fun w' hk=>Fa (s:=s) (d:=d) (t:=t) (p:=p) L[k] h
  (refine Jr<|JA rfl<|Jn<|Jq<|Jd rfl fun ar=>Jk<|Jq<|J0<|Jr<|ab (az (.of rfl) (.of rfl) Kr (by omega) ar bj) rfl<|ab (ag (.of rfl) (At.base c0 rfl)) rfl<|Ja rfl<|Jn<|Jq<|Jr<|ab (cL bT) rfl<|Jv rfl<|ai bd rfl (fun w' aB=>(hhs w' (Mem.keeps aB)))<|Jv rfl<|Jv rfl<|JF rfl<|ai bd rfl (fun w' aB=>(dU _ 11 w'))<|bo (aD (.cons (.of rfl) (.cons (.of rfl) .nil)) rfl rfl rfl rfl) rfl fun _ _=>ai bL rfl (fun w' aB=>(dN (Mem.dh aB .here rfl rfl) (bU.cons (bU.cons bU.nil))))<|Ja rfl<|Ji<|Jv rfl<|JD rfl<|Jn<|fP rfl (fun ar=>?_) fun ar=>?_;refine Jr<|Jv rfl<|Ja rfl<|Jn<|Ju<|Jm<|Jh<|Jh<|Jm<|Jh<|JT ?_;rotate_left;refine Jk<|Jg<|Jv rfl<|Ja rfl<|Jx<|Jj<|Jt<|Jg<|JB rfl (by omega)<|Jv rfl<|Jn ?_;rotate_right)
  ·rw [← jd] at ar ⊢
   have hB:Ta r L=Tc r L k:=ep hf aK ar
   rw [← hB] at ar ⊢
   rw [hX,if_pos ar]
  have hz:Tc r L k=0:=by rw [jd];exact Zo.1 ar
  have DM:=DG aK
  apply aJ (k+1) ⟨by omega,fun i hi=>by
   by_cases e:i=k
   ·rw [e];exact hz
   ·exact hf i (by omega)⟩ (by omega)
  case hs1=>rw [DM];exact .cons rfl (.cons rfl (.cons rfl (.cons rfl (.cons rfl (.cons rfl (.cons rfl (.cons rfl (.cons rfl .nil))))))))
  case ht=>exact lU
 ·obtain rfl:k=L.length:=by omega
  have Vj:Ta r L=0:=dj.2 hf
  rw [hX,if_neg (by rw [Vj];decide)]
  (refine Jr<|JA rfl<|Jn<|Jq<|Jc rfl fun ar=>Jp<|Jl<|Jo<|Jt<|Jr<|ab (bA .nil (.cons (.of rfl) .nil)) rfl<|Jz rfl rfl fun _ _=>aq (.of rfl) (.of rfl) .here rfl rfl (eE rfl) (bF rfl) ak<|Ji<|ab (bA .nil (.cons (.of rfl) .nil)) rfl<|Jz rfl rfl fun _ _=>aq (.of rfl) (.of rfl) .here rfl rfl (eE rfl) (bF rfl) ak<|Ji<|bP rfl rfl ae<|JL rfl dO rfl<|ab (bA .nil (.cons (.of rfl) (.cons (.of rfl) (.cons (.of rfl) (.cons (.of rfl) .nil))))) rfl ?_)
  rename_i He afy b17 afx
  with_reducible apply ai
  case hr=>exact bd
  case hd=>rfl
  case hc=>
   intro w' aB
   have hR:=h.keeps aB.keeps
   have f9:w'.cell? ⟨b9,0,none⟩=some (.slice aw L.length cw):=At.lit bT rfl w' aB
   have f16:w'.cell? ⟨He,0,none⟩=some (.func (.func 157) #[] #[.pointer (some ⟨b9,0,none⟩)]):=At.lit (by exact Take.there .here) rfl w' aB
   have f17:w'.cell? ⟨b17,0,none⟩=some (.func (.func 158) #[] #[.pointer (some ⟨He,0,none⟩)]):=At.lit (by exact .here) rfl w' aB
   have f6:w'.cell? ⟨b6,0,none⟩=some (.int .i64 v):=At.lit c6 rfl w' aB
   have hA:BR w' b5 [.int .i64 r.lv,.int .i64 r.ma,s,d,t,p]:=BR.of aB dO
   exact zX (f:=160) (p:=sO r v L) (first:=[]) (cap:=[.pointer (some ⟨He,0,none⟩),.pointer (some ⟨b17,0,none⟩),.pointer (some ⟨b5,0,none⟩),.pointer (some ⟨b6,0,none⟩)]) hR.ti (fun x hx w2 eH=>Sm v x (hR.keeps eH) (AF.keeps (aB.keeps.trans eH)) (cn f9 rfl eH) (cn f16 rfl eH) (cn f17 rfl eH) (hA.keeps eH) (cn f6 rfl eH))
  refine Ja rfl<|Jn<|Jq ?_
  cases v8:r.ti.any (sO r v L) with
  | true =>
   have hC:S9 r v so de L=true:=by unfold S9;rw [v8];rfl
   rw [hC]
   with_reducible refine dK 23 (by kernel_rfl) ?_
   (refine au (fun β=>(a7 (.of rfl))) dz rfl<|au (fun β=>(a7 (.of rfl))) dz rfl<|dG rfl (fun _=>rfl) (Or.inr rfl) rfl<|dG rfl (fun _=>rfl) (Or.inr rfl) rfl<|dG rfl (fun _=>rfl) (Or.inr rfl) rfl<|dG rfl (fun _=>rfl) (Or.inr rfl) rfl<|dG rfl (fun _=>rfl) (Or.inr rfl) rfl<|dG rfl (fun _=>rfl) (Or.inr rfl) rfl<|au (fun β=>(eM (.of rfl) (.of rfl) (.of rfl) rfl)) dz rfl<|au (fun β=>(a7 (.of rfl))) dz rfl<|dG rfl (fun _=>rfl) (Or.inr rfl) rfl<|dG rfl (fun _=>rfl) (Or.inr rfl) rfl<|dG rfl (fun _=>rfl) (Or.inr rfl) rfl<|dG rfl (fun _=>rfl) (Or.inr rfl) rfl<|dG rfl (fun _=>rfl) (Or.inr rfl) rfl<|dG rfl (fun _=>rfl) (Or.inr rfl) rfl<|dG rfl (fun _=>rfl) (Or.inr rfl) rfl<|dG rfl (fun _=>rfl) (Or.inr rfl) rfl<|dG rfl (fun _=>rfl) (Or.inr rfl) rfl<|dG rfl (fun _=>rfl) (Or.inr rfl) rfl<|au (fun β=>(eM (.of rfl) (.of rfl) (.of rfl) rfl)) dz rfl ?_)
   dsimp only [Nat.zero_add,Nat.reduceAdd]
   with_reducible apply cZ (B:=[]) (F:=fun _=>.int .i64 (bW true 19)) (args:=fun _=>[.bool true,.int .i64 19])
   case hB=>rfl
   case hr=>exact fun β=>aY (.of rfl) (.cons (.of rfl) (.cons (.of rfl) .nil)) inferInstance rfl
   case hi=>exact bC
   case hd=>rfl
   case hc=>exact fun β w' hb=>dU _ _ _
   refine au (fun β=>(cA (.of rfl))) dz rfl ?_
   refine fh fun β=>?_
   dsimp only [eu,Za,Zb,List.append_eq,Nat.reduceAdd]
   with_reducible refine cH (by kernel_rfl) ?_
   refine Jt<|Je<|JT ?_
   rfl
  | false =>
   have hC:S9 r v so de L=((gy r v so r.ti.length).any (fun x=>!L.contains x)||L.contains (nM r de)):=by unfold S9;rw [v8];rfl
   rw [hC]
   obtain ⟨j0,zS⟩:∃ i:Nat,bE (cy r) de=(i:Nat):=⟨(bE (cy r) de).toNat,by have:=eC fH;omega⟩
   have BZ:j0<r.de.length:=by
    obtain ⟨hl,_⟩:=fE (l:=cy r) (s:=de) (by omega)
    rw [zS,ZG] at hl
    unfold cy at hl;rwa [Zd] at hl
   have UY:nM r de=(r.de[j0]).mx:=by unfold nM;rw [zS,ZG,Zk,Zc BZ];rfl
   have NB:∀ w',aH [] w w'→bh Tryz.prog 152 [.agg #[.int .i64 r.lv,.int .i64 r.ma,s,d,t,p],.int .i64 v,.string so] w' [] (fun _:Value=>True) id (fun x=>[row 3 1 x (gy r v so r.ti.length).length ((gy r v so r.ti.length).map (Value.int .i64))]):=fun w' hk=>EI (s:=s) (d:=d) (t:=t) (p:=p) v so (h.keeps hk) (by omega) r5
   have wI:∀ w',aH [] w w'→aj Tryz.prog 155 [.agg #[.int .i64 r.lv,.int .i64 r.ma,s,d,t,p],.string de] w' (.int .i64 (j0:Nat)):=fun w' hk=>zS ▸ fM de (h.keeps hk)
   generalize gy r v so r.ti.length=R0 at NB ⊢
   cases Xz:R0.any (fun x=>!L.contains x) with
   | true =>
    rw [Bool.true_or]
    with_reducible refine dK 23 (by kernel_rfl) ?_
    (refine au (fun β=>(a7 (.of rfl))) dz rfl<|au (fun β=>(a7 (.of rfl))) dz rfl<|c8 rfl (fun _=>rfl)<|au (fun β=>(bS (.of rfl) dO ak (by rfl))) dz rfl<|c8 rfl (fun _=>rfl)<|au (fun β=>(ag (.of rfl) (At.lit c6 rfl))) dz rfl<|c8 rfl (fun _=>rfl)<|au (fun β=>(a7 (.of rfl))) dz rfl ?_)
    dsimp only [Nat.zero_add,Nat.reduceAdd]
    refine c8 rfl (fun _=>rfl) ?_
    with_reducible apply dH (ι:=Value) (Φ:=fun _=>True) (val:=id) (own:=fun x=>[row 3 1 x R0.length (R0.map (Value.int .i64))]) (g:=id) (B:=[]) (args:=fun _=>[.agg #[.int .i64 r.lv,.int .i64 r.ma,s,d,t,p],.int .i64 v,.string so])
    case hg=>exact fun x=>⟨x,rfl⟩
    case hB=>rfl
    case hr=>exact fun β=>aY (.of rfl) (.cons (.of rfl) (.cons (.of rfl) (.cons (.of rfl) .nil))) inferInstance rfl
    case hd=>rfl
    case hc=>exact fun β w' hb=>NB w' hb.mem.keeps
    dsimp only [id_eq,Nat.reduceAdd]
    (refine c8 rfl (fun _=>rfl)<|au (fun β=>(ag (.of rfl) (At.lit .here rfl))) dz rfl ?_)
    dsimp only [Nat.zero_add,Nat.reduceAdd]
    refine c8 rfl (fun _=>rfl) ?_
    with_reducible apply cZ (B:=[5]) (F:=fun _=>.bool true) (args:=fun β=>[β 5,.func (.func 158) #[] #[.pointer (some ⟨He,0,none⟩)]])
    case hB=>first | rfl | kernel_rfl
    case hr=>exact fun β=>aY (.of rfl) (.cons (.of rfl) (.cons (.of rfl) .nil)) inferInstance rfl
    case hi=>exact bC
    case hd=>rfl
    case hc=>
     intro β w' hb
     have m5:=hb.at 5 Zt (s:=⟨fun β=>β 5,fun β=>[row 3 1 (β 5) R0.length (R0.map (Value.int .i64))]⟩) (by kernel_rfl)
     dsimp only [Zb,Za] at m5
     have s1:Rd w' (β 5) 1 (ints R0):=kK m5 (by exact .here) rfl
     have f9:w'.cell? ⟨b9,0,none⟩=some (.slice aw L.length cw):=At.lit c6 rfl w' m5
     have f16:w'.cell? ⟨He,0,none⟩=some (.func (.func 157) #[] #[.pointer (some ⟨b9,0,none⟩)]):=At.lit bT rfl w' m5
     have q:=vp (f:=158) (p:=fun x=>!L.contains x) (first:=[]) (cap:=[.pointer (some ⟨He,0,none⟩)]) s1 (fun x hx w2 eH=>vB x (AF.keeps (hb.mem.keeps.trans eH)) (cn f9 rfl eH) (cn f16 rfl eH))
     rw [Xz] at q
     exact q
    (refine au (fun β=>(eM (.of rfl) (.of rfl) (.of rfl) rfl)) dz rfl<|au (fun β=>(a7 (.of rfl))) dz rfl<|dG rfl (fun _=>rfl) (Or.inr rfl) rfl<|dG rfl (fun _=>rfl) (Or.inr rfl) rfl<|dG rfl (fun _=>rfl) (Or.inr rfl) rfl<|dG rfl (fun _=>rfl) (Or.inr rfl) rfl<|dG rfl (fun _=>rfl) (Or.inr rfl) rfl<|dG rfl (fun _=>rfl) (Or.inr rfl) rfl<|dG rfl (fun _=>rfl) (Or.inr rfl) rfl<|dG rfl (fun _=>rfl) (Or.inr rfl) rfl<|dG rfl (fun _=>rfl) (Or.inr rfl) rfl<|dG rfl (fun _=>rfl) (Or.inr rfl) rfl<|au (fun β=>(eM (.of rfl) (.of rfl) (.of rfl) rfl)) dz rfl ?_)
    dsimp only [Nat.zero_add,Nat.reduceAdd]
    with_reducible apply cZ (B:=[]) (F:=fun _=>.int .i64 (bW true 19)) (args:=fun _=>[.bool true,.int .i64 19])
    case hB=>rfl
    case hr=>exact fun β=>aY (.of rfl) (.cons (.of rfl) (.cons (.of rfl) .nil)) inferInstance rfl
    case hi=>exact bC
    case hd=>rfl
    case hc=>exact fun β w' hb=>dU _ _ _
    refine au (fun β=>(cA (.of rfl))) dz rfl ?_
    refine fh fun β=>?_
    dsimp only [eu,Za,Zb,List.append_eq,Nat.reduceAdd]
    with_reducible refine cH (by kernel_rfl) ?_
    refine Jt<|Je<|JT ?_
    rfl
   | false =>
    rw [Bool.false_or]
    have mh:=h.de
    obtain ⟨a3,sq,b3,o3,rfl,nr,gB,tw,qk⟩:=mh
    rw [cg] at *
    unfold maxLen at gB
    have GH:=tw (gJ BZ)
    have kl:=(qk j0 _ (fj BZ)).2
    unfold De.cells at kl
    have wJ:=kl 1 _ rfl
    rw [← UY] at wJ
    cases Wq:L.contains (nM r de) with
    | true =>
     with_reducible refine dK 23 (by kernel_rfl) ?_
     (refine au (fun β=>(a7 (.of rfl))) dz rfl<|au (fun β=>(a7 (.of rfl))) dz rfl<|c8 rfl (fun _=>rfl)<|au (fun β=>(bS (.of rfl) dO ak (by rfl))) dz rfl<|c8 rfl (fun _=>rfl)<|au (fun β=>(ag (.of rfl) (At.lit c6 rfl))) dz rfl<|c8 rfl (fun _=>rfl)<|au (fun β=>(a7 (.of rfl))) dz rfl ?_)
     dsimp only [Nat.zero_add,Nat.reduceAdd]
     refine c8 rfl (fun _=>rfl) ?_
     with_reducible apply dH (ι:=Value) (Φ:=fun _=>True) (val:=id) (own:=fun x=>[row 3 1 x R0.length (R0.map (Value.int .i64))]) (g:=id) (B:=[]) (args:=fun _=>[.agg #[.int .i64 r.lv,.int .i64 r.ma,s,.slice a3 r.de.length sq,t,p],.int .i64 v,.string so])
     case hg=>exact fun x=>⟨x,rfl⟩
     case hB=>rfl
     case hr=>exact fun β=>aY (.of rfl) (.cons (.of rfl) (.cons (.of rfl) (.cons (.of rfl) .nil))) inferInstance rfl
     case hd=>rfl
     case hc=>exact fun β w' hb=>NB w' hb.mem.keeps
     dsimp only [id_eq,Nat.reduceAdd]
     (refine c8 rfl (fun _=>rfl)<|au (fun β=>(ag (.of rfl) (At.lit .here rfl))) dz rfl ?_)
     dsimp only [Nat.zero_add,Nat.reduceAdd]
     refine c8 rfl (fun _=>rfl) ?_
     with_reducible apply cZ (B:=[5]) (F:=fun _=>.bool false) (args:=fun β=>[β 5,.func (.func 158) #[] #[.pointer (some ⟨He,0,none⟩)]])
     case hB=>first | rfl | kernel_rfl
     case hr=>exact fun β=>aY (.of rfl) (.cons (.of rfl) (.cons (.of rfl) .nil)) inferInstance rfl
     case hi=>exact bC
     case hd=>rfl
     case hc=>
      intro β w' hb
      have m5:=hb.at 5 Zt (s:=⟨fun β=>β 5,fun β=>[row 3 1 (β 5) R0.length (R0.map (Value.int .i64))]⟩) (by kernel_rfl)
      dsimp only [Zb,Za] at m5
      have s1:Rd w' (β 5) 1 (ints R0):=kK m5 (by exact .here) rfl
      have f9:w'.cell? ⟨b9,0,none⟩=some (.slice aw L.length cw):=At.lit c6 rfl w' m5
      have f16:w'.cell? ⟨He,0,none⟩=some (.func (.func 157) #[] #[.pointer (some ⟨b9,0,none⟩)]):=At.lit bT rfl w' m5
      have q:=vp (f:=158) (p:=fun x=>!L.contains x) (first:=[]) (cap:=[.pointer (some ⟨He,0,none⟩)]) s1 (fun x hx w2 eH=>vB x (AF.keeps (hb.mem.keeps.trans eH)) (cn f9 rfl eH) (cn f16 rfl eH))
      rw [Xz] at q
      exact q
     (refine au (fun β=>(cP (.of rfl) (.of rfl) (.of rfl) rfl)) dz rfl<|au (fun β=>(a7 (.of rfl))) dz rfl<|c8 rfl (fun _=>rfl)<|au (fun β=>(ag (.of rfl) (At.lit (.there .here) rfl))) dz rfl<|c8 rfl (fun _=>rfl)<|au (fun β=>(ao (.of rfl) ae)) dz rfl<|c8 rfl (fun _=>rfl)<|au (fun β=>(ag (.of rfl) (At.lit dO rfl))) dz rfl<|c8 rfl (fun _=>rfl)<|au (fun β=>(bS (.of rfl) dO ak (by rfl))) dz rfl<|c8 rfl (fun _=>rfl)<|au (fun β=>(a7 (.of rfl))) dz rfl ?_)
     dsimp only [Nat.zero_add,Nat.reduceAdd]
     refine c8 rfl (fun _=>rfl) ?_
     with_reducible apply cZ (B:=[]) (F:=fun _=>.int .i64 (j0:Nat)) (args:=fun _=>[.agg #[.int .i64 r.lv,.int .i64 r.ma,s,.slice a3 r.de.length sq,t,p],.string de])
     case hB=>rfl
     case hr=>exact fun β=>aY (.of rfl) (.cons (.of rfl) (.cons (.of rfl) .nil)) inferInstance rfl
     case hi=>exact bC
     case hd=>rfl
     case hc=>exact fun β w' hb=>wI w' hb.mem.keeps
     (refine c8 rfl (fun _=>rfl)<|au (fun β=>(az (.of rfl) (.of rfl) GH (by omega) (by omega) bj)) dz rfl<|c8 rfl (fun _=>rfl)<|au (fun β=>(ao (.of rfl) ae)) dz rfl<|c8 rfl (fun _=>rfl)<|au (fun β=>(ag (.of rfl) (At.base wJ rfl))) dz rfl ?_)
     dsimp only [Nat.zero_add,Nat.reduceAdd]
     refine c8 rfl (fun _=>rfl) ?_
     with_reducible apply cZ (B:=[]) (F:=fun _=>.bool true) (args:=fun _=>[.int .i64 (nM r de),.pointer (some ⟨b9,0,none⟩)])
     case hB=>rfl
     case hr=>exact fun β=>aY (Is.of rfl) (G7.cons (Is.of rfl) G7.nil) inferInstance dX
     case hi=>exact bC
     case hd=>rfl
     case hc=>
      intro β w' hb
      have m5:=hb.mem
      have f9:w'.cell? ⟨b9,0,none⟩=some (.slice aw L.length cw):=At.lit bT rfl w' m5
      have q:=vC (nM r de) (AF.keeps hb.mem.keeps) f9
      rw [Wq] at q
      exact q
     refine au (fun β=>(eM (.of rfl) (.of rfl) (.of rfl) rfl)) dz rfl ?_
     dsimp only [Nat.zero_add,Nat.reduceAdd]
     with_reducible apply cZ (B:=[]) (F:=fun _=>.int .i64 (bW true 19)) (args:=fun _=>[.bool true,.int .i64 19])
     case hB=>rfl
     case hr=>exact fun β=>aY (.of rfl) (.cons (.of rfl) (.cons (.of rfl) .nil)) inferInstance rfl
     case hi=>exact bC
     case hd=>rfl
     case hc=>exact fun β w' hb=>dU _ _ _
     refine au (fun β=>(cA (.of rfl))) dz rfl ?_
     refine fh fun β=>?_
     dsimp only [eu,Za,Zb,List.append_eq,Nat.reduceAdd]
     with_reducible refine cH (by kernel_rfl) ?_
     refine Jt<|Je<|JT ?_
     rfl
    | false =>
     with_reducible refine dK 23 (by kernel_rfl) ?_
     (refine au (fun β=>(a7 (.of rfl))) dz rfl<|au (fun β=>(a7 (.of rfl))) dz rfl<|c8 rfl (fun _=>rfl)<|au (fun β=>(bS (.of rfl) dO ak (by rfl))) dz rfl<|c8 rfl (fun _=>rfl)<|au (fun β=>(ag (.of rfl) (At.lit c6 rfl))) dz rfl<|c8 rfl (fun _=>rfl)<|au (fun β=>(a7 (.of rfl))) dz rfl ?_)
     dsimp only [Nat.zero_add,Nat.reduceAdd]
     refine c8 rfl (fun _=>rfl) ?_
     with_reducible apply dH (ι:=Value) (Φ:=fun _=>True) (val:=id) (own:=fun x=>[row 3 1 x R0.length (R0.map (Value.int .i64))]) (g:=id) (B:=[]) (args:=fun _=>[.agg #[.int .i64 r.lv,.int .i64 r.ma,s,.slice a3 r.de.length sq,t,p],.int .i64 v,.string so])
     case hg=>exact fun x=>⟨x,rfl⟩
     case hB=>rfl
     case hr=>exact fun β=>aY (.of rfl) (.cons (.of rfl) (.cons (.of rfl) (.cons (.of rfl) .nil))) inferInstance rfl
     case hd=>rfl
     case hc=>exact fun β w' hb=>NB w' hb.mem.keeps
     dsimp only [id_eq,Nat.reduceAdd]
     (refine c8 rfl (fun _=>rfl)<|au (fun β=>(ag (.of rfl) (At.lit .here rfl))) dz rfl ?_)
     dsimp only [Nat.zero_add,Nat.reduceAdd]
     refine c8 rfl (fun _=>rfl) ?_
     with_reducible apply cZ (B:=[5]) (F:=fun _=>.bool false) (args:=fun β=>[β 5,.func (.func 158) #[] #[.pointer (some ⟨He,0,none⟩)]])
     case hB=>first | rfl | kernel_rfl
     case hr=>exact fun β=>aY (.of rfl) (.cons (.of rfl) (.cons (.of rfl) .nil)) inferInstance rfl
     case hi=>exact bC
     case hd=>rfl
     case hc=>
      intro β w' hb
      have m5:=hb.at 5 Zt (s:=⟨fun β=>β 5,fun β=>[row 3 1 (β 5) R0.length (R0.map (Value.int .i64))]⟩) (by kernel_rfl)
      dsimp only [Zb,Za] at m5
      have s1:Rd w' (β 5) 1 (ints R0):=kK m5 (by exact .here) rfl
      have f9:w'.cell? ⟨b9,0,none⟩=some (.slice aw L.length cw):=At.lit c6 rfl w' m5
      have f16:w'.cell? ⟨He,0,none⟩=some (.func (.func 157) #[] #[.pointer (some ⟨b9,0,none⟩)]):=At.lit bT rfl w' m5
      have q:=vp (f:=158) (p:=fun x=>!L.contains x) (first:=[]) (cap:=[.pointer (some ⟨He,0,none⟩)]) s1 (fun x hx w2 eH=>vB x (AF.keeps (hb.mem.keeps.trans eH)) (cn f9 rfl eH) (cn f16 rfl eH))
      rw [Xz] at q
      exact q
     (refine au (fun β=>(cP (.of rfl) (.of rfl) (.of rfl) rfl)) dz rfl<|au (fun β=>(a7 (.of rfl))) dz rfl<|c8 rfl (fun _=>rfl)<|au (fun β=>(ag (.of rfl) (At.lit (.there .here) rfl))) dz rfl<|c8 rfl (fun _=>rfl)<|au (fun β=>(ao (.of rfl) ae)) dz rfl<|c8 rfl (fun _=>rfl)<|au (fun β=>(ag (.of rfl) (At.lit dO rfl))) dz rfl<|c8 rfl (fun _=>rfl)<|au (fun β=>(bS (.of rfl) dO ak (by rfl))) dz rfl<|c8 rfl (fun _=>rfl)<|au (fun β=>(a7 (.of rfl))) dz rfl ?_)
     dsimp only [Nat.zero_add,Nat.reduceAdd]
     refine c8 rfl (fun _=>rfl) ?_
     with_reducible apply cZ (B:=[]) (F:=fun _=>.int .i64 (j0:Nat)) (args:=fun _=>[.agg #[.int .i64 r.lv,.int .i64 r.ma,s,.slice a3 r.de.length sq,t,p],.string de])
     case hB=>rfl
     case hr=>exact fun β=>aY (.of rfl) (.cons (.of rfl) (.cons (.of rfl) .nil)) inferInstance rfl
     case hi=>exact bC
     case hd=>rfl
     case hc=>exact fun β w' hb=>wI w' hb.mem.keeps
     (refine c8 rfl (fun _=>rfl)<|au (fun β=>(az (.of rfl) (.of rfl) GH (by omega) (by omega) bj)) dz rfl<|c8 rfl (fun _=>rfl)<|au (fun β=>(ao (.of rfl) ae)) dz rfl<|c8 rfl (fun _=>rfl)<|au (fun β=>(ag (.of rfl) (At.base wJ rfl))) dz rfl ?_)
     dsimp only [Nat.zero_add,Nat.reduceAdd]
     refine c8 rfl (fun _=>rfl) ?_
     with_reducible apply cZ (B:=[]) (F:=fun _=>.bool false) (args:=fun _=>[.int .i64 (nM r de),.pointer (some ⟨b9,0,none⟩)])
     case hB=>rfl
     case hr=>exact fun β=>aY (Is.of rfl) (G7.cons (Is.of rfl) G7.nil) inferInstance dX
     case hi=>exact bC
     case hd=>rfl
     case hc=>
      intro β w' hb
      have m5:=hb.mem
      have f9:w'.cell? ⟨b9,0,none⟩=some (.slice aw L.length cw):=At.lit bT rfl w' m5
      have q:=vC (nM r de) (AF.keeps hb.mem.keeps) f9
      rw [Wq] at q
      exact q
     refine au (fun β=>(cP (.of rfl) (.of rfl) (.of rfl) rfl)) dz rfl ?_
     dsimp only [Nat.zero_add,Nat.reduceAdd]
     with_reducible apply cZ (B:=[]) (F:=fun _=>.int .i64 (bW false 19)) (args:=fun _=>[.bool false,.int .i64 19])
     case hB=>rfl
     case hr=>exact fun β=>aY (.of rfl) (.cons (.of rfl) (.cons (.of rfl) .nil)) inferInstance rfl
     case hi=>exact bC
     case hd=>rfl
     case hc=>exact fun β w' hb=>dU _ _ _
     refine au (fun β=>(cA (.of rfl))) dz rfl ?_
     refine fh fun β=>?_
     dsimp only [eu,Za,Zb,List.append_eq,Nat.reduceAdd]
     with_reducible refine cH (by kernel_rfl) ?_
     refine Jt<|Je<|JT ?_
     rfl
structure Tk where
 de:ByteArray
 so:List ByteArray
structure eL where
 tk:Tk
 v:Value
def eL.cells (x:eL):List Value:=[.string x.tk.de,x.v]
def gN (l:List eL):List (List Value):=l.map eL.cells
theorem dw (l:List eL):(gN l).length=l.length:=by simp [gN]
theorem js {l:List eL} {k:Nat} (h:k<l.length):(gN l)[k]? = some (l[k]).cells:=by simp [gN,h]
theorem jJ {l:List eL} {k:Nat} (h:k<l.length):gN l≠[]:=by intro e;have:=congrArg List.length e;rw [dw] at this;simp at this;subst this;simp at h
def sx (w:World) (l:List eL):Prop:=∀ x∈l,Rd w x.v 1 (iI x.tk.so)
theorem sx.keeps {w w':World} {l:List eL} (h:sx w l) (hk:aH [] w w'):sx w' l:=fun x hx=>(h x hx).keeps hk
theorem E5 {lv:Value} {l:List eL} {p:eL→Bool} {f:FuncId} {first cap:List Value} [bM Tryz.prog f] {w:World} (h:Rd w lv 2 (gN l)) (cr:∀ x∈l,∀ w',aH [] w w'→aj Tryz.prog f (first++[.agg x.cells.toArray]++cap) w' (.bool (p x))) :
  aj Tryz.prog 252 [lv,.func (.func f) first.toArray cap.toArray] w (.int .i64 (gP p l)):=by
 obtain ⟨a,cp,b,o,rfl,c7,bQ,ha,hc⟩:=h
 rw [dw] at *
 unfold maxLen at bQ
 refine ah Tryz.func252 rfl rfl ?_
 refine Jr<|Ja rfl<|Jn<|Jq<|Jr<|Jv rfl<|JI rfl<|Jv rfl<|Jn<|J0 ?_
 refine aX (fun k:Nat=>k≤l.length∧∀ i,i<k→(l[i]?.map p).getD false=false) (fun k=>[(8,.int .i64 k),(7,.int .i64 l.length),(0,.slice a l.length cp),(1,.func (.func f) first.toArray cap.toArray)]) (fun _=>[]) (fun k=>l.length-k) ?_ ?_
 ·apply aI 0 ⟨Zi _,fun i h=>by omega⟩
  case hs1=>exact cd
  case ht=>(try simp only [Ze,Zf,Za]);exact .nil
 rintro k ⟨hk,hf⟩
 by_cases aK:k<l.length
 ·have cB:=ha (jJ aK)
  have aC:=(hc k _ (js aK)).2
  have iP:=cr _ (Zj aK)
  have hps:(l[k]?.map p).getD false=p l[k]:=by simp [aK]
  unfold eL.cells at aC iP
  (refine Jr<|JA rfl<|Jn<|Jq<|Jd rfl fun ar=>Jk<|Jq<|J0<|Jr<|Jv rfl<|Ja rfl<|Ji<|Jv rfl<|Jv rfl<|Jv rfl<|ab (fG cB ar) rfl<|ab (gS (eF.base aC rfl)) rfl<|ai bL rfl (fun w' aB=>(iP w' (Mem.keeps aB)))<|Jn<|nF rfl (fun ar=>?_) fun ar=>?_;refine Jr<|Jv rfl<|Ja rfl<|Jn<|Je<|Jm<|Jh<|Jh<|Jm<|Jh<|JT ?_;rotate_left;refine Jw<|Jj<|Jt<|Jg<|JB rfl (by omega)<|Jv rfl<|Jn ?_;rotate_right)
  ·rw [gp hf aK ar]
  ·apply aJ (k+1) ⟨by omega,fun i hi=>by
    by_cases e:i=k
    ·rw [e,hps];exact ar
    ·exact hf i (by omega)⟩ (by omega)
   case hs1=>exact cd
   case ht=>(try simp only [Ze,Zf,Za]);exact .nil
 ·obtain rfl:k=l.length:=by omega
  refine Jr<|JA rfl<|Jn<|Jq<|Jc rfl fun ar=>Jp<|Jl<|Jo<|Jt<|Jr<|Ja rfl<|Jn<|Je<|JT ?_
  rw [fv hf]
theorem NR {lv:Value} {l:List eL} {p:eL→Bool} {f:FuncId} {first cap:List Value} [bM Tryz.prog f] {w:World} (h:Rd w lv 2 (gN l)) (cr:∀ x∈l,∀ w',aH [] w w'→aj Tryz.prog f (first++[.agg x.cells.toArray]++cap) w' (.bool (p x))) :
  aj Tryz.prog 248 [lv,.func (.func f) first.toArray cap.toArray] w (.bool (l.any p)):=by
 have iP:∀ w',aH [] w w'→aj Tryz.prog 252 [lv,.func (.func f) first.toArray cap.toArray] w' (.int .i64 (gP p l)):=fun w' hk=>
  E5 (h.keeps hk) fun x hx w2 eH=>cr x hx w2 (hk.trans eH)
 rw [← j4]
 refine ah Tryz.func248 rfl rfl ?_
 (refine Jr<|Ja rfl<|Ji<|Jv rfl<|Jv rfl<|ai bd rfl (fun w' aB=>(iP w' (Mem.keeps aB)))<|JG rfl<|Ja rfl<|Jn<|Je<|JT ?_)
 rfl
theorem To {x:eL} {y:ByteArray} {b:Nat} {w:World} (f1:w.cell? ⟨b,0,none⟩=some (.string y)):aj Tryz.prog 249 [.agg x.cells.toArray,.pointer (some ⟨b,0,none⟩)] w (.bool (decide (x.tk.de=y))):=by
 unfold eL.cells
 refine ah Tryz.func249 rfl rfl ?_
 (refine Jr<|Jy rfl rfl fun _ _=>Ja rfl<|Ji<|bP rfl rfl ae<|JL rfl .here rfl<|bP rfl rfl ae<|ab (ag (.of rfl) (At.base f1 rfl)) rfl<|ab (dS (.of rfl) (.of rfl)) rfl<|Ja rfl<|Jn<|Je<|JT ?_)
 rfl
theorem uG {P:Program} {c:Cx} {sl:aG} {hs:List a8} {dst:Option Tmp} {ty:TypeId} {pos:String} {af:Array Edge} {g:Option (Nat×Bool)} {t u:TypeId} {x y:Operand} {a b:ByteArray} (hx:Is sl x (.string a)) (hy:Is sl y (.string b)) (e:a≠b) :
  cR P c sl hs ⟨dst,.binOp .neq t x y u,ty,pos,af,g⟩ (.bool true):=by
 have:=fR (P:=P) (c:=c) (hs:=hs) (dst:=dst) (ty:=ty) (pos:=pos) (af:=af) (g:=g) (t:=t) (u:=u) hx hy
 rwa [decide_eq_true e] at this
theorem Bo {P:Program} {c:Cx} {sl:aG} {hs:List a8} {dst:Option Tmp} {ty:TypeId} {pos:String} {af:Array Edge} {g:Option (Nat×Bool)} {t u:TypeId} {x y:Operand} {a b:ByteArray} (hx:Is sl x (.string a)) (hy:Is sl y (.string b)) (e:a=b) :
  cR P c sl hs ⟨dst,.binOp .neq t x y u,ty,pos,af,g⟩ (.bool false):=by
 have:=fR (P:=P) (c:=c) (hs:=hs) (dst:=dst) (ty:=ty) (pos:=pos) (af:=af) (g:=g) (t:=t) (u:=u) hx hy
 rwa [decide_eq_false (not_not_intro e)] at this
def iV (r:Ro) (o:ByteArray):Bool:=decide (o≠⟨#[]⟩)&&decide (o≠⟨#[45]⟩)&&decide (bE (cC r) o<0)
theorem Tp {r:Ro} {s d t p:Value} (o:ByteArray) {b:Nat} {w:World} (hr:RR w r s d t p) (hA:BR w b (RC r s d t p)) :
  aj Tryz.prog 251 [.string o,.pointer (some ⟨b,0,none⟩)] w (.bool (iV r o)):=by
 have h1:=Rd.one hr.sr
 have h2:=Rd.one hr.de
 have h3:=Rd.one hr.ti
 have h4:=Rd.one hr.po
 have j7:∀ (j:Nat) (u:Value),[Value.int .i64 r.lv,.int .i64 r.ma,s,d,t,p][j]? = some u→w.cell? ⟨b,0+j,none⟩=some u:=hA
 refine ah Tryz.func251 rfl rfl ?_
 by_cases Km:o=⟨#[]⟩
 ·have hB:iV r o=false:=by unfold iV;rw [decide_eq_false (not_not_intro Km)];rfl
  rw [hB]
  (refine Jr<|Ja rfl<|Ji<|Jv rfl<|ab (Bo (.of rfl) (.of rfl) Km) rfl<|Jv rfl<|gr rfl rfl rfl rfl<|aA rfl rfl inferInstance (fun hg bB=>(fR (.bI bB rfl) (.of rfl))) rfl<|ab (cP (.of rfl) (.of rfl) (.of rfl) rfl) rfl<|Jv rfl<|aA rfl rfl inferInstance (fun hg bB=>(jt (.of rfl) (eF.base j7 rfl) rfl)) rfl<|gr rfl rfl rfl rfl<|dC rfl rfl rfl rfl<|dC rfl rfl rfl rfl<|ab (cP (.of rfl) (.of rfl) (.of rfl) rfl) rfl<|Ja rfl<|Jn<|Je<|JT ?_)
  rfl
 by_cases RM:o=⟨#[45]⟩
 ·have hB:iV r o=false:=by unfold iV;rw [decide_eq_false (not_not_intro RM),Bool.and_false];rfl
  rw [hB]
  (refine Jr<|Ja rfl<|Ji<|Jv rfl<|ab (uG (.of rfl) (.of rfl) Km) rfl<|Jv rfl<|JK rfl rfl<|Jv rfl<|JK rfl rfl<|ab (Bo (.of rfl) (.of rfl) RM) rfl<|ab (cP (.of rfl) (.of rfl) (.of rfl) rfl) rfl<|Jv rfl<|aA rfl rfl inferInstance (fun hg bB=>(jt (.of rfl) (eF.base j7 rfl) rfl)) rfl<|gr rfl rfl rfl rfl<|dC rfl rfl rfl rfl<|dC rfl rfl rfl rfl<|ab (cP (.of rfl) (.of rfl) (.of rfl) rfl) rfl<|Ja rfl<|Jn<|Je<|JT ?_)
  rfl
 have hB:iV r o=decide (bE (cC r) o<0):=by unfold iV;rw [decide_eq_true Km,decide_eq_true RM];rfl
 rw [hB]
 (refine Jr<|Ja rfl<|Ji<|Jv rfl<|ab (uG (.of rfl) (.of rfl) Km) rfl<|Jv rfl<|JK rfl rfl<|Jv rfl<|JK rfl rfl<|ab (uG (.of rfl) (.of rfl) RM) rfl<|ab (eM (.of rfl) (.of rfl) (.of rfl) rfl) rfl<|Jv rfl<|JK rfl rfl<|ab (gS (eF.base j7 rfl)) rfl<|JK rfl rfl<|Jv rfl<|JK rfl rfl ?_)
 refine ai bd rfl (fun w' aB=>nS o (hr.keeps aB.keeps)) ?_
 refine JK rfl rfl<|JA rfl ?_
 with_reducible apply ab (V:=Value.bool (decide (bE (cC r) o<0)))
 case hr=>
  with_reducible apply k7
  case hx=>exact Is.of rfl
  case hy=>exact Is.of rfl
  case hz=>exact Is.of rfl
  case e=>rfl
 case hd=>rfl
 refine Ja rfl<|Jn<|Je<|JT ?_
 rfl
def bZ (l:List eL):List Tk:=l.map (·.tk)
def wm (r:Ro) (l:List Tk) (k:Nat):Int:=(l[k]?.map fun x=>aV [pb r x.de,bW ((l.take k).any fun y=>decide (y.de=x.de)) 9,bW (decide ((x.so.length:Int)≠r.lv)) 2,bW (x.so.any (iV r)) 10]).getD 0
theorem pR {r:Ro} {l:List Tk} {k:Nat} (h:k<l.length):wm r l k=aV [pb r (l[k]).de,bW ((l.take k).any fun y=>decide (y.de=(l[k]).de)) 9,bW (decide (((l[k]).so.length:Int)≠r.lv)) 2,bW ((l[k]).so.any (iV r)) 10]:=by
 unfold wm;rw [Zc h];rfl
def C4 (l:List Tk):Int:=aV [bW (decide ((l.length:Int)=0)) 12,bW (decide ((8:Int)<(l.length:Nat))) 5]
def tr (r:Ro) (l:List Tk):Int:=if C4 l≠0 then C4 l else iy (wm r l) l.length
set_option maxHeartbeats 2000000 in
theorem rC {r:Ro} {s d t p kv:Value} {l:List eL} {w:World} (h:RR w r s d t p) (hw:Rd w kv 2 (gN l)) (hM:sx w l) :
  aj Tryz.prog 164 [RA r s d t p,kv] w (.int .i64 (tr r (bZ l))):=by
 have h1:=Rd.one h.sr
 have h2:=Rd.one h.de
 have h3:=Rd.one h.ti
 have h4:=Rd.one h.po
 have AF:=hw
 obtain ⟨aw,cw,bw,ow,rfl,Pg,BV,U6,Kn⟩:=hw
 rw [dw] at *
 unfold maxLen at BV
 have nD:(bZ l).length=l.length:=Zd _
 unfold RA
 refine ah Tryz.func164 rfl rfl ?_
 (refine Jr<|Jy rfl rfl fun _ _=>Ja rfl<|Jn<|Jq<|Jr<|Jv rfl<|JI rfl<|JC rfl<|ai bd rfl (fun w' aB=>(dU _ 12 w'))<|Jv rfl<|JI rfl<|JE rfl<|ai bd rfl (fun w' aB=>(dU _ 5 w'))<|bo (aD (.cons (.of rfl) (.cons (.of rfl) .nil)) rfl rfl rfl rfl) rfl fun _ _=>ai bL rfl (fun w' aB=>(dN (Mem.dh aB .here rfl rfl) (bU.cons (bU.cons bU.nil))))<|Ja rfl<|Ji<|Jv rfl<|JD rfl<|Jn<|fP rfl (fun ar=>?_) fun ar=>?_;refine Jr<|Jv rfl<|Ja rfl<|Jn<|Ju<|JT ?_;rotate_left;refine Jk<|Jq<|Jr<|Jv rfl<|JI rfl<|Jv rfl<|Jn<|J0 ?_;rotate_right)
 ·have e1:tr r (bZ l)=C4 (bZ l):=if_pos (by unfold C4;rw [nD];exact ar)
  rw [e1];unfold C4;rw [nD]
 have Fb:C4 (bZ l)=0:=by unfold C4;rw [nD];exact Zo.1 ar
 have hX:tr r (bZ l)=iy (wm r (bZ l)) l.length:=by unfold tr;rw [if_neg (by rw [Fb];decide),nD]
 clear ar
 rename_i b2 sW bq mN
 refine aX (fun k:Nat=>k≤l.length∧∀ i,i<k→wm r (bZ l) i=0) (fun k=>[(26,.int .i64 (k:Nat)),(25,.int .i64 (l.length:Nat)),(24,.slice aw l.length cw),(2,.pointer (some ⟨b2,0,none⟩)),(1,.slice aw l.length cw)])
  (fun k=>[JP b2 r s d t p]) (fun k=>l.length-k) ?_ ?_
 ·apply aI 0 ⟨Zi _,fun i hi=>by omega⟩
  case hs1=>exact cd
  case ht=>(try simp only [Ze,Zf,Za]);exact .cons (.there .here) .nil
 rintro k ⟨hk,hf⟩
 by_cases aK:k<l.length
 ·have Kr:=U6 (jJ aK)
  have aC:=(Kn k _ (js aK)).2
  unfold eL.cells at aC
  have hx:=hM _ (Zj aK)
  have jd:=pR (r:=r) (l:=bZ l) (k:=k) (by omega)
  have hgk:(bZ l)[k]'(by omega)=(l[k]).tk:=Z1 _
  rw [hgk] at jd
  have ve:Rd w (Go.sliced aw 0 (k:Int).toNat cw 2) 2 (gN (l.take k)):=by
   have:=AF.sliced (l:=0) (m:=k) (Zi _) (by omega)
   rw [ZG]
   rwa [List.drop_zero,show (gN l).take k=gN (l.take k) by unfold gN;rw [ZaT]] at this
  have RZ:(l.take k).any (fun y=>decide (y.tk.de=(l[k]).tk.de))=((bZ l).take k).any fun y=>decide (y.de=(l[k]).tk.de):=by
   unfold bZ;rw [← ZaT,List.any_map];rfl
  generalize l[k]=x at aC hx jd RZ ⊢
  obtain ⟨⟨xd,xs⟩,xv⟩:=x
  dsimp only at aC hx jd RZ ⊢
  have QZ:=hx
  obtain ⟨ax,cx,bx,ox,rfl,Pf,BU,YN,Yv⟩:=hx
  rw [bV] at *
  unfold maxLen at BU
  have fH:∀ w',aH [] w w'→aj Tryz.prog 112 [.agg #[.int .i64 r.lv,.int .i64 r.ma,s,d,t,p],.string xd] w' (.int .i64 (pb r xd)):=fun w' hk=>ew xd (h.keeps hk)
  (refine Jr<|JA rfl<|Jn<|Jq<|Jd rfl fun ar=>Jk<|Jq<|J0<|Jr<|Jv rfl<|ab (az (.of rfl) (.of rfl) Kr (by omega) ar bj) rfl<|ab (gS (eF.base aC rfl)) rfl<|Jz rfl rfl fun _ _=>Ja rfl<|aq (.of rfl) (.of rfl) .here rfl rfl (fN rfl rfl) (bF rfl) ak<|Ji<|Jv rfl<|Jv rfl<|ab (gY (.of rfl) (.of rfl) (by omega) (by omega)) rfl<|ab (bA .nil (.cons (.of rfl) .nil)) rfl ?_)
  rename_i b7 U5
  with_reducible apply ai
  case hr=>exact bd
  case hd=>rfl
  case hc=>
   intro w' aB
   have f7:w'.cell? ⟨b7,0,none⟩=some (.string xd):=(BR.of (cs:=[.string xd,.slice ax xs.length cx]) aB (by exact .here)) 0 _ rfl
   exact NR (f:=249) (p:=fun y=>decide (y.tk.de=xd)) (first:=[]) (cap:=[.pointer (some ⟨b7,0,none⟩)]) (ve.keeps aB.keeps) (fun y hy w2 eH=>To (cn f7 rfl eH))
  rw [RZ]
  (refine Ja rfl<|Ji<|bP rfl rfl ae<|JL rfl .here rfl<|ab (bA .nil (.cons (.of rfl) .nil)) rfl ?_)
  with_reducible apply ai
  case hr=>exact bd
  case hd=>rfl
  case hc=>
   intro w' aB
   have hR:=h.keeps aB.keeps
   have hA:BR w' b2 [.int .i64 r.lv,.int .i64 r.ma,s,d,t,p]:=BR.of aB (by exact Take.there .here)
   exact Ks (f:=251) (p:=iV r) (first:=[]) (cap:=[.pointer (some ⟨b2,0,none⟩)]) (QZ.keeps aB.keeps) (fun o ho w2 eH=>Tp o (hR.keeps eH) (hA.keeps eH))
  refine Ja rfl<|Jn<|Jq ?_
  with_reducible refine cQ 16 (by kernel_rfl) ?_
  (refine an (cL (.there .here)) rfl<|an kB rfl<|an (gT .here) rfl<|aT bd rfl (fun w' aB=>(fH w' (Mem.keeps aB)))<|an kA rfl<|aT bd rfl (fun w' aB=>(dU _ 9 w'))<|an kB rfl<|an (gT .here) rfl<|an (bD (.of rfl)) rfl<|an kB rfl<|an (gT (.there .here)) rfl<|an (gl (.of rfl) (.of rfl)) rfl<|aT bd rfl (fun w' aB=>(dU _ 2 w'))<|an kA rfl<|aT bd rfl (fun w' aB=>(dU _ 10 w'))<|ek (aD (.cons (.of rfl) (.cons (.of rfl) (.cons (.of rfl) (.cons (.of rfl) .nil)))) rfl rfl rfl rfl) rfl rfl ?_)
  with_reducible refine dp rfl fun b55 YG=>?_
  (refine ai bL rfl (fun w' aB=>(dN (Mem.dh aB .here rfl rfl) (bU.cons (bU.cons (bU.cons (bU.cons bU.nil))))))<|Ja rfl<|Ji<|Jv rfl<|JD rfl<|Jn<|fP rfl (fun ar=>?_) fun ar=>?_;refine Jr<|Jv rfl<|Ja rfl<|Jn<|Je<|Jm<|Jh<|Jh<|Jm<|Jh<|JT ?_;rotate_left;refine Jw<|Jj<|Jt<|Jg<|JB rfl (by omega)<|Jv rfl<|Jn ?_;rotate_right)
  ·rw [← jd] at ar ⊢
   have hB:iy (wm r (bZ l)) l.length=wm r (bZ l) k:=ep hf aK ar
   rw [hX,hB]
  have hz:wm r (bZ l) k=0:=by rw [jd];exact Zo.1 ar
  apply aJ (k+1) ⟨by omega,fun i hi=>by
   by_cases e:i=k
   ·rw [e];exact hz
   ·exact hf i (by omega)⟩ (by omega)
  case hs1=>exact cd
  case ht=>(try simp only [Ze,Zf,Za]);exact .cons bT .nil
 ·obtain rfl:k=l.length:=by omega
  have Vj:iy (wm r (bZ l)) l.length=0:=dj.2 hf
  rw [hX,Vj]
  refine Jr<|JA rfl<|Jn<|Jq<|Jc rfl fun ar=>Jp<|Jl<|Jo<|Jt<|Jr<|Ja rfl<|Jn<|Je<|JT ?_
  rfl
def xR (v:Int) (o:ByteArray) (x:Po):Bool:=decide (x.lv=v)&&decide (x.ou=o)
theorem Tj {x:Po} (v:Int) (o:ByteArray) {b1 b2:Nat} {w:World} (f1:w.cell? ⟨b1,0,none⟩=some (.int .i64 v)) (f2:w.cell? ⟨b2,0,none⟩=some (.string o)) :
  aj Tryz.prog 315 [.agg x.cells.toArray,.pointer (some ⟨b1,0,none⟩),.pointer (some ⟨b2,0,none⟩)] w (.bool (xR v o x)):=by
 unfold Po.cells
 refine ah Tryz.func315 rfl rfl ?_
 (refine Jr<|Jy rfl rfl fun _ _=>Ja rfl<|Ji<|ab (cL .here) rfl<|ab (ag (.of rfl) (At.base f1 rfl)) rfl<|ab (ag (.of rfl) (At.base f2 rfl)) rfl<|bP rfl rfl ae<|JL rfl .here rfl<|ab (aS (.cons (.of rfl) (.cons (.of rfl) (.cons (.of rfl) .nil))) ak) rfl<|ab (tP (.of rfl) (.of rfl) (jQ (eY (eY lP))) rfl) rfl<|Ja rfl<|Jn<|Je<|JT ?_)
 simp [xR]
def RB (b:Nat) (r:Ro) (s d t p:Value):a8:=JP b r s d t p
def PB (p:Value) (l:List Po):a8:=row 188 3 p l.length (gR l)
set_option maxHeartbeats 1000000 in
theorem w9 {r:Ro} {s d t p:Value} {b:Nat} {l:List Po} (v:Int) (o:ByteArray) {w:World} {fp:List Nat} (kU:fp.Nodup) (hs:ch (hp w) [RB b r s d t p,PB p l] fp) (cI:l.length≤1000000) :
  bh Tryz.prog 256 [.pointer (some ⟨b,0,none⟩),.int .i64 v,.string o] w fp (fun _:Value=>True) (fun _=>.tuple #[]) (fun p'=>[RB b r s d t p',PB p' (l.filter fun x=>!xR v o x)]):=by
 unfold RB PB at *
 refine eb Tryz.func256 rfl rfl kU hs ?_
 (refine Jr<|Jy rfl rfl fun _ _=>Jy rfl rfl fun _ _=>Jn<|Jg<|Jv rfl<|Jv rfl<|ab (dP (.of rfl)) rfl<|bP rfl rfl ae<|JL rfl bT rfl<|ab (bA .nil (.cons (.of rfl) (.cons (.of rfl) .nil))) rfl ?_)
 rename_i b4 wb b5 NQ
 with_reducible apply fS (As:=[row 188 3 p l.length (gR l)])
 case hr=>exact bd
 case hd=>rfl
 case ht=>exact .cons c6 .nil
 case hc=>
  intro w1 AO aR vh hs1 CK kM
  have h4:b4 ∉ AO:=kM b4 _ _ (by exact Take.there .here)
  have h5:b5 ∉ AO:=kM b5 _ _ (by exact .here)
  have f4:w1.cell? ⟨b4,0,none⟩=some (.int .i64 v):=At.lit (by exact Take.there .here) rfl w1 aR
  have f5:w1.cell? ⟨b5,0,none⟩=some (.string o):=At.lit (by exact .here) rfl w1 aR
  exact Og (f:=315) (p:=xR v o) (first:=[]) (cap:=[.pointer (some ⟨b4,0,none⟩),.pointer (some ⟨b5,0,none⟩)]) vh hs1 rfl cI (fun x _ w2 eH=>Tj v o (ei f4 rfl h4 eH) (ei f5 rfl h5 eH))
 intro p' _
 dsimp only [id_eq,Zb,Za]
 refine aW (by exact .here) fun va vc e=>?_
 subst e
 (refine ab (dP (.of rfl)) rfl<|bP rfl rfl ae<|aq (.of rfl) (.of rfl) c6 rfl rfl (eE rfl) (bF rfl) ak<|Jx ?_)
 first | with_reducible apply aN | with_reducible apply aO
 case he=>exact pL rfl
 case hR=>
  intro w' aB
  exact aF (.slice va (l.filter fun x=>!xR v o x).length vc) trivial (by exact .cons .here (.cons .here .nil)) aB rfl
theorem GZ {lv:Value} {l:List Po} {w:World} (h:Rd w lv 3 (sJ l)) (hl:l.length≤1000) :
  bh Tryz.prog 316 [lv] w [] (fun _:Value=>True) id (fun v=>[row 188 3 v l.length (gR l)]):=by
 have h':=h
 obtain ⟨a,cp,b,o,rfl,c7,bQ,ha,hc⟩:=h
 refine aQ Tryz.func316 rfl rfl ?_
 cases a with
 | none =>
  have qi:l=[]:=by
   cases l with
   | nil=>rfl
   | cons x r=>exact absurd (ha (by simp [sJ])) (by simp)
  subst qi
  (refine Jr<|Ja rfl<|Jn<|Jq<|Jr<|Jv rfl<|ab (gz (.of rfl) (.of rfl)) rfl<|Jn<|cF (.of rfl)<|Jr<|Ja rfl<|Jn<|Ju ?_)
  refine aP 188 3 ?_
  first | with_reducible apply aN | with_reducible apply aO
  case he=>exact dD rfl rfl
  case hR=>
   intro w' aB
   exact aF (.slice none 0 0) trivial (by exact .cons .here .nil) aB rfl
 | some ad =>
  (refine Jr<|Ja rfl<|Jn<|Jq<|Jr<|Jv rfl<|ab (gz (.of rfl) (.of rfl)) rfl<|Jn<|bN (.of rfl)<|Jk<|Jr ?_)
  with_reducible apply bo
  case hr=>exact kF
  case hd=>rfl
  intro bq mN
  refine Nh rfl rfl ?_
  refine bX (g:=bq) (E:=188) (ys:=[]) 0 3 (by exact .here) rfl rfl rfl ?_
  with_reducible apply gV
  case hx=>exact Is.of rfl
  case hy=>exact Is.of rfl
  case ht=>exact .here
  case hsrc=>exact fun w' aB=>h'.keeps aB.keeps
  case h1=>exact EN l
  case hz=>exact rfl
  case hsz=>exact rfl
  case hb0=>exact rfl
  case hb=>rw [cT];omega
  case hd=>rfl
  intro v'
  rw [cT,ZB,Za,← zp]
  refine Ja rfl<|Jn<|Je ?_
  first | with_reducible apply aN | with_reducible apply aO
  case he=>exact dD rfl rfl
  case hR=>
   intro w' aB
   exact aF v' trivial (by exact .cons .here .nil) aB rfl
def VZ (w:World) (b:Nat) (l:List (ByteArray×Value)):Prop:=∃ es clock,w.heap[b]? = some (.map es clock)∧IT (fun s:ByteArray=>Value.string s) l es clock
theorem VZ.jw {w w':World} {b:Nat} {l:List (ByteArray×Value)} {md:List Nat} (h:VZ w b l) (hn:b ∉ md) (hk:aH md w w'):VZ w' b l:=by
 obtain ⟨es,ck,h1,h2⟩:=h
 have hb:b<w.heap.size:=(ZX.1 h1).1
 have:=hk.block b hb hn
 exact ⟨es,ck,by rw [this,h1],h2⟩
theorem uH {P:Program} {c:Cx} {sl:aG} {hs:List a8} {dst:Option Tmp} {ty:TypeId} {pos:String} {af:Array Edge} {g:Option (Nat×Bool)} {t kt et:TypeId} {x y:Operand} {b:Nat} {k:ByteArray} {l:List (ByteArray×Value)} {z V:Value} [hu:iF P t (.map kt et)] [GC:iF P kt .string] [hz:lF P et z]
  (hx:Is sl x (.map (some b))) (hy:Is sl y (.string k)) (hl:Looks c hs b (fun s:ByteArray=>Value.string s) l) (e:(eA k l).getD z=V) :
  cR P c sl hs ⟨dst,.lookup t x y false,ty,pos,af,g⟩ V:=e ▸ F7 I3 hx hy hl
def QA (r:Ro) (x y:Po):Int:=aV [km x.lv y.lv,km (dW r x.ou) (dW r y.ou)]
theorem Qh {r:Ro} {x y:Po} {b bm:Nat} {w:World} (hd:CN r) (hx:iX (ef r) x.ou=true) (hy:iX (ef r) y.ou=true) (f:w.cell? ⟨b,0,none⟩=some (.map (some bm))) (hm:VZ w bm (oe r)) :
  aj Tryz.prog 318 [.agg x.cells.toArray,.agg y.cells.toArray,.pointer (some ⟨b,0,none⟩)] w (.int .i64 (QA r x y)):=by
 have ex:(eA x.ou (oe r)).getD (lC 0 0 0)=lC (dW r x.ou) (kq r x.ou) (jZ r x.ou):=by rw [pW hd,hx];rfl
 have ey:(eA y.ou (oe r)).getD (lC 0 0 0)=lC (dW r y.ou) (kq r y.ou) (jZ r y.ou):=by rw [pW hd,hy];rfl
 unfold Po.cells
 refine ah Tryz.func318 rfl rfl ?_
 refine Jr<|Jy rfl rfl fun _ _=>Jy rfl rfl fun _ _=>Ja rfl<|Jn<|Jq ?_
 with_reducible refine cQ 17 (by kernel_rfl) ?_
 (refine an kB rfl<|an (gT (.there .here)) rfl<|an kB rfl<|an (gT .here) rfl<|aT bd rfl (fun w' aB=>(Ch _ _ w'))<|an (ag (.of rfl) (At.base f rfl)) rfl<|an kB rfl<|an (gT (.there .here)) rfl ?_)
 refine an (uH (l:=oe r) (z:=lC 0 0 0) (V:=.agg #[.int .i64 (dW r x.ou),.int .i64 (kq r x.ou),.int .i64 (jZ r x.ou)]) (Is.of rfl) (Is.of rfl) (fun w' aB=>hm.jw (by simp) aB.keeps) ex) rfl ?_
 (refine an (Br (.of rfl) rfl) rfl<|an (ag (.of rfl) (At.base f rfl)) rfl<|an kB rfl<|an (gT .here) rfl ?_)
 refine an (uH (l:=oe r) (z:=lC 0 0 0) (V:=.agg #[.int .i64 (dW r y.ou),.int .i64 (kq r y.ou),.int .i64 (jZ r y.ou)]) (Is.of rfl) (Is.of rfl) (fun w' aB=>hm.jw (by simp) aB.keeps) ey) rfl ?_
 (refine an (Br (.of rfl) rfl) rfl<|aT bd rfl (fun w' aB=>(Ch _ _ w'))<|ek (aD (.cons (.of rfl) (.cons (.of rfl) .nil)) rfl rfl rfl rfl) rfl rfl ?_)
 with_reducible refine dp rfl fun bq mN=>?_
 skip
 refine ai bL rfl (fun w' aB=>TT (l:=[km x.lv y.lv,km (dW r x.ou) (dW r y.ou)]) (Mem.dh aB (by exact .here) rfl rfl)) ?_
 refine Ja rfl<|Jn<|Je<|JT ?_
 rfl
end Go.Proofs.A1
namespace Go.Proofs.A1
open Go Go.SL Go.Shelf
theorem tS (r:Ro) (x y:Po):QA r x y<0↔x.lv<y.lv∨(x.lv=y.lv∧dW r x.ou<dW r y.ou):=by
 unfold QA
 generalize dW r x.ou=a
 generalize dW r y.ou=b
 simp only [aV,km]
 repeat' split
 all_goals omega
theorem MW {α:Type} (r:Ro) (g:α→Po):Go.Sort.SWO (ltOf fun x y:α=>QA r (g x) (g y)):=by
 constructor
 ·intro x;unfold ltOf;rw [decide_eq_false_iff_not,tS];omega
 ·intro x y z h1 h2
  unfold ltOf at *
  rw [decide_eq_true_eq,tS] at *
  omega
 ·intro x y z h1 h2
  unfold ltOf at *
  rw [decide_eq_false_iff_not,tS] at *
  omega
theorem HQ {r:Ro} {v:Value} {l:List Po} {LR bm:Nat} {w:World} {fp:List Nat} (hs:ch (hp w) [PB v l] fp) (hd:CN r) (iN:∀ x∈l,iX (ef r) x.ou=true) (cI:l.length≤1000000)
  (f:w.cell? ⟨LR,0,none⟩=some (.map (some bm))) (hm:VZ w bm (oe r)) (Y0:LR ∉ fp) (WA:bm ∉ fp) :
  bh Tryz.prog 317 [v,.func (.func 318) #[] #[.pointer (some ⟨LR,0,none⟩)]] w fp (fun l':List Po=>l'.Perm l∧l'.Pairwise (fun x y=>¬ QA r y x<0)) (fun _=>.tuple #[]) (fun l'=>[PB v l']):=by
 obtain ⟨f1,f2,rfl,h1,h2⟩:=hs
 obtain rfl:f2=[]:=h2
 obtain ⟨rfl,hlen,h1⟩:=h1
 rw [ZU] at *
 rcases h1 with ⟨rfl,h0⟩ | ⟨g,cap,cur,rfl,hg,kz,j6,qk,zV⟩
 ·have qi:l=[]:=Z2 (by omega)
  subst qi
  refine (AnyF.slices_SortFunc_none Tryz.Dc none 0 (.func (.func 318) #[] #[.pointer (some ⟨LR,0,none⟩)]) w).mono fun e w' ⟨he,hw⟩=>?_
  subst hw
  exact ⟨[],he,⟨.refl _,.nil⟩,.refl _ _,[],Zam,⟨[],[],rfl,⟨rfl,hlen,.inl ⟨rfl,h0⟩⟩,rfl⟩,by simp⟩
 ·have RT:g<w.heap.size:=(ZX.1 hg).1
  by_cases qi:l=[]
  ·subst qi
   refine (AnyF.slices_SortFunc_none Tryz.Dc (some ⟨g,0,none⟩) cap (.func (.func 318) #[] #[.pointer (some ⟨LR,0,none⟩)]) w).mono fun e w' ⟨he,hw⟩=>?_
   subst hw
   exact ⟨[],he,⟨.refl _,.nil⟩,.refl _ _,[g],by simp,⟨[g],[],rfl,⟨rfl,hlen,.inr ⟨g,cap,cur,rfl,hg,kz,j6,qk,zV⟩⟩,rfl⟩,fun b hb=>.inl hb⟩
  obtain ⟨x0,QZ⟩:=List.exists_mem_of_ne_nil l qi
  let α:={x:Po // iX (ef r) x.ou=true}
  let _:Inhabited α:=⟨⟨x0,iN x0 QZ⟩⟩
  let enc:α→List Value:=fun x=>x.1.cells
  have ng:cur=([]++gR l++cur.toList.drop (l.length*3)).toArray:=by
   apply Array.ext'
   show cur.toList=_
   rw [← zV,Za,ZZ]
  generalize Ut:cur.toList.drop (l.length*3)=post at ng
  let la:List α:=l.attach.map fun x=>⟨x.1,iN x.1 x.2⟩
  have Rz:la.map (fun x:α=>x.1)=l:=by
   show (l.attach.map fun x=>(⟨x.1,iN x.1 x.2⟩:α)).map (fun x:α=>x.1)=l
   rw [ZaF]
   exact List.attach_map_subtype_val l
  have BW:∀ m:List α,(m.map enc).flatten=gR (m.map fun x:α=>x.1):=fun m=>by
   rw [zp];unfold sJ
   rw [ZaF];rfl
  have DO:la.length=l.length:=by
   show (l.attach.map fun x=>(⟨x.1,iN x.1 x.2⟩:α)).length=_
   rw [Zd,List.length_attach]
  have sW:w.heap[g]? = some (.cells ([]++(la.map enc).flatten++post).toArray 188 (0,0)):=by rw [BW,Rz,← ng];exact hg
  have key:=A8 Tryz.Dc (k:=3) Tryz.isAgg188 Tryz.sizeOf188 (enc:=enc) (fun _=>rfl)
   (fun x u hu=>by
    simp only [enc,Po.cells,ZR,Zq,or_false] at hu
    rcases hu with rfl | rfl | rfl <;> rfl)
   (MW r (fun x:α=>x.1)) (g:=318) (b:=g) (cap:=cap) (cb:=#[.pointer (some ⟨LR,0,none⟩)]) (l:=la) (pre:=[]) (cur:=post) (E:=188) (w:=w)
   (enters_of Tryz.func318 (by kernel_rfl) rfl) sW (by rw [DO];omega)
   (fun w' hk x y=>Qh (r:=r) (x:=x.1) (y:=y.1) hd x.2 y.2 (ei f rfl Y0 hk) (hm.jw WA hk))
  rw [DO] at key
  refine Calls.mono key ?_
  rintro e w' ⟨he,l',ic,XI,hk,dA⟩
  have yf:(l'.map fun x:α=>x.1).length=l.length:=by rw [Zd,ic.length_eq,DO]
  rw [BW] at dA
  refine ⟨l'.map fun x:α=>x.1,he,⟨?_,?_⟩,hk,[g],by simp,⟨[g],[],rfl,⟨rfl,?_,.inr ⟨g,cap,_,?_,dA,?_,j6,?_,?_⟩⟩,rfl⟩,fun b hb=>.inl hb⟩
  ·have:=ic.map (fun x:α=>x.1)
   rwa [Rz] at this
  ·rw [Zbz]
   refine XI.imp fun {x y} h=>?_
   unfold ltOf at h
   rwa [decide_eq_false_iff_not] at h
  ·exact ju _
  ·rw [yf]
  ·rw [yf];exact kz
  ·rw [← qk]
   have:=congrArg (fun x:Array Value=>x.size) ng
   simp only [Zbk,Zg,ju,Zaa,ZB] at this ⊢
   rw [yf,this]
  ·show List.take _ ([]++gR _++post)=_
   rw [Za,Zad (by rw [ju];exact Zz _),Zai (by rw [ju];exact Zz _)]
end Go.Proofs.A1
namespace Go.Proofs.A1
open Go Go.SL
set_option maxHeartbeats 2000000 in
theorem zq {r:Ro} {s d t p:Value} {w:World} (h:RR w r s d t p) (cI:lz r) (XK:r.po.length≤1000000) :
  bh Tryz.prog 184 [RA r s d t p] w [] (fun _:Value×Value×Value×Value=>True) (fun x=>RA r x.1 x.2.1 x.2.2.1 x.2.2.2) (fun x=>[J1 r x.1,J2 r x.2.1,J3 r x.2.2.1,PB x.2.2.2 r.po]):=by
 have h1:=Rd.one h.sr
 have h2:=Rd.one h.de
 have h3:=Rd.one h.ti
 have h4:=Rd.one h.po
 have J8:=h.po
 have qE:=h.po
 obtain ⟨a4,cp4,q4,o4,rfl,yi,mz,Hd,zV⟩:=qE
 rw [cT] at *
 unfold maxLen at mz
 unfold RA
 refine aQ Tryz.func184 rfl rfl ?_
 (refine Jr<|Jy rfl rfl fun _ _=>Jz rfl rfl fun _ _=>Ji<|ab (cL (.there .here)) rfl<|Jz rfl rfl fun _ _=>aq (.of rfl) (.of rfl) .here rfl rfl (gE rfl rfl h1 h2 h3 rfl) (bF rfl) ak<|Jn<|Jq ?_)
 have hs0:=h.sr
 have S0:=h.de
 with_reducible refine dK 7 (by kernel_rfl) ?_
 (refine au (fun β=>(ao (.of rfl) ae)) dz rfl<|au (fun β=>(ag (.of rfl) (At.lit bT rfl))) dz rfl ?_)
 dsimp only [Nat.zero_add,Nat.reduceAdd]
 with_reducible apply dH (ι:=Value) (Φ:=fun _=>True) (val:=id) (own:=fun x=>[J1 r x]) (g:=id) (B:=[]) (args:=fun _=>[s])
 case hg=>exact fun x=>⟨x,rfl⟩
 case hB=>rfl
 case hr=>exact fun β=>aY (.of rfl) (.cons (.of rfl) .nil) inferInstance rfl
 case hd=>rfl
 case hc=>exact fun β w' hb=>GY (h.sr.keeps hb.mem.keeps) (by have:=cI.1;omega)
 dsimp only [id_eq,Nat.reduceAdd]
 (refine au (fun β=>(ao (.of rfl) ae)) dz rfl<|au (fun β=>(ag (.of rfl) (At.lit bT rfl))) dz rfl ?_)
 dsimp only [Nat.zero_add,Nat.reduceAdd]
 with_reducible apply dH (ι:=Value) (Φ:=fun _=>True) (val:=id) (own:=fun x=>[J2 r x]) (g:=id) (B:=[]) (args:=fun _=>[d])
 case hg=>exact fun x=>⟨x,rfl⟩
 case hB=>rfl
 case hr=>exact fun β=>aY (.of rfl) (.cons (.of rfl) .nil) inferInstance rfl
 case hd=>rfl
 case hc=>exact fun β w' hb=>G0 (h.de.keeps hb.mem.keeps) (by have:=cI.2.1;omega)
 dsimp only [id_eq,Nat.reduceAdd]
 refine au (fun β=>(ao (.of rfl) ae)) dz rfl ?_
 refine fh fun β=>?_
 dsimp only [eu,Za,Zb,List.append_eq,Nat.reduceAdd]
 generalize β 2=sv
 generalize β 5=dv
 clear β
 refine aW (v:=sv) (by exact .here) fun sa sc e=>?_
 subst e
 refine aW (v:=dv) (by exact Take.there .here) fun da dc e=>?_
 subst e
 refine cu (rs:=[7]) (by kernel_rfl) (by simp) (ZA.2 ⟨?_,fun _ h=>absurd h Zq⟩)
 refine cG rfl ?_
 (refine aq (.of rfl) (.of rfl) bT rfl rfl (eE rfl) (bF rfl) ak<|Jn ?_)
 refine cu (rs:=[8]) (by kernel_rfl) (by simp) (ZA.2 ⟨?_,fun _ h=>absurd h Zq⟩)
 refine cG rfl ?_
 (refine bP rfl rfl ae<|Jn ?_)
 refine cu (rs:=[9]) (by kernel_rfl) (by simp) (ZA.2 ⟨?_,fun _ h=>absurd h Zq⟩)
 refine cG rfl ?_
 (refine aq (.of rfl) (.of rfl) .here rfl rfl (eE rfl) (bF rfl) ak<|Jn ?_)
 with_reducible refine cH (by kernel_rfl) ?_
 (refine Jt<|Jr<|bP rfl rfl ae<|JL rfl dO rfl ?_)
 refine JN bL rfl (fun w1 aR=>GX (h.keeps aR.keeps).ti (by have:=cI.2.2;omega)) ?_
 intro tv _
 dsimp only [id_eq,Zb,Za]
 refine aW (v:=tv) (by exact .here) fun ta tc e=>?_
 subst e
 (refine bP rfl rfl ae<|aq (.of rfl) (.of rfl) (.there .here) rfl rfl (eE rfl) (bF rfl) ak<|Ji<|bP rfl rfl ae<|JL rfl fk rfl<|JI rfl ?_)
 with_reducible apply bo
 case hr=>
  with_reducible apply MO
  case hx=>exact Is.of rfl
  case hy=>exact Is.of rfl
  case hl=>exact Zz _
  case hb=>omega
  case hz=>rfl
  case hsz=>rfl
  case h63=>omega
 case hd=>rfl
 intro bg RT
 (refine bP rfl rfl ae<|aq (.of rfl) (.of rfl) (.there .here) rfl rfl (eE rfl) (bF rfl) ak<|Ji<|bP rfl rfl ae<|JL rfl .here rfl<|bP rfl rfl ae<|JL rfl jo rfl ?_)
 with_reducible apply HD
 case hx=>exact Is.of rfl
 case hy=>exact Is.of rfl
 case ht=>exact Take.there .here
 case hsrc=>exact fun w' aB=>J8.keeps aB.keeps
 case h1=>exact EN r.po
 case hfit=>
  simp [Value.cells]
 case hd=>rfl
 rw [Zai (by rw [cT];exact Zz _),← zp,y5 _ _ (by rw [ju];simp [Value.cells])]
 refine cN (n:=r.po.length) (xs:=gR r.po) (cap:=r.po.length) (g:=bg) (E:=188) (sz:=3) (by exact .here) (Zz _) (by unfold maxLen;omega) ?_ (ju _) ?_
 ·rw [Zg,Zba,ju];simp [Value.cells]
 (refine Ji<|ab (cL (.there .here)) rfl<|aq (.of rfl) (.of rfl) fk rfl rfl (gE rfl rfl rfl rfl rfl rfl) (bF rfl) ak<|Jn<|Je ?_)
 first | with_reducible apply aN | with_reducible apply aO
 case he=>exact kN rfl inferInstance rfl .here ak (by rfl)
 case hR=>
  intro w' aB
  exact aF (.slice sa r.sr.length sc,.slice da r.de.length dc,.slice ta r.ti.length tc,.slice (some ⟨bg,0,none⟩) r.po.length r.po.length) trivial (by exact .cons dO (.cons dO (.cons c6 (.cons (.there .here) .nil)))) aB rfl
end Go.Proofs.A1
namespace Go.Proofs.A1
structure Sw (po:List Po) (D:List ByteArray) (f:Po→Bool):Prop where
 de:∀ p∈po,p.ou∈D→f p=true
 up:∀ p∈po,∀ q∈po,f q=true→q.lv=p.lv→q.ip=p.ou→f p=true
theorem Sw.start (po:List Po) (D:List ByteArray):Sw po D fun _=>true:=⟨fun _ _ _=>rfl,fun _ _ _ _ _ _ _=>rfl⟩
theorem Sw.step {po:List Po} {D:List ByteArray} {f:Po→Bool} (h:Sw po D f) {v:Int} {o:ByteArray} (hD:o ∉ D) (hu:∀ q∈po,f q=true→¬ (q.lv=v∧q.ip=o)):Sw po D fun x=>f x&&!xR v o x:=by
 refine ⟨fun p hp hd=>?_,fun p hp q hq hf e1 e2=>?_⟩
 ·have h1:=h.de p hp hd
  have h2:xR v o p=false:=by
   unfold xR
   have:¬ p.ou=o:=fun e=>hD (e ▸ hd)
   simp [this]
  simp [h1,h2]
 ·rw [Bool.and_eq_true] at hf
  have h1:=h.up p hp q hq hf.1 e1 e2
  have h2:xR v o p=false:=by
   unfold xR
   by_cases a:p.lv=v
   ·by_cases b:p.ou=o
    ·exact absurd ⟨e1.trans a,e2.trans b⟩ (hu q hq hf.1)
    ·simp [b]
   ·simp [a]
  simp [h1,h2]
theorem sY (po:List Po) (f:Po→Bool) (v:Int) (o:ByteArray):(po.filter f).filter (fun x=>!xR v o x)=po.filter fun x=>f x&&!xR v o x:=by
 rw [List.filter_filter]
 congr 1
 funext x
 exact Bool.and_comm _ _
end Go.Proofs.A1
namespace Go.Proofs.A1
open Go Go.SL
def Ro.wp (r:Ro) (po:List Po):Ro:=⟨r.lv,r.ma,r.sr,r.de,r.ti,po⟩
theorem iZ.wp {r:Ro} {q po:List Po} (h:iZ r po):iZ (r.wp q) po:=⟨h.qK,h.LG,h.out,h.xY,h.OV,h.D6,h.use⟩
theorem pP.wp {r:Ro} {q:List Po} (h:pP r):pP (r.wp q):=⟨h.sd,h.st,h.dt,h.Tz⟩
theorem CN.wp {r:Ro} {q:List Po} (h:CN r):CN (r.wp q):=⟨h.nd⟩
theorem tq.wp {r:Ro} (h:tq r) {q:List Po} (hq:iZ r q):tq (r.wp q):=⟨h.lim,h.PD.wp,h.len,h.sm,h.dm,h.tm,hq.wp⟩
theorem tq.nd {r:Ro} (h:tq r):(cU r).Nodup:=h.PD.parts.2.2.1
def wo (D:List ByteArray) (po:List Po):List Po:=po.filter fun p=>iX D p.ou||po.any fun q=>decide (q.lv=p.lv)&&decide (q.ip=p.ou)
def FY (D:List ByteArray):Nat→List Po→List Po
 | 0,po=>po
 | n+1,po=>FY D n (wo D po)
def wq (D:List ByteArray) (po:List Po):List Po:=FY D po.length po
theorem A2 {D:List ByteArray} {po:List Po} (h:wo D po=po):∀ n,FY D n po=po
 | 0=>rfl
 | n+1=>by rw [FY,h];exact A2 h n
theorem Ey {D:List ByteArray}:∀ (n:Nat) (po:List Po) (f:Po→Bool),Sw po D f→(po.filter f).length≤n →
  ∃ g:Po→Bool,Sw po D g∧FY D n (po.filter f)=po.filter g∧wo D (po.filter g)=po.filter g
 | 0, po, f, h, hl => by
  have e:po.filter f=[]:=Z2 (by omega)
  exact ⟨f,h,rfl,by rw [e];rfl⟩
 | n + 1, po, f, h, hl => by
  have hS:Sw po D fun p=>f p&&(iX D p.ou||(po.filter f).any fun q=>decide (q.lv=p.lv)&&decide (q.ip=p.ou)):=by
   refine ⟨fun p hp hd=>?_,fun p hp q hq hf e1 e2=>?_⟩
   ·have:=h.de p hp hd
    show (f p&&(iX D p.ou||_))=true
    rw [this,fc.2 hd];rfl
   ·rw [Zm] at hf
    have h1:=h.up p hp q hq hf.1 e1 e2
    rw [h1,Zaq,ZP]
    right
    rw [ZM]
    exact ⟨q,Zv.2 ⟨hq,hf.1⟩,by simp [e1,e2]⟩
  have e:wo D (po.filter f)=po.filter fun p=>f p&&(iX D p.ou||(po.filter f).any fun q=>decide (q.lv=p.lv)&&decide (q.ip=p.ou)):=by
   unfold wo
   rw [Zbx]
   refine ZaX fun p _=>?_
   rw [Bool.and_comm]
  by_cases Ym:wo D (po.filter f)=po.filter f
  ·exact ⟨f,h,A2 Ym _,Ym⟩
  ·have aK:(wo D (po.filter f)).length<(po.filter f).length:=by
    have hle:(wo D (po.filter f)).length≤(po.filter f).length:=Z7 _ _
    rcases Zbm (wo D (po.filter f)).length (po.filter f).length with h1 | h1
    ·exact h1
    ·exact absurd (List.filter_sublist.eq_of_length (Nat.le_antisymm hle h1)) Ym
   rw [FY,e]
   exact Ey n po _ hS (by rw [← e];omega)
structure Swd (po:List Po) (D:List ByteArray) (f:Po→Bool):Prop where
 sw:Sw po D f
 us:∀ p∈po,f p=true→p.ou∈D∨∃ q∈po,f q=true∧q.lv=p.lv∧q.ip=p.ou
theorem Ez (D:List ByteArray) (po:List Po):∃ g,Swd po D g∧wq D po=po.filter g:=by
 obtain ⟨g,h1,h2,h3⟩:=Ey (D:=D) po.length po (fun _=>true) ⟨fun _ _ _=>rfl,fun _ _ _ _ _ _ _=>rfl⟩ (Z7 _ _)
 rw [ZaO.2 fun _ _=>rfl] at h2
 refine ⟨g,⟨h1,fun p hp hg=>?_⟩,h2⟩
 have hm:p∈wo D (po.filter g):=by rw [h3];exact Zv.2 ⟨hp,hg⟩
 have:=(Zv.1 hm).2
 rw [ZP,fc,ZM] at this
 rcases this with h | ⟨q,hq,e⟩
 ·exact .inl h
 ·rw [Zm,decide_eq_true_eq,decide_eq_true_eq] at e
  obtain ⟨a,b⟩:=Zv.1 hq
  exact .inr ⟨q,a,b,e.1,e.2⟩
structure OG (r:Ro) (po:List Po):Prop where
 one:sB po
 out:∀ p∈po,p.ou∈cy r∨p.ou∈cU r
 xY:∀ p∈po,p.ip∈cC r∨p.ip∈cU r
 D6:∀ v,¬ ∃ t∈cU r,t∈eW po v ((cU r).length+1) t
theorem iZ.acy {r:Ro} {po:List Po} (h:iZ r po):OG r po:=⟨iZ.one h.qK,h.out,h.xY,h.D6⟩
theorem OG.sub {r:Ro} {po:List Po} (h:OG r po) (f:Po→Bool):OG r (po.filter f):=by
 have hs:∀ p∈po.filter f,p∈po:=fun p hp=>(Zv.1 hp).1
 exact ⟨h.one.filter f,fun p hp=>h.out p (hs p hp),fun p hp=>h.xY p (hs p hp),fun v ⟨t,ht,hc⟩=>h.D6 v ⟨t,ht,Ak h.one hs hc⟩⟩
theorem OG.short {r:Ro} (hn:pP r) {po:List Po} (h:OG r po):∀ v o m,(cU r).length+1≤m→eW po v m o=eW po v ((cU r).length+1) o:=fun v o m hm=>
 pe (T:=cU r) (iZ.tie hn h.out h.xY) (h.D6 v) o hm
theorem OG.tid {r:Ro} (hn:pP r) {po:List Po} (h:OG r po) {f:Po→Bool} (hf:Swd po (cy r) f):po.filter f=wq (cy r) po:=by
 obtain ⟨g,hg,e⟩:=Ez (cy r) po
 rw [e]
 exact Nb h.one (h.short hn) hf.sw.de hf.sw.up hf.us hg.sw.de hg.sw.up hg.us
def Tk.at (t:Tk) (k:Nat):ByteArray:=t.so.getD k ⟨#[]⟩
def Tk.zero:Tk:=⟨⟨#[]⟩,[]⟩
def nE (r:Ro) (t:Tk) (k:Nat):Bool:=!decide (t.at k=⟨#[]⟩)&&!decide (t.at k=jM r (k:Nat) t.de)
def ns (r:Ro) (t:Tk):Nat→List Po→List Po
 | 0,po=>po
 | k+1,po=>if nE r t k then (ns r t k po).filter (fun x=>!xR (k:Nat) t.de x) else ns r t k po
def jA (r:Ro) (l:List Tk):Nat→List Po
 | 0=>r.po
 | i+1=>ns r (l.getD i Tk.zero) (l.getD i Tk.zero).so.length (jA r l i)
def dash:ByteArray:=⟨#[45]⟩
def oo (r:Ro) (t:Tk) (k:Nat):Bool:=nE r t k&&!decide (t.at k=dash)
def pq (r:Ro) (t:Tk):Nat→List Po→Option (List Po)
 | 0,po=>some po
 | k+1,po=>(pq r t k po).bind fun q=>if oo r t k then (qG (r.wp q) (k:Nat) (t.at k) t.de).map fun p=>lB r q (k:Nat) (t.at k) p t.de else some q
def jn (r:Ro) (l:List Tk) (po:List Po):Nat→Option (List Po)
 | 0=>some po
 | i+1=>(jn r l po i).bind (pq r (l.getD i Tk.zero) (l.getD i Tk.zero).so.length)
theorem F3 {r:Ro} {t:Tk} {po:List Po} {k:Nat} (h:pq r t k po=none):∀ {m},k≤m→pq r t m po=none:=by
 intro m hm
 induction hm with
 | refl=>exact h
 | step _ ih=>rw [pq,ih];rfl
theorem xE {r:Ro} {l:List Tk} {po:List Po} {k:Nat} (h:jn r l po k=none):∀ {m},k≤m→jn r l po m=none:=by
 intro m hm
 induction hm with
 | refl=>exact h
 | step _ ih=>rw [jn,ih];rfl
def Ga (r:Ro) (l:List Tk) (po:List Po):Nat:=((List.range l.length).find? fun i=>(jn r l po (i+1)).isNone).getD 0
theorem MQ {r:Ro} {l:List Tk} {po:List Po} {i:Nat} (hi:i<l.length) {q:List Po} (h1:jn r l po i=some q) (h2:jn r l po (i+1)=none):Ga r l po=i:=by
 unfold Ga
 have:(List.range l.length).find? (fun i=>(jn r l po (i+1)).isNone)=some i:=by
  rw [List.find?_eq_some_iff_append]
  refine ⟨by rw [h2];rfl,List.range i,(List.range (l.length-i-1)).map (fun x=>x+i+1),?_,fun j hj=>?_⟩
  ·apply List.ext_getElem
   ·simp;omega
   ·intro n a b
    rw [Zbw]
    rcases Zak n i with c | c | c
    ·rw [Zat (by simpa using c)];simp
    ·subst c;rw [Zao (by simp)];simp
    ·rw [Zao (by simp;omega)]
     simp only [ZaL]
     obtain ⟨d,hd⟩:∃ d,n-i=d+1:=⟨n-i-1,by omega⟩
     simp only [hd,List.getElem_cons_succ,Z1,Zbw]
     omega
  ·have hj:=ZT.1 hj
   cases hn:jn r l po (j+1) with
   | some _=>rfl
   | none=>rw [xE hn (show j+1≤i by omega)] at h1;cases h1
 rw [this];rfl
def nn (r:Ro) (l:List Tk):Int:=gP (fun t=>(r.de.getD (bE (cy r) t.de).toNat ⟨⟨#[]⟩,0,false⟩).pr) l
def Ro.nil:Ro:=⟨0,0,[],[],[],[]⟩
def jm (r:Ro) (l:List Tk):Ro×Int×Int:=
 if 0≤nn r l then (Ro.nil,nn r l,31) else
 match jn r l (wq (cy r) (jA r l l.length)) l.length with
 | none=>(Ro.nil,(Ga r l (wq (cy r) (jA r l l.length)):Nat),18)
 | some po=>(r.wp po,0,0)
structure Hf (r:Ro) (l:List Tk):Prop where
 de:∀ t∈l,t.de∈cy r
 nd:(l.map Tk.de).Nodup
 lv:∀ t∈l,(t.so.length:Int)=r.lv
 so:∀ t∈l,∀ s∈t.so,s=⟨#[]⟩∨s=dash∨s∈cC r
 DZ:l.length≤8
theorem Hf.wp {r:Ro} {l:List Tk} (h:Hf r l) (q:List Po):Hf (r.wp q) l:=⟨h.de,h.nd,h.lv,h.so,h.DZ⟩
def Oe (r:Ro) (t:Tk) (k:Nat) (p:Po):Bool:=(List.range k).any fun i=>nE r t i&&xR (i:Nat) t.de p
theorem nj (r:Ro) (t:Tk):∀ (k:Nat) (po:List Po),ns r t k po=po.filter fun p=>!Oe r t k p
 | 0,po=>by rw [ns,ZaO.2 fun p _=>by simp [Oe]]
 | k + 1, po => by
  rw [ns,nj r t k po]
  have e:∀ p,Oe r t (k+1) p=(Oe r t k p||(nE r t k&&xR (k:Nat) t.de p)):=fun p=>by
   unfold Oe;rw [List.range_succ,List.any_append];simp
  split
  ·rename_i h
   rw [Zbx]
   refine ZaX fun p _=>?_
   rw [e,h,Zaq,Bool.not_or,Bool.and_comm]
  ·rename_i h
   refine ZaX fun p _=>?_
   rw [e,ZaW.2 h,Bool.false_and,Bool.or_false]
def KL (r:Ro) (l:List Tk) (i:Nat) (p:Po):Bool:=(List.range i).any fun j=>Oe r (l.getD j Tk.zero) (l.getD j Tk.zero).so.length p
theorem kO (r:Ro) (l:List Tk):∀ i,jA r l i=r.po.filter fun p=>!KL r l i p
 | 0=>by rw [jA,ZaO.2 fun p _=>by simp [KL]]
 | i + 1 => by
  rw [jA,nj,kO r l i,Zbx]
  refine ZaX fun p _=>?_
  have e:KL r l (i+1) p=(KL r l i p||Oe r (l.getD i Tk.zero) (l.getD i Tk.zero).so.length p):=by
   unfold KL;rw [List.range_succ,List.any_append];simp
  rw [e,Bool.not_or,Bool.and_comm]
theorem Ft {r:Ro} {t:Tk} {k:Nat} {p:Po}:Oe r t k p=true↔∃ i,i<k∧nE r t i=true∧p.lv=(i:Nat)∧p.ou=t.de:=by
 unfold Oe xR
 simp [ZM]
theorem Of {r:Ro} {l:List Tk} {p:Po}:KL r l l.length p=true↔∃ t∈l,∃ i,i<t.so.length∧nE r t i=true∧p.lv=(i:Nat)∧p.ou=t.de:=by
 unfold KL
 rw [ZM]
 constructor
 ·rintro ⟨j,hj,h⟩
  have hj:=ZT.1 hj
  rw [Zk,Zc hj] at h
  exact ⟨l[j],Zj hj,Ft.1 h⟩
 ·rintro ⟨t,ht,h⟩
  obtain ⟨j,hj,rfl⟩:=Zs ht
  refine ⟨j,ZT.2 hj,?_⟩
  rw [Zk,Zc hj]
  exact Ft.2 h
theorem lM {r:Ro} {W:List Po→Jb→Option (List Nat)}:∀ {a b:List Jb} {po:List Po},rO r W po (a++b)=(rO r W po a).bind fun q=>rO r W q b
 | [],b,po=>rfl
 | j :: a, b, po => by
  rw [Zb,rO,rO]
  cases W po j with
  | none=>rfl
  | some p=>exact lM
def u5 (r:Ro) (t:Tk):Nat→List Jb
 | 0=>[]
 | k+1=>u5 r t k++if oo r t k then [⟨(k:Nat),t.at k,t.de⟩] else []
def u4 (r:Ro) (l:List Tk):Nat→List Jb
 | 0=>[]
 | i+1=>u4 r l i++u5 r (l.getD i Tk.zero) (l.getD i Tk.zero).so.length
def jW (r:Ro) (po:List Po) (j:Jb):Option (List Nat):=if iX (cy r) j.d then qG (r.wp po) j.v j.s j.d else none
theorem L7 {r:Ro} {v:Int} {so de:ByteArray} {p:List Nat} (h:qG r v so de=some p):(fw r r.po v so).least (nM r de) p:=by
 unfold qG at h
 split at h
 ·cases h
 ·rename_i e
  cases h
  exact Wn.Ss e
theorem OX (r:Ro):∀ po j p,jW r po j=some p→(fw r po j.v j.s).ok p∧(fw r po j.v j.s).fin p=kq r j.d:=by
 intro po j p h
 unfold jW at h
 split at h
 ·rename_i hd
  have hl:=L7 h
  exact ⟨hl.1,hl.2.1.trans (KM (r:=r) (fc.1 hd)).symm⟩
 ·cases h
theorem rQ {r:Ro} {t:Tk} (ht:t.de∈cy r):∀ (k:Nat) (po:List Po),pq r t k po=rO r (jW r) po (u5 r t k)
 | 0,po=>rfl
 | k + 1, po => by
  rw [pq,u5,lM,rQ ht k po]
  congr 1
  funext q
  cases oo r t k with
  | false=>rfl
  | true =>
   rw [if_pos rfl,if_pos rfl,rO]
   unfold jW
   rw [if_pos (fc.2 ht)]
   cases qG (r.wp q) (k:Nat) (t.at k) t.de with
   | none=>rfl
   | some p=>rfl
theorem rP {r:Ro} {l:List Tk} (hl:∀ t∈l,t.de∈cy r) (po:List Po):∀ i,i≤l.length→jn r l po i=rO r (jW r) po (u4 r l i)
 | 0,_=>rfl
 | i + 1, hi => by
  rw [jn,u4,lM,rP hl po i (by omega)]
  congr 1
  funext q
  refine rQ ?_ _ _
  rw [Zk,Zc (by omega)]
  exact hl _ (Zj _)
theorem oy {r:Ro} {t:Tk} {k:Nat} {j:Jb}:j∈u5 r t k↔∃ i,i<k∧oo r t i=true∧j=⟨(i:Nat),t.at i,t.de⟩:=by
 induction k with
 | zero=>simp [u5]
 | succ k ih =>
  rw [u5,Zx,ih]
  constructor
  ·rintro (⟨i,h1,h2,h3⟩ | h)
   ·exact ⟨i,by omega,h2,h3⟩
   ·split at h
    ·rename_i hb
     exact ⟨k,by omega,hb,ZK.1 h⟩
    ·cases h
  ·rintro ⟨i,h1,h2,h3⟩
   by_cases e:i=k
   ·subst e
    right
    rw [if_pos h2,h3]
    exact ZK.2 rfl
   ·exact .inl ⟨i,by omega,h2,h3⟩
theorem oq {r:Ro} {l:List Tk} {i:Nat} {j:Jb} (hi:i≤l.length):j∈u4 r l i↔∃ m,∃ hm:m<i,∃ k,k<(l[m]'(by omega)).so.length∧oo r (l[m]'(by omega)) k=true∧j=⟨(k:Nat),(l[m]'(by omega)).at k,(l[m]'(by omega)).de⟩:=by
 induction i with
 | zero=>simp [u4]
 | succ i ih =>
  rw [u4,Zx,ih (by omega),Zk,Zc (show i<l.length by omega),Zaj,oy]
  constructor
  ·rintro (⟨m,hm,h⟩ | h)
   ·exact ⟨m,by omega,h⟩
   ·exact ⟨i,by omega,h⟩
  ·rintro ⟨m,hm,h⟩
   by_cases e:m=i
   ·subst e;exact .inr h
   ·exact .inl ⟨m,by omega,h⟩
def JbD (a b:Jb):Prop:=¬(b.v=a.v∧b.d=a.d)
theorem zG (r:Ro) (t:Tk):∀ k,(u5 r t k).Pairwise JbD
 | 0=>.nil
 | k + 1 => by
  rw [u5,List.pairwise_append]
  refine ⟨zG r t k,?_,fun a ha b hb=>?_⟩
  ·split
   ·exact List.pairwise_singleton _ _
   ·exact .nil
  ·split at hb
   ·obtain ⟨i,h1,_,rfl⟩:=oy.1 ha
    rw [ZK.1 hb]
    rintro ⟨e,_⟩
    dsimp only at e
    omega
   ·cases hb
theorem tf {l:List Tk} (hn:(l.map Tk.de).Nodup) {i j:Nat} (hi:i<l.length) (hj:j<l.length) (hne:i≠j):l[i].de≠l[j].de:=by
 intro e
 have h:=Z5.1 hn
 have hl:(l.map Tk.de).length=l.length:=Zd _
 rcases Zak i j with c | c | c
 ·exact h i j (by omega) (by omega) c (by simpa using e)
 ·exact hne c
 ·exact h j i (by omega) (by omega) c (by simpa using e.symm)
theorem zF {r:Ro} {l:List Tk} (hn:(l.map Tk.de).Nodup):∀ i,i≤l.length→(u4 r l i).Pairwise JbD
 | 0,_=>.nil
 | i + 1, hi => by
  rw [u4,List.pairwise_append]
  refine ⟨zF hn i (by omega),zG r _ _,fun a ha b hb=>?_⟩
  rw [Zk,Zc (show i<l.length by omega),Zaj] at hb
  obtain ⟨m,hm,k,_,_,rfl⟩:=(oq (by omega)).1 ha
  obtain ⟨k',_,_,rfl⟩:=oy.1 hb
  rintro ⟨_,e⟩
  exact tf hn (show i<l.length by omega) (show m<l.length by omega) (by omega) e
theorem lo {r:Ro} {t:Tk} {k:Nat}:nE r t k=true↔t.at k≠⟨#[]⟩∧t.at k≠jM r (k:Nat) t.de:=by
 unfold nE;simp
theorem my {r:Ro} {t:Tk} {k:Nat}:oo r t k=true↔t.at k≠⟨#[]⟩∧t.at k≠jM r (k:Nat) t.de∧t.at k≠dash:=by
 unfold oo;rw [Zm,lo];simp [and_assoc]
theorem Tk.at_mem {t:Tk} {k:Nat} (h:k<t.so.length):t.at k∈t.so:=by
 unfold Tk.at
 rw [Zk,Zc h];exact Zj h
def te (r:Ro) (l:List Tk):List Po:=wq (cy r) (jA r l l.length)
def Td (r:Ro) (l:List Tk) (v:Int) (y:ByteArray):Prop:=∃ t∈l,∃ i,i<t.so.length∧nE r t i=true∧v=(i:Nat)∧y=t.de
theorem qu {r:Ro} (h:tq r) {l:List Tk} (hl:Hf r l):iZ r (te r l)∧(∀ v y,y∈cy r→¬ Td r l v y→ez (te r l) v y=ez r.po v y∧rB (te r l) v (cC r) y=rB r.po v (cC r) y)∧∀ v y,Td r l v y→ez (te r l) v y=none:=by
 obtain ⟨f,hf,e⟩:=Ez (cy r) (jA r l l.length)
 have hg:∀ p,(!KL r l l.length p)=true↔¬ Td r l p.lv p.ou:=fun p=>by
  rw [Zbn,← Zau]
  exact not_congr Of
 unfold te
 rw [e,kO] at *
 obtain ⟨k1,k2,k3⟩:=Oc (g:=fun p=>!KL r l l.length p) (f:=f) h.CH h.val (fun p hp ht=>(hg p).2 fun ⟨t,htl,i,_,_,_,e5⟩=>h.CH.dt _ (hl.de t htl) (e5 ▸ ht)) hf.sw.de hf.sw.up hf.us
 refine ⟨k1,fun v y hy hd=>k2 v y hy fun p _ e1 e2=>(hg p).2 (by rw [e1,e2];exact hd),fun v y hd=>k3 v y fun p _ e1 e2=>?_⟩
 have:¬ (!KL r l l.length p)=true:=fun q=>(hg p).1 q (by rw [e1,e2];exact hd)
 exact Zau _ ▸ this
theorem zD {r:Ro} (h:tq r) {l:List Tk} (hl:Hf r l) {t:Tk} (ht:t∈l) {k:Nat} (hk:k<t.so.length) (hj:oo r t k=true):(0≤((k:Nat):Int)∧((k:Nat):Int)<r.lv)∧t.at k∈cC r∧t.de∈cy r∧ez (te r l) (k:Nat) t.de=none:=by
 have h1:=hl.lv t ht
 obtain ⟨j1,j2,j3⟩:=my.1 hj
 refine ⟨by omega,?_,hl.de t ht,(qu h hl).2.2 _ _ ⟨t,ht,k,hk,lo.2 ⟨j1,j2⟩,rfl,rfl⟩⟩
 rcases hl.so t ht _ (Tk.at_mem hk) with e | e | e
 ·exact absurd e j1
 ·exact absurd e j3
 ·exact e
theorem QP {r:Ro} (h:tq r) {l:List Tk} (hl:Hf r l) {i:Nat} (hi:i<l.length) {k:Nat} (hk:k≤l[i].so.length) {q0 q:List Po} (h0:jn r l (te r l) i=some q0) (h1:pq r l[i] k q0=some q) :
  iZ r q∧∀ m,k≤m→m<l[i].so.length→nE r l[i] m=true→ez q (m:Nat) l[i].de=none:=by
 have mh:=hl.de l[i] (Zj hi)
 rw [rP hl.de _ i (by omega)] at h0
 rw [rQ mh] at h1
 have h2:rO r (jW r) (te r l) (u4 r l i++u5 r l[i] k)=some q:=by rw [lM,h0];exact h1
 have yg:∀ j∈u4 r l i++u5 r l[i] k,∃ m,∃ hm:m<l.length,∃ n,n<l[m].so.length∧oo r l[m] n=true∧j=⟨(n:Nat),l[m].at n,l[m].de⟩∧(m=i→n<k):=by
  intro j hj
  rcases Zx.1 hj with hj | hj
  ·obtain ⟨m,hm,n,e1,e2,e3⟩:=(oq (by omega)).1 hj
   exact ⟨m,by omega,n,e1,e2,e3,fun e=>by omega⟩
  ·obtain ⟨n,e1,e2,e3⟩:=oy.1 hj
   exact ⟨i,hi,n,by omega,e2,e3,fun _=>e1⟩
 obtain ⟨k1,_,k3⟩:=ze h.CH h.nd (OX r) _ _ _ (qu h hl).1 (fun j hj=>by
   obtain ⟨m,hm,n,e1,e2,rfl,_⟩:=yg j hj
   exact zD h hl (Zj hm) e1 e2) (List.pairwise_append.2 ⟨zF hl.nd i (by omega),zG r _ _,fun a ha b hb=>by
   obtain ⟨m,hm,n,_,_,rfl⟩:=(oq (by omega)).1 ha
   obtain ⟨n',_,_,rfl⟩:=oy.1 hb
   rintro ⟨_,e⟩
   exact tf hl.nd hi (show m<l.length by omega) (by omega) e⟩) h2
 refine ⟨k1,fun m aR l7 DQ=>?_⟩
 rw [(k3 (m:Nat) l[i].de mh fun j hj ⟨e1,e2⟩=>by
  obtain ⟨x,hx,n,_,_,rfl,e5⟩:=yg j hj
  by_cases c:x=i
  ·subst c
   have:=e5 rfl
   dsimp only at e1
   omega
  ·exact tf hl.nd hx hi c e2.symm).2]
 exact (qu h hl).2.2 _ _ ⟨l[i],Zj hi,m,l7,DQ,rfl,rfl⟩
theorem Qj {r:Ro} (h:tq r) {l:List Tk} (hl:Hf r l) {q:List Po} (h0:jn r l (te r l) l.length=some q) :
  iZ r q∧(∀ v y,y∈cy r→¬ Td r l v y→rB q v (cC r) y=rB r.po v (cC r) y) ∧
  ∀ t∈l,∀ k,k<t.so.length→nE r t k=true→rB q (k:Nat) (cC r) t.de=if t.at k=dash then ⟨#[]⟩ else t.at k:=by
 rw [rP hl.de _ _ (Zz _)] at h0
 have yg:∀ j∈u4 r l l.length,∃ t∈l,∃ n,n<t.so.length∧oo r t n=true∧j=⟨(n:Nat),t.at n,t.de⟩:=by
  intro j hj
  obtain ⟨m,hm,n,e1,e2,e3⟩:=(oq (Zz _)).1 hj
  exact ⟨_,Zj hm,n,e1,e2,e3⟩
 obtain ⟨k1,k2,k3⟩:=ze h.CH h.nd (OX r) _ _ _ (qu h hl).1 (fun j hj=>by
   obtain ⟨t,ht,n,e1,e2,rfl⟩:=yg j hj
   exact zD h hl ht e1 e2) (zF hl.nd _ (Zz _)) h0
 have hDr:∀ t∈l,∀ n,n<t.so.length→oo r t n=true→Td r l (n:Nat) t.de:=fun t ht n hn hj=>by
  obtain ⟨j1,j2,_⟩:=my.1 hj
  exact ⟨t,ht,n,hn,lo.2 ⟨j1,j2⟩,rfl,rfl⟩
 refine ⟨k1,fun v y hy hd=>?_,fun t ht k hk DQ=>?_⟩
 ·rw [(k3 v y hy fun j hj ⟨e1,e2⟩=>by
   obtain ⟨t,ht,n,a1,a2,rfl⟩:=yg j hj
   exact hd (by rw [e1,e2];exact hDr t ht n a1 a2)).1]
  exact ((qu h hl).2.1 v y hy hd).2
 ·by_cases UZ:t.at k=dash
  ·rw [if_pos UZ,(k3 (k:Nat) t.de (hl.de t ht) fun j hj ⟨e1,e2⟩=>by
    obtain ⟨t',Gs,n,a1,a2,rfl⟩:=yg j hj
    dsimp only at e1 e2
    obtain ⟨x,hx,rfl⟩:=Zs ht
    obtain ⟨x',Q0,rfl⟩:=Zs Gs
    have e:x=x':=Classical.byContradiction fun c=>tf hl.nd hx Q0 c e2
    subst e
    have e3:k=n:=by omega
    subst e3
    exact (my.1 a2).2.2 UZ).1]
   exact G1 (fun hs=>h.CH.sd _ hs (hl.de t ht)) ((qu h hl).2.2 _ _ ⟨t,ht,k,hk,DQ,rfl,rfl⟩)
  ·rw [if_neg UZ]
   obtain ⟨d1,d2⟩:=lo.1 DQ
   have hj:oo r t k=true:=my.2 ⟨d1,d2,UZ⟩
   obtain ⟨x,hx,rfl⟩:=Zs ht
   exact k2 ⟨(k:Nat),l[x].at k,l[x].de⟩ ((oq (Zz _)).2 ⟨x,hx,k,hk,hj,rfl⟩)
theorem Es {po:List Po} {v:Int} {o:ByteArray}:ny po v o=true↔∃ p∈po,p.lv=v∧p.ip=o:=by
 unfold ny zK
 rw [ZM]
 exact ⟨fun ⟨p,hp,h⟩=>⟨p,hp,by simpa using h⟩,fun ⟨p,hp,h⟩=>⟨p,hp,by simpa using h⟩⟩
end Go.Proofs.A1
