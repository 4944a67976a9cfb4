/- Parts of the proof: KN KO KP KQ KR KS KT KU KW KX KYq P5p. -/
import Derived.Test.YteonnodafmegaaaGreatDoorAM08
import Derived.Test.YteonnodafmegaaaGreatDoorAM04
import Derived.Test.YteonnodafmegaaaGreatDoorAM03
import Derived.Shelf.Slices.In.SortNone
import Derived.Test.YteonnodafmegaaaGreatDoorAM02
import Derived.Test.YteonnodafmegaaaGreatDoorAM05
import Derived.Test.YteonnodafmegaaaGreatDoorAM07
import Derived.Test.YteonnodafmegaaaGreatDoorAM01
set_option linter.unusedSectionVars false
set_option linter.unusedVariables false
set_option linter.unusedSimpArgs false
namespace Go.Proofs.A1
open Go Go.SL
theorem LK (l:List Int):∀ r∈ints l,r.length=1:=fun r hr=>by obtain ⟨x,_,rfl⟩:=List.mem_map.1 hr;rfl
theorem kb {c:Cx} {hs hs':List ba} {w:World} {l:List Int} {E:TypeId} {v:Value} {n:Nat} (hm:Mem c hs w) (ht:Take hs (row E 1 v n (l.map (Value.int .i64))) hs') (hn:l.length=n):Rd w v 1 (ints l):=hm.o9 ht (xx l) (LK l) (by rw [cZ,hn])
set_option maxHeartbeats 1000000 in
theorem DV {r:Ro} {s d t p:Value} (v:Int) (so:ByteArray) {w:World} (h:RR w r s d t p) (cJ:r.ti.length≤1000) (Ps:so∈cz r) :
  bd Tryz.prog 152 [RA r s d t p,.int .i64 v,.string so] w [] (fun _:Value=>True) id (fun x=>[row 3 1 x (fU r v so r.ti.length).length ((fU r v so r.ti.length).map (Value.int .i64))]):=by
 have h1:=Rd.one h.sr
 have h2:=Rd.one h.de
 have h3:=Rd.one h.ti
 have h4:=Rd.one h.po
 have hti:=h.ti
 obtain ⟨a,cp,b,o',rfl,df,bO,ha,hc⟩:=hti
 have Pp:=h.sr
 obtain ⟨a2,nn,b2,o2,rfl,jX,eW,je,jH⟩:=Pp
 rw [bN] at *
 rw [cC] at *
 unfold maxLen at bO eW
 obtain ⟨i0,vT⟩:∃ i:Nat,bA (cz r) so=(i:Nat):=⟨(bA (cz r) so).toNat,by have:=eu Ps;omega⟩
 have H8:i0<r.sr.length:=by
  obtain ⟨hl,_⟩:=fw (l:=cz r) (s:=so) (by omega)
  rw [vT,Int.toNat_natCast] at hl
  unfold cz at hl;rwa [List.length_map] at hl
 have zh:qq r so=(r.sr[i0]).mx:=by unfold qq;rw [vT,Int.toNat_natCast,List.getD_eq_getElem?_getD,List.getElem?_eq_getElem H8];rfl
 have hsrc:∀ w',aF [] w w'→aj Tryz.prog 180 [.agg #[.int .i64 r.lv,.int .i64 r.ma,.slice a2 r.sr.length nn,d,.slice a r.ti.length cp,p],.string so] w' (.int .i64 (i0:Nat)):=fun w' hk=>vT ▸ ny so (h.keeps hk)
 have sS:=je (im H8)
 have eL:=(jH i0 _ (fD H8)).2
 unfold Sr.cells at eL
 have QK:=eL 1 _ rfl
 unfold RA
 refine aR Tryz.func152 rfl rfl ?_
 refine Jr<|Jy rfl rfl fun _ _=>Ja rfl<|Jn<|Jq ?_
 rename_i b3 rG
 with_reducible refine cQ 9 (by kernel_rfl) ?_
 (refine an kr rfl ?_;refine an (gp .here) rfl ?_;refine an (cr .here) rfl ?_;refine an lx rfl ?_;refine aU aZ rfl (fun w' az=>(hsrc w' (Mem.keeps az))) ?_;refine an (aC (.of rfl) (.of rfl) sS (by omega) (by omega) bo) rfl ?_;refine an kr rfl ?_;refine an (ai (.of rfl) (At.base QK rfl)) rfl ?_;refine en (aA (.cons (.of rfl) .nil) rfl rfl rfl rfl) rfl rfl ?_)
 with_reducible refine dy rfl fun bq mT=>?_
 rw [← zh]
 (refine Ja rfl<|Jn<|Jq<|Jr<|bF rfl rfl ae ?_;refine JL rfl (.there .here) rfl<|JI rfl<|Jv rfl<|Jn<|J0 ?_)
 refine bQ (g:=bq) (E:=3) (ys:=[.int .i64 (qq r so)]) 1 1 (by exact .here) rfl rfl rfl ?_
 refine aX (ι:=Nat×Value) (fun x=>x.1≤r.ti.length) (fun x=>[(22,.int .i64 (x.1:Nat)),(21,.int .i64 (r.ti.length:Nat)),(20,.slice a r.ti.length cp),(7,x.2),(3,.pointer (some ⟨b3,0,none⟩)),(1,.int .i64 v),(2,.string so)])
  (fun x=>[row 3 1 x.2 (fU r v so x.1).length ((fU r v so x.1).map (Value.int .i64)),JP b3 r (.slice a2 r.sr.length nn) d (.slice a r.ti.length cp) p]) (fun x=>r.ti.length-x.1) ?_ ?_
 ·apply aK (0,.slice (some ⟨bq,0,none⟩) 1 1) (Nat.zero_le _)
  case hs1=>exact cn
  case ht=>
   exact .cons .here (.cons .here .nil)
 rintro ⟨k,ov⟩ hk
 dsimp only at hk ⊢
 have R6:=AK r v so k
 by_cases aN:k<r.ti.length
 ·have cM:=ha (eT aN)
  have aD:=(hc k _ (ed aN)).2
  unfold Ti.cells at aD
  have zf:=mu aN
  have xy:gy r k=(r.ti[k]).nm:=by unfold gy;rw [zf]
  have U5:fU r v so (k+1)=if wb r v so k&&!(fU r v so k).contains (r.ti[k]).to then fU r v so k++[(r.ti[k]).to] else fU r v so k:=by rw [fU,zf]
  generalize hL:fU r v so k=L at R6 U5 ⊢
  have FE:L.length=L.length:=rfl
  have Bo:∀ w',aF [] w w'→aj Tryz.prog 121 [.agg #[.int .i64 r.lv,.int .i64 r.ma,.slice a2 r.sr.length nn,d,.slice a r.ti.length cp,p],.int .i64 v,.string (r.ti[k]).nm] w' (.bool (iT r.po v (r.ti[k]).nm)):=fun w' hk=>pW v _ (h.keeps hk)
  have vB:∀ w',aF [] w w'→aj Tryz.prog 126 [.agg #[.int .i64 r.lv,.int .i64 r.ma,.slice a2 r.sr.length nn,d,.slice a r.ti.length cp,p],.int .i64 v,.string (r.ti[k]).nm] w' (.string (kQ r v (r.ti[k]).nm)):=fun w' hk=>oS v _ (h.keeps hk) (by omega)
  have Ig:∀ (w':World),Rd w' ov 1 (ints L)→aj Tryz.prog 154 [ov,.int .i64 (r.ti[k]).to] w' (.bool (L.contains (r.ti[k]).to)):=fun w' hr=>kM _ hr
  have skip:(wb r v so k&&!L.contains (r.ti[k]).to)=false→fU r v so (k+1)=L:=fun e=>by rw [U5,e];rfl
  cases Aa:iT r.po v (r.ti[k]).nm with
  | false =>
   have Bp:∀ w',aF [] w w'→aj Tryz.prog 121 [.agg #[.int .i64 r.lv,.int .i64 r.ma,.slice a2 r.sr.length nn,d,.slice a r.ti.length cp,p],.int .i64 v,.string (r.ti[k]).nm] w' (.bool false):=fun w' hk=>Aa ▸ Bo w' hk
   have R2:=skip (by unfold wb;rw [xy,Aa];rfl)
   (refine Jr<|JA rfl<|Jn<|Jq<|Jd rfl fun aq=>Jk<|Jq<|J0<|Jr<|ab (fM cM aq) rfl ?_;refine ab (iz (eG.base aD rfl)) rfl ?_;refine Jz rfl rfl fun _ _=>ao (.of rfl) (.of rfl) .here rfl rfl (fk rfl rfl rfl) (bE rfl) ak ?_;refine Ji<|ab (cr bI) rfl ?_;refine Jv rfl<|bF rfl rfl ae ?_;refine JL rfl .here rfl<|ag dK rfl (fun w' az=>(Bp w' (Mem.keeps az))) ?_;refine Jv rfl<|aI rfl rfl inferInstance (fun hg bL=>(cF (.of rfl) bI ak (by rfl))) rfl ?_;refine jT rfl rfl rfl rfl ?_;refine aI rfl rfl inferInstance (fun hg bL=>(ar (.of rfl) ae)) rfl ?_;refine aI rfl rfl inferInstance (fun hg bL=>(ai (.cA bL rfl) (At.lit .here rfl))) rfl ?_;refine ew rfl rfl rfl rfl ?_;refine jT rfl rfl rfl rfl ?_;refine ew rfl rfl rfl rfl ?_;refine ab (cN (.of rfl) (.of rfl) (.of rfl) rfl) rfl ?_;refine Jv rfl<|jT rfl rfl rfl rfl ?_;refine aI rfl rfl inferInstance (fun hg bL=>(ar (.of rfl) ae)) rfl ?_;refine aI rfl rfl inferInstance (fun hg bL=>(ai (.cA bL rfl) (At.lit .here rfl))) rfl ?_;refine ew rfl rfl rfl rfl ?_;refine aI rfl rfl inferInstance (fun hg bL=>(fG (.cA bL rfl))) rfl ?_;refine ab (cN (.of rfl) (.of rfl) (.of rfl) rfl) rfl ?_;refine Jn<|bR (.of rfl) ?_;refine Jw<|Jj<|Jt<|Jg<|JB rfl (by omega)<|Jv rfl<|Jn ?_)
   apply aL (k+1,ov) (show k+1≤r.ti.length by omega) (show r.ti.length-(k+1)<r.ti.length-k by omega)
   case hs1=>exact cn
   case ht=>
    rw [R2]
    exact .cons (.there .here) (.cons (.there .here) .nil)
  | true =>
   have Bp:∀ w',aF [] w w'→aj Tryz.prog 121 [.agg #[.int .i64 r.lv,.int .i64 r.ma,.slice a2 r.sr.length nn,d,.slice a r.ti.length cp,p],.int .i64 v,.string (r.ti[k]).nm] w' (.bool true):=fun w' hk=>Aa ▸ Bo w' hk
   by_cases zg:kQ r v (r.ti[k]).nm=so
   ·cases FB:L.contains (r.ti[k]).to with
    | true =>
     have L9:∀ (w':World),Rd w' ov 1 (ints L)→aj Tryz.prog 154 [ov,.int .i64 (r.ti[k]).to] w' (.bool true):=fun w' hr=>FB ▸ Ig w' hr
     have R2:=skip (by rw [FB,Bool.not_true,Bool.and_false])
     (refine Jr<|JA rfl<|Jn<|Jq<|Jd rfl fun aq=>Jk<|Jq<|J0<|Jr<|ab (fM cM aq) rfl ?_;refine ab (iz (eG.base aD rfl)) rfl ?_;refine Jz rfl rfl fun _ _=>ao (.of rfl) (.of rfl) .here rfl rfl (fk rfl rfl rfl) (bE rfl) ak ?_;refine Ji<|ab (cr bI) rfl ?_;refine Jv rfl<|bF rfl rfl ae ?_;refine JL rfl .here rfl<|ag dK rfl (fun w' az=>(Bp w' (Mem.keeps az))) ?_;refine Jv rfl<|JK rfl rfl<|ab (cr bI) rfl ?_;refine JK rfl rfl<|Jv rfl<|JK rfl rfl<|bF rfl rfl ae ?_;refine JK rfl rfl<|JL rfl .here rfl<|JK rfl rfl<|ag dK rfl (fun w' az=>(vB w' (Mem.keeps az))) ?_;refine JK rfl rfl<|Jv rfl<|JK rfl rfl<|ab (ui (.of rfl) (.of rfl) zg) rfl ?_;refine ab (eD (.of rfl) (.of rfl) (.of rfl) rfl) rfl ?_;refine Jv rfl<|JK rfl rfl<|Jv rfl<|JK rfl rfl<|bF rfl rfl ae ?_;refine JK rfl rfl<|JL rfl .here rfl<|JK rfl rfl<|ag aZ rfl (fun w' az=>(L9 w' (kb az (.there .here) FE))) ?_;refine JK rfl rfl<|JH rfl<|ab (cN (.of rfl) (.of rfl) (.of rfl) rfl) rfl ?_;refine Jn<|bR (.of rfl) ?_;refine Jw<|Jj<|Jt<|Jg<|JB rfl (by omega)<|Jv rfl<|Jn ?_)
     apply aL (k+1,ov) (show k+1≤r.ti.length by omega) (show r.ti.length-(k+1)<r.ti.length-k by omega)
     case hs1=>exact cn
     case ht=>
      rw [R2]
      exact .cons (.there .here) (.cons (.there .here) .nil)
    | false =>
     have L9:∀ (w':World),Rd w' ov 1 (ints L)→aj Tryz.prog 154 [ov,.int .i64 (r.ti[k]).to] w' (.bool false):=fun w' hr=>FB ▸ Ig w' hr
     have pe:fU r v so (k+1)=L++[(r.ti[k]).to]:=by rw [U5,FB];unfold wb;rw [xy,Aa,decide_eq_true zg];rfl
     have PF:(L.map (Value.int .i64)).length=L.length*1:=by rw [List.length_map,Nat.mul_one]
     (refine Jr<|JA rfl<|Jn<|Jq<|Jd rfl fun aq=>Jk<|Jq<|J0<|Jr<|ab (fM cM aq) rfl ?_;refine ab (iz (eG.base aD rfl)) rfl ?_;refine Jz rfl rfl fun _ _=>ao (.of rfl) (.of rfl) .here rfl rfl (fk rfl rfl rfl) (bE rfl) ak ?_;refine Ji<|ab (cr bI) rfl ?_;refine Jv rfl<|bF rfl rfl ae ?_;refine JL rfl .here rfl<|ag dK rfl (fun w' az=>(Bp w' (Mem.keeps az))) ?_;refine Jv rfl<|JK rfl rfl<|ab (cr bI) rfl ?_;refine JK rfl rfl<|Jv rfl<|JK rfl rfl<|bF rfl rfl ae ?_;refine JK rfl rfl<|JL rfl .here rfl<|JK rfl rfl<|ag dK rfl (fun w' az=>(vB w' (Mem.keeps az))) ?_;refine JK rfl rfl<|Jv rfl<|JK rfl rfl<|ab (ui (.of rfl) (.of rfl) zg) rfl ?_;refine ab (eD (.of rfl) (.of rfl) (.of rfl) rfl) rfl ?_;refine Jv rfl<|JK rfl rfl<|Jv rfl<|JK rfl rfl<|bF rfl rfl ae ?_;refine JK rfl rfl<|JL rfl .here rfl<|JK rfl rfl<|ag aZ rfl (fun w' az=>(L9 w' (kb az (.there .here) FE))) ?_;refine JK rfl rfl<|JH rfl<|ab (eD (.of rfl) (.of rfl) (.of rfl) rfl) rfl ?_;refine Jn<|cR (.of rfl) ?_;refine Jg<|Jv rfl<|bF rfl rfl ae ?_;refine JL rfl .here rfl<|bb (aA (.cons (.of rfl) .nil) rfl rfl rfl rfl) rfl fun _ _=>?_)
     refine bz (.of rfl) (.of rfl) bI .here ak (by rfl) (dZ rfl) (by rfl) (by rfl) (by rfl) ep (by rfl) ?_
     intro v'
     refine Ja rfl<|Jx<|Jj<|Jt<|Jg<|JB rfl (by omega)<|Jv rfl<|Jn ?_
     apply aL (k+1,v') (show k+1≤r.ti.length by omega) (show r.ti.length-(k+1)<r.ti.length-k by omega)
     case hs1=>exact cn
     case ht=>
      rw [pe,List.length_append,List.map_append]
      exact .cons .here (.cons bI .nil)
   ·have R2:=skip (by unfold wb;rw [xy,Aa,decide_eq_false zg];rfl)
    (refine Jr<|JA rfl<|Jn<|Jq<|Jd rfl fun aq=>Jk<|Jq<|J0<|Jr<|ab (fM cM aq) rfl ?_;refine ab (iz (eG.base aD rfl)) rfl ?_;refine Jz rfl rfl fun _ _=>ao (.of rfl) (.of rfl) .here rfl rfl (fk rfl rfl rfl) (bE rfl) ak ?_;refine Ji<|ab (cr bI) rfl ?_;refine Jv rfl<|bF rfl rfl ae ?_;refine JL rfl .here rfl<|ag dK rfl (fun w' az=>(Bp w' (Mem.keeps az))) ?_;refine Jv rfl<|JK rfl rfl<|ab (cr bI) rfl ?_;refine JK rfl rfl<|Jv rfl<|JK rfl rfl<|bF rfl rfl ae ?_;refine JK rfl rfl<|JL rfl .here rfl<|JK rfl rfl<|ag dK rfl (fun w' az=>(vB w' (Mem.keeps az))) ?_;refine JK rfl rfl<|Jv rfl<|JK rfl rfl<|ab (AT (.of rfl) (.of rfl) zg) rfl ?_;refine ab (cN (.of rfl) (.of rfl) (.of rfl) rfl) rfl ?_;refine Jv rfl<|jT rfl rfl rfl rfl ?_;refine aI rfl rfl inferInstance (fun hg bL=>(ar (.of rfl) ae)) rfl ?_;refine aI rfl rfl inferInstance (fun hg bL=>(ai (.cA bL rfl) (At.lit .here rfl))) rfl ?_;refine ew rfl rfl rfl rfl ?_;refine aI rfl rfl inferInstance (fun hg bL=>(fG (.cA bL rfl))) rfl ?_;refine ab (cN (.of rfl) (.of rfl) (.of rfl) rfl) rfl ?_;refine Jn<|bR (.of rfl) ?_;refine Jw<|Jj<|Jt<|Jg<|JB rfl (by omega)<|Jv rfl<|Jn ?_)
    apply aL (k+1,ov) (show k+1≤r.ti.length by omega) (show r.ti.length-(k+1)<r.ti.length-k by omega)
    case hs1=>exact cn
    case ht=>
     rw [R2]
     exact .cons (.there .here) (.cons (.there .here) .nil)
 ·obtain rfl:k=r.ti.length:=by omega
  refine Jr<|JA rfl<|Jn<|Jq<|Jc rfl fun aq=>Jp<|Jl<|Jo<|Jt<|Jr<|Jv rfl<|Ja rfl<|Jn<|Je ?_
  first | with_reducible apply aO | with_reducible apply aP
  case he=>exact dj rfl rfl
  case hR=>
   intro w' az
   exact aB ov trivial (by exact .cons .here .nil) az rfl
end Go.Proofs.A1
namespace Go.Proofs.A1
open Go Go.SL Go.Shelf Go.RowKit
def qp (l:List Int):List Int:=l.mergeSort fun x y=>decide (x≤y)
theorem qn (l:List Int):(qp l).length=l.length:=List.length_mergeSort _
theorem GA (l:List Int):List.Perm (qp l) l:=List.mergeSort_perm _ _
theorem KU (l:List Int):(qp l).Pairwise (·≤·):=by
 have:=List.pairwise_mergeSort (le:=fun x y:Int=>decide (x≤y)) (fun a b c h1 h2=>by simp at *;omega) (fun a b=>by simp;omega) l
 exact this.imp fun h=>by simpa using h
theorem G3 {α:Type} [Inhabited α] {enc:α→Value} {w:World} {g n:Nat} {os:Array Obj} {cur:Array Value} {e:TypeId} {fr:Nat×Nat} (d:Array α) (hb:w.heap[g]? = some (.cells cur e fr)) :
  (Go.Sort.grow (Go.Sort.putRow enc (Go.Sort.ahead w n) g 0 d) os).heap[g]? = some (.cells (Go.Sort.putCells enc 0 d cur) e fr):=by
 have hg:g<w.heap.size:=(Array.getElem?_eq_some_iff.1 hb).1
 rw [Go.Sort.heap_grow_old _ _ (by simpa using hg)]
 simp [Go.Sort.putRow,Go.Sort.mapBlock,Go.Sort.ahead,Array.getElem?_modify,hb,Go.Sort.onCells]
theorem Fc {α:Type} [Inhabited α] {enc:α→Value} {w:World} {g n:Nat} {os:Array Obj} (d:Array α):aF [g] w (Go.Sort.grow (Go.Sort.putRow enc (Go.Sort.ahead w n) g 0 d) os):=by
 refine ⟨rfl,rfl,rfl,Nat.le_add_right _ _,by simp,fun k hk hne=>?_⟩
 rw [Go.Sort.heap_grow_old _ _ (by simpa using hk)]
 have:g≠k:=fun e=>hne (by rw [e];simp)
 simp [Go.Sort.putRow,Go.Sort.mapBlock,Go.Sort.ahead,Array.getElem?_modify,this]
theorem Gv {α:Type} [Inhabited α] {enc:α→Value} (cur:Array Value) (ts:List α) (h:ts.length≤cur.size):(Go.Sort.putCells enc 0 ts.toArray cur).toList.take ts.length=ts.map enc:=by
 apply List.ext_getElem?
 intro j
 by_cases hj:j<ts.length
 ·rw [List.getElem?_take_of_lt hj,Array.getElem?_toList]
  simp [Go.Sort.putCells,hj,show j<cur.size by omega]
 ·rw [List.getElem?_take_eq_none (by omega),List.getElem?_eq_none (by simp;omega)]
theorem CX {w:World} {g:Nat} {cur:Array Value} {e:TypeId} {l:List Int} (hb:w.heap[g]? = some (.cells cur e (0,0))) (ht:cur.toList.take l.length=l.map (Value.int .i64)):Go.Sort.Holds (Value.int .i64) w g 0 l.toArray:=by
 intro j hj
 have lI:j<l.length:=by simpa using hj
 refine ⟨?_,by simp [World.frozen?,hb]⟩
 have h1:(cur.toList.take l.length)[j]? = (l.map (Value.int .i64))[j]?:=by rw [ht]
 rw [List.getElem?_take_of_lt lI] at h1
 simp only [World.cell?,hb,Nat.zero_add]
 simp only [Option.isSome_none,Bool.false_eq_true,if_false]
 rw [Array.getElem?_toList] at h1
 rw [h1]
 simp [lI]
theorem Oy {v:Value} {l:List Int} {n:Nat} {w:World} {fp:List Nat} (hn:n=l.length) (hl:n≤1000000) (hs:bY (hp w) [row 3 1 v n (l.map (Value.int .i64))] fp) :
  bd Tryz.prog 156 [v] w fp (fun _:Unit=>True) (fun _=>.tuple #[]) (fun _=>[row 3 1 v n ((qp l).map (Value.int .i64))]):=by
 obtain ⟨f1,f2,rfl,h1,h2⟩:=hs
 obtain rfl:f2=[]:=h2
 obtain ⟨rfl,hlen,h1⟩:=h1
 rw [List.append_nil]
 rcases h1 with ⟨rfl,h0⟩ | ⟨g,cap,cur,rfl,hg,jY,jH,pL,zo⟩
 ·have pK:l=[]:=List.eq_nil_of_length_eq_zero (by omega)
  refine (Any.slices_Sort_int_none Tryz.Eb none 0 w).mono fun e w' ⟨he,hw⟩=>?_
  subst hw
  refine ⟨(),he,trivial,.refl _ _,[],List.nodup_nil,⟨[],[],rfl,⟨rfl,?_,.inl ⟨rfl,h0⟩⟩,rfl⟩,by simp⟩
  rw [List.length_map,qn];omega
 ·rw [Nat.mul_one] at pL zo
  have PN:g<w.heap.size:=(Array.getElem?_eq_some_iff.1 hg).1
  subst hn
  refine (Tryz.slices_Sort_int g 0 cap l w (CX hg zo) PN (by omega)).mono fun e w' ⟨he,m,os,hw⟩=>?_
  subst hw
  refine ⟨(),he,trivial,Fc _,[g],by simp,⟨[g],[],rfl,⟨rfl,?_,.inr ⟨g,cap,_,rfl,G3 _ hg,jY,jH,?_,?_⟩⟩,rfl⟩,by simp [Value.ownBlock]⟩
  ·rw [List.length_map,qn];omega
  ·simp [Go.Sort.putCells,pL]
  ·rw [Nat.mul_one]
   have:=Gv (enc:=Value.int .i64) cur (qp l) (by rw [qn];omega)
   rw [qn] at this
   exact this
def IF (r:Ro) (v:Int) (so de:ByteArray):Int:=if py r v so de≠0 then py r v so de else if Kb r v so (nk r de) then 24 else 0
def FL (r:Ro) (v:Int) (so de:ByteArray):List Int:=if py r v so de≠0 then [] else if Kb r v so (nk r de) then [] else u4 r v so
theorem Ri {L:List Int} {i:Nat} (h:i<L.length) (cur:List Value):(L.map (Value.int .i64)++cur)[i*1]? = some (.int .i64 L[i]):=by
 rw [Nat.mul_one,List.getElem?_append_left (by rw [List.length_map];exact h),List.getElem?_map,List.getElem?_eq_getElem h];rfl
structure vq (r:Ro) (v:Int) (so:ByteArray) (L:List Int) (m:Int) (L':List Int) (k:Nat):Prop where
 pre:L <+: L'
 nd:L'.Nodup
 rc:∀ x∈L',(fo r r.po v so).Rc x
 dn:∀ j,j<k→∀ t,(fc r v m r.ti.length)[j]? = some t→(ij r t).to∈L'
theorem vq.C8 {r:Ro} (eK:sJ r) {v:Int} {so:ByteArray} (hs:so∈cz r) {L L':List Int} {m:Int} {k:Nat} (h:vq r v so L m L' k):L'.length≤4:=by
 have hl:=eK.lim
 refine Ee h.nd fun x hx=>?_
 have:=uq eK hs (h.rc x hx)
 omega
theorem vq.stay {r:Ro} {v:Int} {so:ByteArray} {L L':List Int} {m:Int} {k t:Nat} (h:vq r v so L m L' k) (ht:(fc r v m r.ti.length)[k]? = some t) (hc:(ij r t).to∈L'):vq r v so L m L' (k+1):=by
 refine ⟨h.pre,h.nd,h.rc,fun j hj t' Fp=>?_⟩
 by_cases e:j=k
 ·subst e
  rw [ht] at Fp
  cases Fp
  exact hc
 ·exact h.dn j (by omega) t' Fp
theorem vq.add {r:Ro} {v:Int} {so:ByteArray} {L L':List Int} {m:Int} {k t:Nat} (h:vq r v so L m L' k) (hm:m∈L) (ht:(fc r v m r.ti.length)[k]? = some t) (hc:¬ (ij r t).to∈L'):vq r v so L m (L'++[(ij r t).to]) (k+1):=by
 have jj:=List.mem_of_getElem? ht
 unfold fc at jj
 rw [List.mem_filter,List.mem_range,pN v so,Bool.and_eq_true,decide_eq_true_eq] at jj
 have Va:(fo r r.po v so).Rc (ij r t).to:=Wn.Rc.fe (N:=fo r r.po v so) jj.1 jj.2.2 (by rw [jj.2.1];exact h.rc m (h.pre.subset hm))
 have h2:vq r v so L m (L'++[(ij r t).to]) k:=by
  refine ⟨h.pre.trans (List.prefix_append _ _),?_,fun x hx=>?_,fun j hj t' Fp=>List.mem_append_left _ (h.dn j hj t' Fp)⟩
  ·rw [List.nodup_append]
   refine ⟨h.nd,by simp,fun a ha b hb e=>?_⟩
   rw [List.mem_singleton] at hb
   subst hb;subst e
   exact hc ha
  ·rcases List.mem_append.1 hx with hx | hx
   ·exact h.rc x hx
   ·rw [List.mem_singleton.1 hx];exact Va
 exact h2.stay ht (by simp)
theorem vr.next {r:Ro} {v:Int} {so:ByteArray} {L L':List Int} {m:Int} {i:Nat} (h:vr r v so L i) (hi:L[i]? = some m) (hJ:vq r v so L m L' (fc r v m r.ti.length).length):vr r v so L' (i+1)∧i+1≤L'.length:=by
 have iK:=(List.getElem?_eq_some_iff.1 hi).1
 have zY:=hJ.pre.length_le
 refine ⟨⟨hJ.nd,hJ.rc,fun x hx=>hJ.pre.subset (h.rt x hx),fun j x hj hx t ht hf=>?_⟩,by omega⟩
 have Pc:L[j]? = some x:=by
  rw [← hx]
  obtain ⟨q,rfl⟩:=hJ.pre
  rw [List.getElem?_append_left (by omega)]
 by_cases e:j=i
 ·subst e
  rw [hi] at Pc
  cases Pc
  have hm:t∈fc r v m r.ti.length:=by unfold fc;exact List.mem_filter.2 ⟨List.mem_range.2 ht,hf⟩
  obtain ⟨q,hq,e⟩:=List.getElem_of_mem hm
  exact hJ.dn q hq t (by rw [List.getElem?_eq_getElem hq,e])
 ·exact hJ.pre.subset (h.dn j x (by omega) Pc t ht hf)
set_option maxHeartbeats 2000000 in
theorem TF {r:Ro} {s d t p:Value} (v:Int) (so de:ByteArray) {w:World} (h:RR w r s d t p) (cJ:mP r):bd Tryz.prog 36 [RA r s d t p,.int .i64 v,.string so,.string de] w [] (fun _:Value=>True) (fun x=>.tuple #[x,.int .i64 (IF r v so de)]) (fun x=>[row 3 1 x (FL r v so de).length ((FL r v so de).map (Value.int .i64))]):=by
 have h1:=Rd.one h.sr
 have h2:=Rd.one h.de
 have h3:=Rd.one h.ti
 have h4:=Rd.one h.po
 have lO:=h.de
 obtain ⟨a3,rP,b3,o3,rfl,mS,fX,sR,pL⟩:=lO
 rw [bX] at *
 unfold maxLen at fX
 unfold RA
 refine aR Tryz.func36 rfl rfl ?_
 (refine Jr<|Jy rfl rfl fun _ _=>Ja rfl<|Ja rfl<|Jn<|Jq<|Jr<|ab (cr .here) rfl ?_;refine Jv rfl<|Jv rfl<|Jv rfl ?_)
 rename_i b4 vC
 refine ag eS rfl (fun w' az=>pT (s:=s) (d:=.slice a3 r.de.length rP) (t:=t) (p:=p) v so de (h.keeps az.keeps) cJ) ?_
 (refine Ja rfl<|Ji<|Jv rfl<|JD rfl<|Jn<|fY rfl (fun aq=>?_) fun aq=>?_;refine Jr<|Jv rfl<|Ja rfl<|Ja rfl<|Jn<|Ju ?_;rotate_left;refine Jk<|Jr<|ab (cr .here) rfl ?_;refine Jv rfl<|Jv rfl ?_;rotate_right)
 ·have e1:FL r v so de=[]:=if_pos aq
  have e2:IF r v so de=py r v so de:=if_pos aq
  rw [e1,e2]
  refine aQ 3 1 ?_
  first | with_reducible apply aO | with_reducible apply aP
  case he=>exact fL rfl rfl rfl
  case hR=>
   intro w' az
   exact aB (.slice none 0 0) trivial (by exact .cons .here .nil) az rfl
 have e0:py r v so de=0:=Decidable.not_not.1 aq
 obtain ⟨eK,hv,rE,fy⟩:=yf e0
 have e1:FL r v so de=if Kb r v so (nk r de) then [] else u4 r v so:=if_neg aq
 have e2:IF r v so de=if Kb r v so (nk r de) then 24 else 0:=if_neg aq
 clear aq
 have ht6:=eK.len.2.2
 obtain ⟨j0,zk⟩:∃ i:Nat,bA (cm r) de=(i:Nat):=⟨(bA (cm r) de).toNat,by have:=eu fy;omega⟩
 have Bm:j0<r.de.length:=by
  obtain ⟨hl,_⟩:=fw (l:=cm r) (s:=de) (by omega)
  rw [zk,Int.toNat_natCast] at hl
  unfold cm at hl;rwa [List.length_map] at hl
 have SF:nk r de=(r.de[j0]).mx:=by unfold nk;rw [zk,Int.toNat_natCast,List.getD_eq_getElem?_getD,List.getElem?_eq_getElem Bm];rfl
 have qT:∀ w',aF [] w w'→aj Tryz.prog 155 [.agg #[.int .i64 r.lv,.int .i64 r.ma,s,.slice a3 r.de.length rP,t,p],.string de] w' (.int .i64 (j0:Nat)):=fun w' hk=>zk ▸ fB de (h.keeps hk)
 have FC:=sR (gm Bm)
 have nR:=(pL j0 _ (fa Bm)).2
 unfold De.cells at nR
 have zn:=nR 1 _ rfl
 rw [e1,e2]
 refine JN dK rfl (fun w1 aJ=>DV (s:=s) (d:=.slice a3 r.de.length rP) (t:=t) (p:=p) v so (h.keeps aJ.keeps) (by omega) rE) ?_
 intro rv _
 dsimp only [id_eq,List.cons_append,List.nil_append]
 refine aW (by exact .here) fun ra Yj e=>?_
 subst e
 have hC:=vr.begin (v:=v) eK rE
 generalize fU r v so r.ti.length=L0 at hC ⊢
 (refine Jz rfl rfl fun _ _=>ao (.of rfl) (.of rfl) .here rfl rfl (dZ rfl) (bE rfl) ak ?_;refine Jn<|Jq<|Jr<|Ja rfl<|Jn<|J0 ?_)
 rename_i NX Wb
 refine DH (ι:=Nat×Value×List Int) (fun x=>vr r v so x.2.2 x.1∧x.1≤x.2.2.length) (fun x=>[(12,.int .i64 (x.1:Nat)),(11,.pointer (some ⟨NX,0,none⟩)),(4,.pointer (some ⟨b4,0,none⟩)),(1,.int .i64 v),(2,.string so),(3,.string de)])
  (fun x=>[bD NX (.cells #[x.2.1] 49 (0,0)),row 3 1 x.2.1 x.2.2.length (x.2.2.map (Value.int .i64)),JP b4 r s (.slice a3 r.de.length rP) t p]) (fun x=>4-x.1) ?_ ?_
 ·apply wy (0,.slice ra L0.length Yj,L0) ⟨hC,Nat.zero_le _⟩
  case hs1=>exact cn
  case ht=>
   exact .cons .here (.cons .here (.cons .here .nil))
 rintro ⟨i,ov,L⟩ ⟨hC,hiL⟩ D
 dsimp only at hC hiL ⊢
 have h4L:=hC.C8 eK rE
 have FE:L.length=L.length:=rfl
 refine aW (by exact Take.there .here) fun oa oc e=>?_
 subst e
 by_cases aN:i<L.length
 ·refine Jq<|Jr<|Jv rfl<|JL rfl .here rfl<|JI rfl<|JA rfl<|Jn<|Jd rfl fun aq=>Jk<|Jq<|J0<|Jq ?_
  refine db (by exact Take.there .here) (by omega) fun g gB cur e nS Fv CV Bl=>?_
  cases e
  have c1:=Ri aN cur
  with_reducible refine dN 6 (by kernel_rfl) ?_
  (refine aH (cr bI) rfl ?_;refine kZ rfl rfl ?_;refine aH (gp (.there .here)) rfl ?_;refine kZ rfl rfl ?_;refine aH (aC (.of rfl) (.of rfl) rfl (by omega) aq bo) rfl ?_;refine aH (ai (.of rfl) (At.mO .here c1)) rfl ?_)
  with_reducible refine dW ?_
  refine c8 (by exact .here) nS Fv CV Bl ?_
  with_reducible apply iX
  case hr=>exact dK
  case hd=>rfl
  case ht=>exact bj.nil
  case hc=>
   intro w1 fp aJ _ hs1
   obtain rfl:fp=[]:=hs1
   exact rD (s:=s) (d:=.slice a3 r.de.length rP) (t:=t) (p:=p) v L[i] (h.keeps aJ.keeps)
  intro y _
  dsimp only [id_eq,List.cons_append,List.nil_append]
  refine Jn<|J0 ?_
  have Bn:L[i]? = some L[i]:=List.getElem?_eq_getElem aN
  have jj:L[i]∈L:=List.getElem_mem aN
  generalize L[i]=m at Bn jj ⊢
  refine iP (ps:=[40,41]) (f:=240) (first:=[]) (cap:=[.pointer (some ⟨y.1,0,none⟩),.pointer (some ⟨y.2.1,0,none⟩),.pointer (some ⟨y.2.2,0,none⟩)]) (ι:=Value×List Int) (κ:=Empty)
   (rst:=[JP b4 r s (.slice a3 r.de.length rP) t p]) ?hg
   [JP y.1 r s (.slice a3 r.de.length rP) t p,bD y.2.1 (.cells #[.int .i64 m] 3 (0,0)),bD y.2.2 (.cells #[.int .i64 v] 3 (0,0))] (Kf r v m) ?hit
   (fun k x=>vq r v so L m x.2 k)
   (fun x=>[bD NX (.cells #[x.1] 49 (0,0)),row 3 1 x.1 x.2.length (x.2.map (Value.int .i64))])
   (fun _=>False) (fun _=>[]) (fun _=>.ret) (.slice (some ⟨g,0,none⟩) L.length oc,L) ⟨List.prefix_rfl,hC.nd,hC.rc,fun j hj=>absurd hj (Nat.not_lt_zero _)⟩ ?ht ?hlen ?hps ?round ?kn ?kj
  case hg=>exact Is.of rfl
  case hit=>intro w' az;exact Hu v m h RO.nil (by omega)
  case ht=>
   dsimp only [List.cons_append,List.nil_append]
   exact .cons ei (.cons cY (.cons .here (.cons .here (.cons .here .nil))))
  case hlen=>intro vs nP;obtain ⟨x,_,rfl⟩:=List.mem_map.1 nP;rfl
  case hps=>intro t ht;simp only [List.mem_cons,List.not_mem_nil,or_false] at ht;rcases ht with rfl | rfl <;> exact Nat.le_of_ble_eq_true rfl
  case kj=>intro y;cases y
  case kn=>
   rintro ⟨QB,L2⟩ D2 hJ
   dsimp only [List.cons_append,List.nil_append] at hJ ⊢
   rw [tx] at hJ
   obtain ⟨hC2,VA⟩:=hC.next Bn hJ
   refine Jj<|Jj<|Jt<|Jg<|Jv rfl<|JB rfl (by omega)<|Ja rfl<|Jn ?_
   apply Al (i+1,QB,L2) ⟨hC2,VA⟩ (show 4-(i+1)<4-i by omega)
   case hs1=>exact cn
   case ht=>
    exact .cons .here (.cons .here (.cons cY .nil))
  case round=>
   rintro l2 rc W2 S7 k ⟨QB,L2⟩ vs hsz hk hJ hB hF
   dsimp only at hJ
   obtain ⟨M0,RU,rfl,iK,T7⟩:=CM hk
   have Xi:=hJ.C8 eK rE
   have FE:L2.length=L2.length:=rfl
   have PF:(L2.map (Value.int .i64)).length=L2.length*1:=by rw [List.length_map,Nat.mul_one]
   have Ig:∀ (w':World) (QB:Value),Rd w' QB 1 (ints L2)→aj Tryz.prog 154 [QB,.int .i64 (ij r M0).to] w' (.bool (L2.contains (ij r M0).to)):=fun w' QB hr=>kM _ hr
   dsimp only [Ti.cells,List.zip_cons_cons,List.zip_nil_right,lF,List.cons_append,List.nil_append]
   (refine Jg<|Jz rfl rfl fun _ _=>ao (.of rfl) (.of rfl) .here rfl rfl (fk rfl rfl rfl) (bE rfl) ak ?_;refine Jn ?_)
   with_reducible apply lS
   case ht=>exact Take.there .here
   refine aW (E:=3) (sz:=1) cY fun va vc e=>?_
   subst e
   (refine J0<|Jr<|JL rfl bI rfl<|bF rfl rfl ae ?_;refine JL rfl (.there .here) rfl ?_)
   cases FB:L2.contains (ij r M0).to with
   | true =>
    have L9:∀ (w':World),Rd w' (.slice va L2.length vc) 1 (ints L2)→aj Tryz.prog 154 [.slice va L2.length vc,.int .i64 (ij r M0).to] w' (.bool true):=fun w' hr=>FB ▸ Ig w' _ hr
    (refine ag aZ rfl (fun w' az=>(L9 w' (kb az cY FE))) ?_;refine JH rfl<|Jn<|bR (.of rfl) ?_;refine Jw<|Jj ?_)
    apply k9 (.slice va L2.length vc,L2)
    case ht=>exact .here
    case hx=>exact hJ.stay RU (List.contains_iff_mem.1 FB)
    case h2=>exact .cons (.there .here) (.cons (.there .here) .nil)
   | false =>
    have L9:∀ (w':World),Rd w' (.slice va L2.length vc) 1 (ints L2)→aj Tryz.prog 154 [.slice va L2.length vc,.int .i64 (ij r M0).to] w' (.bool false):=fun w' hr=>FB ▸ Ig w' _ hr
    (refine ag aZ rfl (fun w' az=>(L9 w' (kb az cY FE))) ?_;refine JH rfl<|Jn<|cR (.of rfl) ?_;refine Jg<|JL rfl bI rfl<|bF rfl rfl ae ?_;refine JL rfl (.there .here) rfl<|bb (aA (.cons (.of rfl) .nil) rfl rfl rfl rfl) rfl fun _ _=>?_)
    refine bz (.of rfl) (.of rfl) ei .here ak (by rfl) (dZ rfl) (by rfl) (by rfl) (by rfl) ep (by rfl) ?_
    intro v'
    refine aW (by exact .here) fun a' dx e=>?_
    subst e
    (refine ao (.of rfl) (.of rfl) ei rfl rfl (dZ rfl) (bE rfl) ak ?_;refine Jx<|Jj ?_)
    apply k9 (.slice a' (L2.length+1) dx,L2++[(ij r M0).to])
    case ht=>exact cY
    case hx=>exact hJ.add jj RU (fun hm=>by rw [List.contains_iff_mem.2 hm] at FB;cases FB)
    case h2=>
     show bj _ [bD NX (.cells #[.slice a' (L2.length+1) dx] 49 (0,0)),row 3 1 (.slice a' (L2.length+1) dx) (L2++[(ij r M0).to]).length ((L2++[(ij r M0).to]).map (Value.int .i64))] _
     rw [List.length_append,List.map_append]
     exact .cons .here (.cons .here .nil)
 ·obtain rfl:i=L.length:=by omega
  have nQ:=hC.done eK rE
  have hcb:L.contains (nk r de)=Kb r v so (nk r de):=by rw [Bool.eq_iff_iff,List.contains_iff_mem,nQ,G1]
  have L9:∀ (w':World),Rd w' (.slice oa L.length oc) 1 (ints L)→aj Tryz.prog 154 [.slice oa L.length oc,.int .i64 (r.de[j0]).mx] w' (.bool (Kb r v so (nk r de))):=fun w' hr=>by
   rw [← hcb,SF];exact kM _ hr
  refine Jq<|Jr<|Jv rfl<|JL rfl .here rfl<|JI rfl<|JA rfl<|Jn<|Jc rfl fun aq=>Jp<|Jl<|Jo<|Jt<|Jq<|Jq ?_
  with_reducible refine dN 10 (by kernel_rfl) ?_
  (refine aH (gp .here) rfl ?_;refine np rfl rfl ae ?_;refine aH (gp bI) rfl ?_;refine aH (cr bI) rfl ?_;refine kZ rfl rfl ?_;refine eZ aZ rfl (fun w' az=>(qT w' (Mem.keeps az))) ?_;refine aH (aC (.of rfl) (.of rfl) FC (by omega) (by omega) bo) rfl ?_;refine np rfl rfl ae ?_;refine aH (ai (.of rfl) (At.base zn rfl)) rfl ?_;refine eZ aZ rfl (fun w' az=>(L9 w' (kb az (.there .here) FE))) ?_)
  with_reducible refine dW ?_
  cases hrb:Kb r v so (nk r de) with
  | true =>
   (refine Jn<|cR (.of rfl) ?_;refine Jr<|Ja rfl<|Ja rfl<|Jn<|Ju ?_)
   refine aQ 3 1 ?_
   first | with_reducible apply aO | with_reducible apply aP
   case he=>exact fL rfl rfl rfl
   case hR=>
    intro w' az
    exact aB (.slice none 0 0) trivial (by exact .cons .here .nil) az rfl
  | false =>
   (refine Jn<|bR (.of rfl) ?_;refine Jk<|Jr<|JL rfl .here rfl ?_)
   with_reducible apply fE (As:=[row 3 1 (.slice oa L.length oc) L.length (L.map (Value.int .i64))])
   case hr=>exact bC
   case hd=>rfl
   case ht=>exact sK
   case hc=>
    intro w1 Ad aJ uO hs1 B5 _
    exact Oy rfl (by omega) hs1
   intro _ _
   have LV:qp L=u4 r v so:=IE eK rE hC.nd nQ (GA L) (KU L)
   have T0:(u4 r v so).length=L.length:=by rw [← LV,qn]
   rw [LV]
   dsimp only [id_eq,List.cons_append,List.nil_append]
   refine Ji<|JL rfl (.there .here) rfl<|Ja rfl<|Ja rfl<|Jn<|Je ?_
   first | with_reducible apply aO | with_reducible apply aP
   case he=>exact fL rfl rfl rfl
   case hR=>
    intro w' az
    exact aB (.slice oa L.length oc) trivial (show bj _ [row 3 1 (.slice oa L.length oc) (u4 r v so).length ((u4 r v so).map (Value.int .i64))] _ by rw [T0];exact .cons .here .nil) az rfl
end Go.Proofs.A1
namespace Go.Proofs.A1
open Go Go.SL
theorem HL {lv:Value} {l:List Int} {p:Int→Bool} {f:FuncId} {first cap:List Value} [bP Tryz.prog f] {w:World} (h:Rd w lv 1 (ints l)) (ch:∀ x∈l,∀ w',aF [] w w'→aj Tryz.prog f (first++[.int .i64 x]++cap) w' (.bool (p x))) :
  aj Tryz.prog 247 [lv,.func (.func f) first.toArray cap.toArray] w (.int .i64 (gA p l)):=by
 obtain ⟨a,cp,b,o,rfl,df,bO,ha,hc⟩:=h
 rw [cZ] at *
 unfold maxLen at bO
 refine ah Tryz.func247 rfl rfl ?_
 refine Jr<|Ja rfl<|Jn<|Jq<|Jr<|Jv rfl<|JI rfl<|Jv rfl<|Jn<|J0 ?_
 refine aX (fun k:Nat=>k≤l.length∧∀ i,i<k→(l[i]?.map p).getD false=false) (fun k=>[(8,.int .i64 k),(7,.int .i64 l.length),(0,.slice a l.length cp),(1,.func (.func f) first.toArray cap.toArray)]) (fun _=>[]) (fun k=>l.length-k) ?_ ?_
 ·apply aK 0 ⟨Nat.zero_le _,fun i h=>by omega⟩
  case hs1=>exact cn
  case ht=>(try simp only [List.take_zero,List.map_nil,List.nil_append]);exact .nil
 rintro k ⟨hk,hf⟩
 by_cases aN:k<l.length
 ·have cM:=ha (jc aN)
  have c0:w.cell? ⟨b,o+k*1,none⟩=some (.int .i64 l[k]):=(hc k _ (gM aN)).2 0 _ rfl
  have ix:=ch _ (List.getElem_mem aN)
  have hps:(l[k]?.map p).getD false=p l[k]:=by simp [aN]
  (refine Jr<|JA rfl<|Jn<|Jq<|Jd rfl fun aq=>Jk<|Jq<|J0<|Jr<|Jv rfl<|Ja rfl<|Ji<|Jv rfl<|Jv rfl<|Jv rfl<|ab (fM cM aq) rfl ?_;refine ab (ai (.of rfl) (At.base c0 rfl)) rfl ?_;refine ag bC rfl (fun w' az=>(ix w' (Mem.keeps az))) ?_;refine Jn<|pV rfl (fun aq=>?_) fun aq=>?_;refine Jr<|Jv rfl<|Ja rfl<|Jn<|Je<|Jm<|Jh<|Jh<|Jm<|Jh<|JT ?_;rotate_left;refine Jw<|Jj<|Jt<|Jg<|JB rfl (by omega)<|Jv rfl<|Jn ?_;rotate_right)
  ·rw [fT hf aN aq]
  ·apply aL (k+1) ⟨by omega,fun i hi=>by
    by_cases e:i=k
    ·rw [e,hps];exact aq
    ·exact hf i (by omega)⟩ (by omega)
   case hs1=>exact cn
   case ht=>(try simp only [List.take_zero,List.map_nil,List.nil_append]);exact .nil
 ·obtain rfl:k=l.length:=by omega
  refine Jr<|JA rfl<|Jn<|Jq<|Jc rfl fun aq=>Jp<|Jl<|Jo<|Jt<|Jr<|Ja rfl<|Jn<|Je<|JT ?_
  rw [fm hf]
theorem uV {lv:Value} {l:List Int} {p:Int→Bool} {f:FuncId} {first cap:List Value} [bP Tryz.prog f] {w:World} (h:Rd w lv 1 (ints l)) (ch:∀ x∈l,∀ w',aF [] w w'→aj Tryz.prog f (first++[.int .i64 x]++cap) w' (.bool (p x))) :
  aj Tryz.prog 161 [lv,.func (.func f) first.toArray cap.toArray] w (.bool (l.any p)):=by
 have ix:∀ w',aF [] w w'→aj Tryz.prog 247 [lv,.func (.func f) first.toArray cap.toArray] w' (.int .i64 (gA p l)):=fun w' hk=>
  HL (h.keeps hk) fun x hx w2 ez=>ch x hx w2 (hk.trans ez)
 rw [← jF]
 refine ah Tryz.func161 rfl rfl ?_
 (refine Jr<|Ja rfl<|Ji<|Jv rfl<|Jv rfl<|ag aZ rfl (fun w' az=>(ix w' (Mem.keeps az))) ?_;refine JG rfl<|Ja rfl<|Jn<|Je<|JT ?_)
 rfl
theorem u6 {cv:Value} {L:List Int} (x:Int) {b:Nat} {w:World} (h:Rd w cv 1 (ints L)) (f1:w.cell? ⟨b,0,none⟩=some cv) :
  aj Tryz.prog 157 [.int .i64 x,.pointer (some ⟨b,0,none⟩)] w (.bool (L.contains x)):=by
 have h1:=Rd.one h
 refine ah Tryz.func157 rfl rfl ?_
 (refine Jr<|Ja rfl<|Ji<|ab (ai (.of rfl) (At.base f1 rfl)) rfl ?_;refine Jv rfl ?_)
 refine ag aZ rfl (fun w' az=>kM x (h.keeps az.keeps)) ?_
 refine Ja rfl<|Jn<|Je<|JT ?_
 rfl
theorem u5 {cv:Value} {L:List Int} (x:Int) {b b2:Nat} {w:World} (h:Rd w cv 1 (ints L)) (f1:w.cell? ⟨b,0,none⟩=some cv) (f2:w.cell? ⟨b2,0,none⟩=some (.func (.func 157) #[] #[.pointer (some ⟨b,0,none⟩)])) :
  aj Tryz.prog 158 [.int .i64 x,.pointer (some ⟨b2,0,none⟩)] w (.bool (!L.contains x)):=by
 refine ah Tryz.func158 rfl rfl ?_
 (refine Jr<|Ja rfl<|Ji<|ab (ai (.of rfl) (At.base f2 rfl)) rfl ?_;refine Jv rfl ?_)
 refine ag bC rfl (fun w' az=>u6 x (h.keeps az.keeps) (dJ f1 rfl (by simp) az.keeps)) ?_
 refine JH rfl<|Ja rfl<|Jn<|Je<|JT ?_
 rfl
def sg (r:Ro) (v:Int) (L:List Int) (x:Ti):Bool:=L.contains x.fr&&!L.contains x.to&&!iT r.po v x.nm
theorem Qf {r:Ro} {s d t p:Value} (v:Int) {cv:Value} {L:List Int} (x:Ti) {b b2 b3 b5 b6:Nat} {w:World} (hr:RR w r s d t p) (h:Rd w cv 1 (ints L)) (f1:w.cell? ⟨b,0,none⟩=some cv) (f2:w.cell? ⟨b2,0,none⟩=some (.func (.func 157) #[] #[.pointer (some ⟨b,0,none⟩)]))
  (f3:w.cell? ⟨b3,0,none⟩=some (.func (.func 158) #[] #[.pointer (some ⟨b2,0,none⟩)])) (hA:BR w b5 (RC r s d t p)) (f6:w.cell? ⟨b6,0,none⟩=some (.int .i64 v)) :
  aj Tryz.prog 160 [.agg x.cells.toArray,.pointer (some ⟨b2,0,none⟩),.pointer (some ⟨b3,0,none⟩),.pointer (some ⟨b5,0,none⟩),.pointer (some ⟨b6,0,none⟩)] w (.bool (sg r v L x)):=by
 have h1:=Rd.one hr.sr
 have h2:=Rd.one hr.de
 have h3:=Rd.one hr.ti
 have h4:=Rd.one hr.po
 have jI:∀ (j:Nat) (u:Value),[Value.int .i64 r.lv,.int .i64 r.ma,s,d,t,p][j]? = some u→w.cell? ⟨b5,0+j,none⟩=some u:=hA
 unfold Ti.cells
 refine ah Tryz.func160 rfl rfl ?_
 (refine Jr<|Jy rfl rfl fun _ _=>Ja rfl<|Ji<|ab (ai (.of rfl) (At.base f2 rfl)) rfl ?_;refine bF rfl rfl ae ?_;refine JL rfl .here rfl ?_)
 cases jY:L.contains x.fr with
 | false =>
  have hB:sg r v L x=false:=by unfold sg;rw [jY];rfl
  rw [hB]
  refine ag bC rfl (fun w' az=>jY ▸ u6 x.fr (h.keeps az.keeps) (dJ f1 rfl (by simp) az.keeps)) ?_
  (refine Jv rfl<|aI rfl rfl inferInstance (fun hg bL=>(ai (.of rfl) (At.base f3 rfl))) rfl ?_;refine aI rfl rfl inferInstance (fun hg bL=>(ar (.of rfl) ae)) rfl ?_;refine aI rfl rfl inferInstance (fun hg bL=>(ai (.cA bL rfl) (At.lit .here rfl))) rfl ?_;refine ew rfl rfl rfl rfl ?_;refine ab (cN (.of rfl) (.of rfl) (.of rfl) rfl) rfl ?_;refine Jv rfl<|aI rfl rfl inferInstance (fun hg bL=>(iY (.of rfl) (eG.base jI rfl) rfl)) rfl ?_;refine aI rfl rfl inferInstance (fun hg bL=>(ai (.of rfl) (At.base f6 rfl))) rfl ?_;refine aI rfl rfl inferInstance (fun hg bL=>(ar (.of rfl) ae)) rfl ?_;refine aI rfl rfl inferInstance (fun hg bL=>(ai (.cA bL rfl) (At.lit .here rfl))) rfl ?_;refine ew rfl rfl rfl rfl ?_;refine aI rfl rfl inferInstance (fun hg bL=>(fG (.cA bL rfl))) rfl ?_;refine ab (cN (.of rfl) (.of rfl) (.of rfl) rfl) rfl ?_;refine Ja rfl<|Jn<|Je<|JT ?_)
  rfl
 | true =>
  have hB:sg r v L x=(!L.contains x.to&&!iT r.po v x.nm):=by unfold sg;rw [jY];rfl
  rw [hB]
  refine ag bC rfl (fun w' az=>jY ▸ u6 x.fr (h.keeps az.keeps) (dJ f1 rfl (by simp) az.keeps)) ?_
  (refine Jv rfl<|JK rfl rfl<|ab (ai (.of rfl) (At.base f3 rfl)) rfl ?_;refine JK rfl rfl<|bF rfl rfl ae ?_;refine JK rfl rfl<|JL rfl .here rfl<|JK rfl rfl ?_)
  cases jH:L.contains x.to with
  | true =>
   with_reducible apply ag
   case hr=>exact bC
   case hd=>rfl
   case hc=>
    intro w' az
    have q:=u5 x.to (h.keeps az.keeps) (dJ f1 rfl (by simp) az.keeps) (dJ f2 rfl (by simp) az.keeps)
    rw [jH] at q
    exact q
   (refine ab (cN (.of rfl) (.of rfl) (.of rfl) rfl) rfl ?_;refine Jv rfl<|aI rfl rfl inferInstance (fun hg bL=>(iY (.of rfl) (eG.base jI rfl) rfl)) rfl ?_;refine aI rfl rfl inferInstance (fun hg bL=>(ai (.of rfl) (At.base f6 rfl))) rfl ?_;refine aI rfl rfl inferInstance (fun hg bL=>(ar (.of rfl) ae)) rfl ?_;refine aI rfl rfl inferInstance (fun hg bL=>(ai (.cA bL rfl) (At.lit .here rfl))) rfl ?_;refine ew rfl rfl rfl rfl ?_;refine aI rfl rfl inferInstance (fun hg bL=>(fG (.cA bL rfl))) rfl ?_;refine ab (cN (.of rfl) (.of rfl) (.of rfl) rfl) rfl ?_;refine Ja rfl<|Jn<|Je<|JT ?_)
   rfl
  | false =>
   with_reducible apply ag
   case hr=>exact bC
   case hd=>rfl
   case hc=>
    intro w' az
    have q:=u5 x.to (h.keeps az.keeps) (dJ f1 rfl (by simp) az.keeps) (dJ f2 rfl (by simp) az.keeps)
    rw [jH] at q
    exact q
   (refine ab (eD (.of rfl) (.of rfl) (.of rfl) rfl) rfl ?_;refine Jv rfl<|JK rfl rfl<|ab (iz (eG.base jI rfl)) rfl ?_;refine JK rfl rfl<|ab (ai (.of rfl) (At.base f6 rfl)) rfl ?_;refine JK rfl rfl<|bF rfl rfl ae ?_;refine JK rfl rfl<|JL rfl .here rfl<|JK rfl rfl ?_)
   cases hb:iT r.po v x.nm with
   | true =>
    with_reducible apply ag
    case hr=>exact dK
    case hd=>rfl
    case hc=>
     intro w' az
     have q:=pW v x.nm (hr.keeps az.keeps)
     rw [hb] at q
     exact q
    (refine JK rfl rfl<|JH rfl<|ab (cN (.of rfl) (.of rfl) (.of rfl) rfl) rfl ?_;refine Ja rfl<|Jn<|Je<|JT ?_)
    rfl
   | false =>
    with_reducible apply ag
    case hr=>exact dK
    case hd=>rfl
    case hc=>
     intro w' az
     have q:=pW v x.nm (hr.keeps az.keeps)
     rw [hb] at q
     exact q
    (refine JK rfl rfl<|JH rfl<|ab (eD (.of rfl) (.of rfl) (.of rfl) rfl) rfl ?_;refine Ja rfl<|Jn<|Je<|JT ?_)
    rfl
end Go.Proofs.A1
namespace Go.Proofs.A1
open Go Go.SL
theorem bB {α:Type} {l:List Oper} {i:Nat} {v:α}:px l i (fun _=>v):=fun _ _ _=>rfl
def Bd (L:List Int) (k:Nat):Int:=if k=0 then -1 else L.getD (k-1) 0
theorem CQ {L:List Int} {k:Nat} (h:k<L.length):Bd L (k+1)=L[k]:=by
 unfold Bd;rw [if_neg (by omega),Nat.add_sub_cancel,List.getD_eq_getElem?_getD,List.getElem?_eq_getElem h];rfl
def QW (r:Ro) (L:List Int) (k:Nat):Int:=(L[k]?.map fun x=>aV [eP r x,bS (decide (x≤Bd L k)) 11]).getD 0
theorem Qg {r:Ro} {L:List Int} {k:Nat} (h:k<L.length):QW r L k=aV [eP r L[k],bS (decide (L[k]≤Bd L k)) 11]:=by
 unfold QW;rw [List.getElem?_eq_getElem h];rfl
def Ul (r:Ro) (v:Int) (so de:ByteArray) (L:List Int):Int:=aV [py r v so de,bS (decide ((4:Int)<(L.length:Nat))) 5]
def QU (r:Ro) (L:List Int):Int:=jm (QW r L) L.length
def QT (r:Ro) (v:Int) (so de:ByteArray) (L:List Int):Bool:=r.ti.any (sg r v L)||(fU r v so r.ti.length).any (fun x=>!L.contains x)||L.contains (nk r de)
def Uk (r:Ro) (v:Int) (so de:ByteArray) (L:List Int):Int:=if Ul r v so de L≠0 then Ul r v so de L else if QU r L≠0 then QU r L else bS (QT r v so de L) 19
set_option maxHeartbeats 2000000 in
theorem Dv {r:Ro} {s d t p cv:Value} (v:Int) (so de:ByteArray) {L:List Int} {w:World} (h:RR w r s d t p) (cJ:mP r) (hw:Rd w cv 1 (ints L)) :
  aj Tryz.prog 37 [RA r s d t p,.int .i64 v,.string so,.string de,cv] w (.int .i64 (Uk r v so de L)):=by
 have h1:=Rd.one h.sr
 have h2:=Rd.one h.de
 have h3:=Rd.one h.ti
 have h4:=Rd.one h.po
 have B1:=hw
 obtain ⟨aw,cw,bw,ow,rfl,Ny,Bj,SN,Ic⟩:=hw
 rw [cZ] at *
 unfold maxLen at Bj
 have hcw:∀ w',aF [] w w'→aj Tryz.prog 151 [.agg #[.int .i64 r.lv,.int .i64 r.ma,s,d,t,p],.int .i64 v,.string so,.string de] w' (.int .i64 (py r v so de)):=fun w' hk=>pT v so de (h.keeps hk) cJ
 unfold RA
 refine ah Tryz.func37 rfl rfl ?_
 refine Jr<|Jy rfl rfl fun _ _=>Jy rfl rfl fun _ _=>Jy rfl rfl fun _ _=>Ja rfl<|Jn<|Jq<|Jq ?_
 with_reducible refine cQ 10 (by kernel_rfl) ?_
 (refine an (cr bI) rfl ?_;refine an (gp (.there .here)) rfl ?_;refine an lx rfl ?_;refine an lx rfl ?_;refine aU eS rfl (fun w' az=>(hcw w' (Mem.keeps az))) ?_;refine an (gp .here) rfl ?_;refine an (ct (.of rfl)) rfl ?_;refine an (my (.of rfl) (.of rfl)) rfl ?_;refine aU aZ rfl (fun w' az=>(dL _ 5 w')) ?_;refine en (aA (.cons (.of rfl) (.cons (.of rfl) .nil)) rfl rfl rfl rfl) rfl rfl ?_)
 with_reducible refine dy rfl fun bq mT=>?_
 (refine ag bC rfl (fun w' az=>(dF (Mem.dh az .here rfl rfl) (bU.cons (bU.cons bU.nil)))) ?_;refine Ja rfl<|Ji<|Jv rfl<|JD rfl<|Jn<|fY rfl (fun aq=>?_) fun aq=>?_;refine Jr<|Jv rfl<|Ja rfl<|Jn<|Ju<|JT ?_;rotate_left;refine Jk<|Jr<|Ja rfl<|Jn<|Jq<|Jr<|JL rfl (.there .here) rfl<|JI rfl<|Jv rfl<|Jn<|J0 ?_;rotate_right)
 ·have e1:Uk r v so de L=Ul r v so de L:=if_pos aq
  rw [e1];rfl
 have Mh:Ul r v so de L=0:=Decidable.not_not.1 aq
 have hX:Uk r v so de L=if QU r L≠0 then QU r L else bS (QT r v so de L) 19:=if_neg aq
 clear aq
 obtain ⟨eK,hv,rE,fy⟩:=yf (cg.1 Mh _ List.mem_cons_self)
 have h6:L.length≤4:=by
  have:=(bH (by decide)).1 (cg.1 Mh (bS (decide ((4:Int)<(L.length:Nat))) 5) (by simp))
  simp only [decide_eq_false_iff_not] at this
  omega
 have ht6:=eK.len.2.2
 rename_i b5 Mb b6 hb6 b9 Xq
 refine aX (fun k:Nat=>k≤L.length∧∀ i,i<k→QW r L i=0) (fun k=>[(35,.int .i64 (k:Nat)),(34,.int .i64 (L.length:Nat)),(33,.slice aw L.length cw),(12,.int .i64 (Bd L k)),(9,.pointer (some ⟨b9,0,none⟩)),(6,.pointer (some ⟨b6,0,none⟩)),(5,.pointer (some ⟨b5,0,none⟩)),(2,.string so),(3,.string de)])
  (fun k=>[bD b9 (.cells #[.slice aw L.length cw] 49 (0,0)),bD b6 (.cells #[.int .i64 v] 3 (0,0)),JP b5 r s d t p]) (fun k=>L.length-k) ?_ ?_
 ·apply aK 0 ⟨Nat.zero_le _,fun i hi=>by omega⟩
  case hs1=>exact cn
  case ht=>(try simp only [List.take_zero,List.map_nil,List.nil_append]);exact .cons (.there .here) (.cons (.there .here) (.cons (.there .here) .nil))
 rintro k ⟨hk,hf⟩
 by_cases aN:k<L.length
 ·have Ih:=SN (jc aN)
  have c0:w.cell? ⟨bw,ow+k*1,none⟩=some (.int .i64 L[k]):=(Ic k _ (gM aN)).2 0 _ rfl
  have jk:=Qg (r:=r) aN
  have hhs:∀ w',aF [] w w'→aj Tryz.prog 136 [.agg #[.int .i64 r.lv,.int .i64 r.ma,s,d,t,p],.int .i64 L[k]] w' (.int .i64 (eP r L[k])):=fun w' hk=>Ek (s:=s) (d:=d) (t:=t) (p:=p) L[k] h
  (refine Jr<|JA rfl<|Jn<|Jq<|Jd rfl fun aq=>Jk<|Jq<|J0<|Jr<|ab (aC (.of rfl) (.of rfl) Ih (by omega) aq bo) rfl ?_;refine ab (ai (.of rfl) (At.base c0 rfl)) rfl ?_;refine Ja rfl<|Jn<|Jq<|Jr<|ab (cr bI) rfl ?_;refine Jv rfl<|ag aZ rfl (fun w' az=>(hhs w' (Mem.keeps az))) ?_;refine Jv rfl<|Jv rfl<|JF rfl<|ag aZ rfl (fun w' az=>(dL _ 11 w')) ?_;refine bb (aA (.cons (.of rfl) (.cons (.of rfl) .nil)) rfl rfl rfl rfl) rfl fun _ _=>?_;refine ag bC rfl (fun w' az=>(dF (Mem.dh az .here rfl rfl) (bU.cons (bU.cons bU.nil)))) ?_;refine Ja rfl<|Ji<|Jv rfl<|JD rfl<|Jn<|fY rfl (fun aq=>?_) fun aq=>?_;refine Jr<|Jv rfl<|Ja rfl<|Jn<|Ju<|Jm<|Jh<|Jh<|Jm<|Jh<|JT ?_;rotate_left;refine Jk<|Jg<|Jv rfl<|Ja rfl<|Jx<|Jj<|Jt<|Jg<|JB rfl (by omega)<|Jv rfl<|Jn ?_;rotate_right)
  ·rw [← jk] at aq ⊢
   have hB:QU r L=QW r L k:=eY hf aN aq
   rw [← hB] at aq ⊢
   rw [hX,if_pos aq]
  have hz:QW r L k=0:=by rw [jk];exact Decidable.not_not.1 aq
  have zj:=CQ aN
  apply aL (k+1) ⟨by omega,fun i hi=>by
   by_cases e:i=k
   ·rw [e];exact hz
   ·exact hf i (by omega)⟩ (by omega)
  case hs1=>rw [zj];exact .cons rfl (.cons rfl (.cons rfl (.cons rfl (.cons rfl (.cons rfl (.cons rfl (.cons rfl (.cons rfl .nil))))))))
  case ht=>exact sK
 ·obtain rfl:k=L.length:=by omega
  have SZ:QU r L=0:=dT.2 hf
  rw [hX,if_neg (by rw [SZ];decide)]
  (refine Jr<|JA rfl<|Jn<|Jq<|Jc rfl fun aq=>Jp<|Jl<|Jo<|Jt<|Jr<|ab (bn .nil (.cons (.of rfl) .nil)) rfl ?_;refine Jz rfl rfl fun _ _=>ao (.of rfl) (.of rfl) .here rfl rfl (dZ rfl) (bE rfl) ak ?_;refine Ji<|ab (bn .nil (.cons (.of rfl) .nil)) rfl ?_;refine Jz rfl rfl fun _ _=>ao (.of rfl) (.of rfl) .here rfl rfl (dZ rfl) (bE rfl) ak ?_;refine Ji<|bF rfl rfl ae ?_;refine JL rfl ei rfl<|ab (bn .nil (.cons (.of rfl) (.cons (.of rfl) (.cons (.of rfl) (.cons (.of rfl) .nil))))) rfl ?_)
  rename_i F3 abO XN abN
  with_reducible apply ag
  case hr=>exact aZ
  case hd=>rfl
  case hc=>
   intro w' az
   have hR:=h.keeps az.keeps
   have f9:w'.cell? ⟨b9,0,none⟩=some (.slice aw L.length cw):=At.lit bI rfl w' az
   have f16:w'.cell? ⟨F3,0,none⟩=some (.func (.func 157) #[] #[.pointer (some ⟨b9,0,none⟩)]):=At.lit (by exact Take.there .here) rfl w' az
   have f17:w'.cell? ⟨XN,0,none⟩=some (.func (.func 158) #[] #[.pointer (some ⟨F3,0,none⟩)]):=At.lit (by exact .here) rfl w' az
   have f6:w'.cell? ⟨b6,0,none⟩=some (.int .i64 v):=At.lit cY rfl w' az
   have hA:BR w' b5 [.int .i64 r.lv,.int .i64 r.ma,s,d,t,p]:=BR.of az ei
   exact zq (f:=160) (p:=sg r v L) (first:=[]) (cap:=[.pointer (some ⟨F3,0,none⟩),.pointer (some ⟨XN,0,none⟩),.pointer (some ⟨b5,0,none⟩),.pointer (some ⟨b6,0,none⟩)]) hR.ti (fun x hx w2 ez=>Qf v x (hR.keeps ez) (B1.keeps (az.keeps.trans ez)) (cd f9 rfl ez) (cd f16 rfl ez) (cd f17 rfl ez) (hA.keeps ez) (cd f6 rfl ez))
  refine Ja rfl<|Jn<|Jq ?_
  cases vz:r.ti.any (sg r v L) with
  | true =>
   have hC:QT r v so de L=true:=by unfold QT;rw [vz];rfl
   rw [hC]
   with_reducible refine dM 23 (by kernel_rfl) ?_
   (refine au (fun β=>(aY (.of rfl))) du rfl ?_;refine au (fun β=>(aY (.of rfl))) du rfl ?_;refine dB rfl (fun _=>rfl) (Or.inr rfl) rfl ?_;refine dB rfl (fun _=>rfl) (Or.inr rfl) rfl ?_;refine dB rfl (fun _=>rfl) (Or.inr rfl) rfl ?_;refine dB rfl (fun _=>rfl) (Or.inr rfl) rfl ?_;refine dB rfl (fun _=>rfl) (Or.inr rfl) rfl ?_;refine dB rfl (fun _=>rfl) (Or.inr rfl) rfl ?_;refine au (fun β=>(eD (.of rfl) (.of rfl) (.of rfl) rfl)) du rfl ?_;refine au (fun β=>(aY (.of rfl))) du rfl ?_;refine dB rfl (fun _=>rfl) (Or.inr rfl) rfl ?_;refine dB rfl (fun _=>rfl) (Or.inr rfl) rfl ?_;refine dB rfl (fun _=>rfl) (Or.inr rfl) rfl ?_;refine dB rfl (fun _=>rfl) (Or.inr rfl) rfl ?_;refine dB rfl (fun _=>rfl) (Or.inr rfl) rfl ?_;refine dB rfl (fun _=>rfl) (Or.inr rfl) rfl ?_;refine dB rfl (fun _=>rfl) (Or.inr rfl) rfl ?_;refine dB rfl (fun _=>rfl) (Or.inr rfl) rfl ?_;refine dB rfl (fun _=>rfl) (Or.inr rfl) rfl ?_;refine dB rfl (fun _=>rfl) (Or.inr rfl) rfl ?_;refine au (fun β=>(eD (.of rfl) (.of rfl) (.of rfl) rfl)) du rfl ?_)
   dsimp only [Nat.zero_add,Nat.reduceAdd]
   with_reducible apply cH (B:=[]) (F:=fun _=>.int .i64 (bS true 19)) (args:=fun _=>[.bool true,.int .i64 19])
   case hB=>rfl
   case hr=>exact fun β=>bh (.of rfl) (.cons (.of rfl) (.cons (.of rfl) .nil)) inferInstance rfl
   case hi=>exact bB
   case hd=>rfl
   case hc=>exact fun β w' hb=>dL _ _ _
   refine au (fun β=>(cq (.of rfl))) du rfl ?_
   refine fC fun β=>?_
   dsimp only [eI,List.nil_append,List.cons_append,List.append_eq,Nat.reduceAdd]
   with_reducible refine cW (by kernel_rfl) ?_
   refine Jt<|Je<|JT ?_
   rfl
  | false =>
   have hC:QT r v so de L=((fU r v so r.ti.length).any (fun x=>!L.contains x)||L.contains (nk r de)):=by unfold QT;rw [vz];rfl
   rw [hC]
   obtain ⟨j0,zk⟩:∃ i:Nat,bA (cm r) de=(i:Nat):=⟨(bA (cm r) de).toNat,by have:=eu fy;omega⟩
   have Bm:j0<r.de.length:=by
    obtain ⟨hl,_⟩:=fw (l:=cm r) (s:=de) (by omega)
    rw [zk,Int.toNat_natCast] at hl
    unfold cm at hl;rwa [List.length_map] at hl
   have SF:nk r de=(r.de[j0]).mx:=by unfold nk;rw [zk,Int.toNat_natCast,List.getD_eq_getElem?_getD,List.getElem?_eq_getElem Bm];rfl
   have LW:∀ w',aF [] w w'→bd Tryz.prog 152 [.agg #[.int .i64 r.lv,.int .i64 r.ma,s,d,t,p],.int .i64 v,.string so] w' [] (fun _:Value=>True) id (fun x=>[row 3 1 x (fU r v so r.ti.length).length ((fU r v so r.ti.length).map (Value.int .i64))]):=fun w' hk=>DV (s:=s) (d:=d) (t:=t) (p:=p) v so (h.keeps hk) (by omega) rE
   have qT:∀ w',aF [] w w'→aj Tryz.prog 155 [.agg #[.int .i64 r.lv,.int .i64 r.ma,s,d,t,p],.string de] w' (.int .i64 (j0:Nat)):=fun w' hk=>zk ▸ fB de (h.keeps hk)
   generalize fU r v so r.ti.length=R0 at LW ⊢
   cases U7:R0.any (fun x=>!L.contains x) with
   | true =>
    rw [Bool.true_or]
    with_reducible refine dM 23 (by kernel_rfl) ?_
    (refine au (fun β=>(aY (.of rfl))) du rfl ?_;refine au (fun β=>(aY (.of rfl))) du rfl ?_;refine c5 rfl (fun _=>rfl) ?_;refine au (fun β=>(cF (.of rfl) ei ak (by rfl))) du rfl ?_;refine c5 rfl (fun _=>rfl) ?_;refine au (fun β=>(ai (.of rfl) (At.lit cY rfl))) du rfl ?_;refine c5 rfl (fun _=>rfl) ?_;refine au (fun β=>(aY (.of rfl))) du rfl ?_)
    dsimp only [Nat.zero_add,Nat.reduceAdd]
    refine c5 rfl (fun _=>rfl) ?_
    with_reducible apply fb (ι:=Value) (Φ:=fun _=>True) (val:=id) (own:=fun x=>[row 3 1 x R0.length (R0.map (Value.int .i64))]) (g:=id) (B:=[]) (args:=fun _=>[.agg #[.int .i64 r.lv,.int .i64 r.ma,s,d,t,p],.int .i64 v,.string so])
    case hg=>exact fun x=>⟨x,rfl⟩
    case hB=>rfl
    case hr=>exact fun β=>bh (.of rfl) (.cons (.of rfl) (.cons (.of rfl) (.cons (.of rfl) .nil))) inferInstance rfl
    case hd=>rfl
    case hc=>exact fun β w' hb=>LW w' hb.mem.keeps
    dsimp only [id_eq,Nat.reduceAdd]
    (refine c5 rfl (fun _=>rfl) ?_;refine au (fun β=>(ai (.of rfl) (At.lit .here rfl))) du rfl ?_)
    dsimp only [Nat.zero_add,Nat.reduceAdd]
    refine c5 rfl (fun _=>rfl) ?_
    with_reducible apply cH (B:=[5]) (F:=fun _=>.bool true) (args:=fun β=>[β 5,.func (.func 158) #[] #[.pointer (some ⟨F3,0,none⟩)]])
    case hB=>first | rfl | kernel_rfl
    case hr=>exact fun β=>bh (.of rfl) (.cons (.of rfl) (.cons (.of rfl) .nil)) inferInstance rfl
    case hi=>exact bB
    case hd=>rfl
    case hc=>
     intro β w' hb
     have m5:=hb.at 5 List.mem_cons_self (s:=⟨fun β=>β 5,fun β=>[row 3 1 (β 5) R0.length (R0.map (Value.int .i64))]⟩) (by kernel_rfl)
     dsimp only [List.cons_append,List.nil_append] at m5
     have s1:Rd w' (β 5) 1 (ints R0):=kb m5 (by exact .here) rfl
     have f9:w'.cell? ⟨b9,0,none⟩=some (.slice aw L.length cw):=At.lit cY rfl w' m5
     have f16:w'.cell? ⟨F3,0,none⟩=some (.func (.func 157) #[] #[.pointer (some ⟨b9,0,none⟩)]):=At.lit bI rfl w' m5
     have q:=uV (f:=158) (p:=fun x=>!L.contains x) (first:=[]) (cap:=[.pointer (some ⟨F3,0,none⟩)]) s1 (fun x hx w2 ez=>u5 x (B1.keeps (hb.mem.keeps.trans ez)) (cd f9 rfl ez) (cd f16 rfl ez))
     rw [U7] at q
     exact q
    (refine au (fun β=>(eD (.of rfl) (.of rfl) (.of rfl) rfl)) du rfl ?_;refine au (fun β=>(aY (.of rfl))) du rfl ?_;refine dB rfl (fun _=>rfl) (Or.inr rfl) rfl ?_;refine dB rfl (fun _=>rfl) (Or.inr rfl) rfl ?_;refine dB rfl (fun _=>rfl) (Or.inr rfl) rfl ?_;refine dB rfl (fun _=>rfl) (Or.inr rfl) rfl ?_;refine dB rfl (fun _=>rfl) (Or.inr rfl) rfl ?_;refine dB rfl (fun _=>rfl) (Or.inr rfl) rfl ?_;refine dB rfl (fun _=>rfl) (Or.inr rfl) rfl ?_;refine dB rfl (fun _=>rfl) (Or.inr rfl) rfl ?_;refine dB rfl (fun _=>rfl) (Or.inr rfl) rfl ?_;refine dB rfl (fun _=>rfl) (Or.inr rfl) rfl ?_;refine au (fun β=>(eD (.of rfl) (.of rfl) (.of rfl) rfl)) du rfl ?_)
    dsimp only [Nat.zero_add,Nat.reduceAdd]
    with_reducible apply cH (B:=[]) (F:=fun _=>.int .i64 (bS true 19)) (args:=fun _=>[.bool true,.int .i64 19])
    case hB=>rfl
    case hr=>exact fun β=>bh (.of rfl) (.cons (.of rfl) (.cons (.of rfl) .nil)) inferInstance rfl
    case hi=>exact bB
    case hd=>rfl
    case hc=>exact fun β w' hb=>dL _ _ _
    refine au (fun β=>(cq (.of rfl))) du rfl ?_
    refine fC fun β=>?_
    dsimp only [eI,List.nil_append,List.cons_append,List.append_eq,Nat.reduceAdd]
    with_reducible refine cW (by kernel_rfl) ?_
    refine Jt<|Je<|JT ?_
    rfl
   | false =>
    rw [Bool.false_or]
    have lO:=h.de
    obtain ⟨a3,rP,b3,o3,rfl,mS,fX,sR,pL⟩:=lO
    rw [bX] at *
    unfold maxLen at fX
    have FC:=sR (gm Bm)
    have nR:=(pL j0 _ (fa Bm)).2
    unfold De.cells at nR
    have zn:=nR 1 _ rfl
    rw [← SF] at zn
    cases T0:L.contains (nk r de) with
    | true =>
     with_reducible refine dM 23 (by kernel_rfl) ?_
     (refine au (fun β=>(aY (.of rfl))) du rfl ?_;refine au (fun β=>(aY (.of rfl))) du rfl ?_;refine c5 rfl (fun _=>rfl) ?_;refine au (fun β=>(cF (.of rfl) ei ak (by rfl))) du rfl ?_;refine c5 rfl (fun _=>rfl) ?_;refine au (fun β=>(ai (.of rfl) (At.lit cY rfl))) du rfl ?_;refine c5 rfl (fun _=>rfl) ?_;refine au (fun β=>(aY (.of rfl))) du rfl ?_)
     dsimp only [Nat.zero_add,Nat.reduceAdd]
     refine c5 rfl (fun _=>rfl) ?_
     with_reducible apply fb (ι:=Value) (Φ:=fun _=>True) (val:=id) (own:=fun x=>[row 3 1 x R0.length (R0.map (Value.int .i64))]) (g:=id) (B:=[]) (args:=fun _=>[.agg #[.int .i64 r.lv,.int .i64 r.ma,s,.slice a3 r.de.length rP,t,p],.int .i64 v,.string so])
     case hg=>exact fun x=>⟨x,rfl⟩
     case hB=>rfl
     case hr=>exact fun β=>bh (.of rfl) (.cons (.of rfl) (.cons (.of rfl) (.cons (.of rfl) .nil))) inferInstance rfl
     case hd=>rfl
     case hc=>exact fun β w' hb=>LW w' hb.mem.keeps
     dsimp only [id_eq,Nat.reduceAdd]
     (refine c5 rfl (fun _=>rfl) ?_;refine au (fun β=>(ai (.of rfl) (At.lit .here rfl))) du rfl ?_)
     dsimp only [Nat.zero_add,Nat.reduceAdd]
     refine c5 rfl (fun _=>rfl) ?_
     with_reducible apply cH (B:=[5]) (F:=fun _=>.bool false) (args:=fun β=>[β 5,.func (.func 158) #[] #[.pointer (some ⟨F3,0,none⟩)]])
     case hB=>first | rfl | kernel_rfl
     case hr=>exact fun β=>bh (.of rfl) (.cons (.of rfl) (.cons (.of rfl) .nil)) inferInstance rfl
     case hi=>exact bB
     case hd=>rfl
     case hc=>
      intro β w' hb
      have m5:=hb.at 5 List.mem_cons_self (s:=⟨fun β=>β 5,fun β=>[row 3 1 (β 5) R0.length (R0.map (Value.int .i64))]⟩) (by kernel_rfl)
      dsimp only [List.cons_append,List.nil_append] at m5
      have s1:Rd w' (β 5) 1 (ints R0):=kb m5 (by exact .here) rfl
      have f9:w'.cell? ⟨b9,0,none⟩=some (.slice aw L.length cw):=At.lit cY rfl w' m5
      have f16:w'.cell? ⟨F3,0,none⟩=some (.func (.func 157) #[] #[.pointer (some ⟨b9,0,none⟩)]):=At.lit bI rfl w' m5
      have q:=uV (f:=158) (p:=fun x=>!L.contains x) (first:=[]) (cap:=[.pointer (some ⟨F3,0,none⟩)]) s1 (fun x hx w2 ez=>u5 x (B1.keeps (hb.mem.keeps.trans ez)) (cd f9 rfl ez) (cd f16 rfl ez))
      rw [U7] at q
      exact q
     (refine au (fun β=>(cN (.of rfl) (.of rfl) (.of rfl) rfl)) du rfl ?_;refine au (fun β=>(aY (.of rfl))) du rfl ?_;refine c5 rfl (fun _=>rfl) ?_;refine au (fun β=>(ai (.of rfl) (At.lit (.there .here) rfl))) du rfl ?_;refine c5 rfl (fun _=>rfl) ?_;refine au (fun β=>(ar (.of rfl) ae)) du rfl ?_;refine c5 rfl (fun _=>rfl) ?_;refine au (fun β=>(ai (.of rfl) (At.lit ei rfl))) du rfl ?_;refine c5 rfl (fun _=>rfl) ?_;refine au (fun β=>(cF (.of rfl) ei ak (by rfl))) du rfl ?_;refine c5 rfl (fun _=>rfl) ?_;refine au (fun β=>(aY (.of rfl))) du rfl ?_)
     dsimp only [Nat.zero_add,Nat.reduceAdd]
     refine c5 rfl (fun _=>rfl) ?_
     with_reducible apply cH (B:=[]) (F:=fun _=>.int .i64 (j0:Nat)) (args:=fun _=>[.agg #[.int .i64 r.lv,.int .i64 r.ma,s,.slice a3 r.de.length rP,t,p],.string de])
     case hB=>rfl
     case hr=>exact fun β=>bh (.of rfl) (.cons (.of rfl) (.cons (.of rfl) .nil)) inferInstance rfl
     case hi=>exact bB
     case hd=>rfl
     case hc=>exact fun β w' hb=>qT w' hb.mem.keeps
     (refine c5 rfl (fun _=>rfl) ?_;refine au (fun β=>(aC (.of rfl) (.of rfl) FC (by omega) (by omega) bo)) du rfl ?_;refine c5 rfl (fun _=>rfl) ?_;refine au (fun β=>(ar (.of rfl) ae)) du rfl ?_;refine c5 rfl (fun _=>rfl) ?_;refine au (fun β=>(ai (.of rfl) (At.base zn rfl))) du rfl ?_)
     dsimp only [Nat.zero_add,Nat.reduceAdd]
     refine c5 rfl (fun _=>rfl) ?_
     with_reducible apply cH (B:=[]) (F:=fun _=>.bool true) (args:=fun _=>[.int .i64 (nk r de),.pointer (some ⟨b9,0,none⟩)])
     case hB=>rfl
     case hr=>exact fun β=>bh (Is.of rfl) (FY.cons (Is.of rfl) FY.nil) inferInstance gJ
     case hi=>exact bB
     case hd=>rfl
     case hc=>
      intro β w' hb
      have m5:=hb.mem
      have f9:w'.cell? ⟨b9,0,none⟩=some (.slice aw L.length cw):=At.lit bI rfl w' m5
      have q:=u6 (nk r de) (B1.keeps hb.mem.keeps) f9
      rw [T0] at q
      exact q
     refine au (fun β=>(eD (.of rfl) (.of rfl) (.of rfl) rfl)) du rfl ?_
     dsimp only [Nat.zero_add,Nat.reduceAdd]
     with_reducible apply cH (B:=[]) (F:=fun _=>.int .i64 (bS true 19)) (args:=fun _=>[.bool true,.int .i64 19])
     case hB=>rfl
     case hr=>exact fun β=>bh (.of rfl) (.cons (.of rfl) (.cons (.of rfl) .nil)) inferInstance rfl
     case hi=>exact bB
     case hd=>rfl
     case hc=>exact fun β w' hb=>dL _ _ _
     refine au (fun β=>(cq (.of rfl))) du rfl ?_
     refine fC fun β=>?_
     dsimp only [eI,List.nil_append,List.cons_append,List.append_eq,Nat.reduceAdd]
     with_reducible refine cW (by kernel_rfl) ?_
     refine Jt<|Je<|JT ?_
     rfl
    | false =>
     with_reducible refine dM 23 (by kernel_rfl) ?_
     (refine au (fun β=>(aY (.of rfl))) du rfl ?_;refine au (fun β=>(aY (.of rfl))) du rfl ?_;refine c5 rfl (fun _=>rfl) ?_;refine au (fun β=>(cF (.of rfl) ei ak (by rfl))) du rfl ?_;refine c5 rfl (fun _=>rfl) ?_;refine au (fun β=>(ai (.of rfl) (At.lit cY rfl))) du rfl ?_;refine c5 rfl (fun _=>rfl) ?_;refine au (fun β=>(aY (.of rfl))) du rfl ?_)
     dsimp only [Nat.zero_add,Nat.reduceAdd]
     refine c5 rfl (fun _=>rfl) ?_
     with_reducible apply fb (ι:=Value) (Φ:=fun _=>True) (val:=id) (own:=fun x=>[row 3 1 x R0.length (R0.map (Value.int .i64))]) (g:=id) (B:=[]) (args:=fun _=>[.agg #[.int .i64 r.lv,.int .i64 r.ma,s,.slice a3 r.de.length rP,t,p],.int .i64 v,.string so])
     case hg=>exact fun x=>⟨x,rfl⟩
     case hB=>rfl
     case hr=>exact fun β=>bh (.of rfl) (.cons (.of rfl) (.cons (.of rfl) (.cons (.of rfl) .nil))) inferInstance rfl
     case hd=>rfl
     case hc=>exact fun β w' hb=>LW w' hb.mem.keeps
     dsimp only [id_eq,Nat.reduceAdd]
     (refine c5 rfl (fun _=>rfl) ?_;refine au (fun β=>(ai (.of rfl) (At.lit .here rfl))) du rfl ?_)
     dsimp only [Nat.zero_add,Nat.reduceAdd]
     refine c5 rfl (fun _=>rfl) ?_
     with_reducible apply cH (B:=[5]) (F:=fun _=>.bool false) (args:=fun β=>[β 5,.func (.func 158) #[] #[.pointer (some ⟨F3,0,none⟩)]])
     case hB=>first | rfl | kernel_rfl
     case hr=>exact fun β=>bh (.of rfl) (.cons (.of rfl) (.cons (.of rfl) .nil)) inferInstance rfl
     case hi=>exact bB
     case hd=>rfl
     case hc=>
      intro β w' hb
      have m5:=hb.at 5 List.mem_cons_self (s:=⟨fun β=>β 5,fun β=>[row 3 1 (β 5) R0.length (R0.map (Value.int .i64))]⟩) (by kernel_rfl)
      dsimp only [List.cons_append,List.nil_append] at m5
      have s1:Rd w' (β 5) 1 (ints R0):=kb m5 (by exact .here) rfl
      have f9:w'.cell? ⟨b9,0,none⟩=some (.slice aw L.length cw):=At.lit cY rfl w' m5
      have f16:w'.cell? ⟨F3,0,none⟩=some (.func (.func 157) #[] #[.pointer (some ⟨b9,0,none⟩)]):=At.lit bI rfl w' m5
      have q:=uV (f:=158) (p:=fun x=>!L.contains x) (first:=[]) (cap:=[.pointer (some ⟨F3,0,none⟩)]) s1 (fun x hx w2 ez=>u5 x (B1.keeps (hb.mem.keeps.trans ez)) (cd f9 rfl ez) (cd f16 rfl ez))
      rw [U7] at q
      exact q
     (refine au (fun β=>(cN (.of rfl) (.of rfl) (.of rfl) rfl)) du rfl ?_;refine au (fun β=>(aY (.of rfl))) du rfl ?_;refine c5 rfl (fun _=>rfl) ?_;refine au (fun β=>(ai (.of rfl) (At.lit (.there .here) rfl))) du rfl ?_;refine c5 rfl (fun _=>rfl) ?_;refine au (fun β=>(ar (.of rfl) ae)) du rfl ?_;refine c5 rfl (fun _=>rfl) ?_;refine au (fun β=>(ai (.of rfl) (At.lit ei rfl))) du rfl ?_;refine c5 rfl (fun _=>rfl) ?_;refine au (fun β=>(cF (.of rfl) ei ak (by rfl))) du rfl ?_;refine c5 rfl (fun _=>rfl) ?_;refine au (fun β=>(aY (.of rfl))) du rfl ?_)
     dsimp only [Nat.zero_add,Nat.reduceAdd]
     refine c5 rfl (fun _=>rfl) ?_
     with_reducible apply cH (B:=[]) (F:=fun _=>.int .i64 (j0:Nat)) (args:=fun _=>[.agg #[.int .i64 r.lv,.int .i64 r.ma,s,.slice a3 r.de.length rP,t,p],.string de])
     case hB=>rfl
     case hr=>exact fun β=>bh (.of rfl) (.cons (.of rfl) (.cons (.of rfl) .nil)) inferInstance rfl
     case hi=>exact bB
     case hd=>rfl
     case hc=>exact fun β w' hb=>qT w' hb.mem.keeps
     (refine c5 rfl (fun _=>rfl) ?_;refine au (fun β=>(aC (.of rfl) (.of rfl) FC (by omega) (by omega) bo)) du rfl ?_;refine c5 rfl (fun _=>rfl) ?_;refine au (fun β=>(ar (.of rfl) ae)) du rfl ?_;refine c5 rfl (fun _=>rfl) ?_;refine au (fun β=>(ai (.of rfl) (At.base zn rfl))) du rfl ?_)
     dsimp only [Nat.zero_add,Nat.reduceAdd]
     refine c5 rfl (fun _=>rfl) ?_
     with_reducible apply cH (B:=[]) (F:=fun _=>.bool false) (args:=fun _=>[.int .i64 (nk r de),.pointer (some ⟨b9,0,none⟩)])
     case hB=>rfl
     case hr=>exact fun β=>bh (Is.of rfl) (FY.cons (Is.of rfl) FY.nil) inferInstance gJ
     case hi=>exact bB
     case hd=>rfl
     case hc=>
      intro β w' hb
      have m5:=hb.mem
      have f9:w'.cell? ⟨b9,0,none⟩=some (.slice aw L.length cw):=At.lit bI rfl w' m5
      have q:=u6 (nk r de) (B1.keeps hb.mem.keeps) f9
      rw [T0] at q
      exact q
     refine au (fun β=>(cN (.of rfl) (.of rfl) (.of rfl) rfl)) du rfl ?_
     dsimp only [Nat.zero_add,Nat.reduceAdd]
     with_reducible apply cH (B:=[]) (F:=fun _=>.int .i64 (bS false 19)) (args:=fun _=>[.bool false,.int .i64 19])
     case hB=>rfl
     case hr=>exact fun β=>bh (.of rfl) (.cons (.of rfl) (.cons (.of rfl) .nil)) inferInstance rfl
     case hi=>exact bB
     case hd=>rfl
     case hc=>exact fun β w' hb=>dL _ _ _
     refine au (fun β=>(cq (.of rfl))) du rfl ?_
     refine fC fun β=>?_
     dsimp only [eI,List.nil_append,List.cons_append,List.append_eq,Nat.reduceAdd]
     with_reducible refine cW (by kernel_rfl) ?_
     refine Jt<|Je<|JT ?_
     rfl
end Go.Proofs.A1
namespace Go.Proofs.A1
open Go Go.SL
structure Tk where
 de:ByteArray
 so:List ByteArray
structure fZ where
 tk:Tk
 v:Value
def fZ.cells (x:fZ):List Value:=[.string x.tk.de,x.v]
def ji (l:List fZ):List (List Value):=l.map fZ.cells
theorem eH (l:List fZ):(ji l).length=l.length:=by simp [ji]
theorem j4 {l:List fZ} {k:Nat} (h:k<l.length):(ji l)[k]? = some (l[k]).cells:=by simp [ji,h]
theorem mr {l:List fZ} {k:Nat} (h:k<l.length):ji l≠[]:=by intro e;have:=congrArg List.length e;rw [eH] at this;simp at this;subst this;simp at h
def vF (w:World) (l:List fZ):Prop:=∀ x∈l,Rd w x.v 1 (fg x.tk.so)
theorem vF.keeps {w w':World} {l:List fZ} (h:vF w l) (hk:aF [] w w'):vF w' l:=fun x hx=>(h x hx).keeps hk
theorem Eg {lv:Value} {l:List fZ} {p:fZ→Bool} {f:FuncId} {first cap:List Value} [bP Tryz.prog f] {w:World} (h:Rd w lv 2 (ji l)) (ch:∀ x∈l,∀ w',aF [] w w'→aj Tryz.prog f (first++[.agg x.cells.toArray]++cap) w' (.bool (p x))) :
  aj Tryz.prog 252 [lv,.func (.func f) first.toArray cap.toArray] w (.int .i64 (gA p l)):=by
 obtain ⟨a,cp,b,o,rfl,df,bO,ha,hc⟩:=h
 rw [eH] at *
 unfold maxLen at bO
 refine ah Tryz.func252 rfl rfl ?_
 refine Jr<|Ja rfl<|Jn<|Jq<|Jr<|Jv rfl<|JI rfl<|Jv rfl<|Jn<|J0 ?_
 refine aX (fun k:Nat=>k≤l.length∧∀ i,i<k→(l[i]?.map p).getD false=false) (fun k=>[(8,.int .i64 k),(7,.int .i64 l.length),(0,.slice a l.length cp),(1,.func (.func f) first.toArray cap.toArray)]) (fun _=>[]) (fun k=>l.length-k) ?_ ?_
 ·apply aK 0 ⟨Nat.zero_le _,fun i h=>by omega⟩
  case hs1=>exact cn
  case ht=>(try simp only [List.take_zero,List.map_nil,List.nil_append]);exact .nil
 rintro k ⟨hk,hf⟩
 by_cases aN:k<l.length
 ·have cM:=ha (mr aN)
  have aD:=(hc k _ (j4 aN)).2
  have ix:=ch _ (List.getElem_mem aN)
  have hps:(l[k]?.map p).getD false=p l[k]:=by simp [aN]
  unfold fZ.cells at aD ix
  (refine Jr<|JA rfl<|Jn<|Jq<|Jd rfl fun aq=>Jk<|Jq<|J0<|Jr<|Jv rfl<|Ja rfl<|Ji<|Jv rfl<|Jv rfl<|Jv rfl<|ab (fM cM aq) rfl ?_;refine ab (iz (eG.base aD rfl)) rfl ?_;refine ag bC rfl (fun w' az=>(ix w' (Mem.keeps az))) ?_;refine Jn<|pV rfl (fun aq=>?_) fun aq=>?_;refine Jr<|Jv rfl<|Ja rfl<|Jn<|Je<|Jm<|Jh<|Jh<|Jm<|Jh<|JT ?_;rotate_left;refine Jw<|Jj<|Jt<|Jg<|JB rfl (by omega)<|Jv rfl<|Jn ?_;rotate_right)
  ·rw [fT hf aN aq]
  ·apply aL (k+1) ⟨by omega,fun i hi=>by
    by_cases e:i=k
    ·rw [e,hps];exact aq
    ·exact hf i (by omega)⟩ (by omega)
   case hs1=>exact cn
   case ht=>(try simp only [List.take_zero,List.map_nil,List.nil_append]);exact .nil
 ·obtain rfl:k=l.length:=by omega
  refine Jr<|JA rfl<|Jn<|Jq<|Jc rfl fun aq=>Jp<|Jl<|Jo<|Jt<|Jr<|Ja rfl<|Jn<|Je<|JT ?_
  rw [fm hf]
theorem Mc {lv:Value} {l:List fZ} {p:fZ→Bool} {f:FuncId} {first cap:List Value} [bP Tryz.prog f] {w:World} (h:Rd w lv 2 (ji l)) (ch:∀ x∈l,∀ w',aF [] w w'→aj Tryz.prog f (first++[.agg x.cells.toArray]++cap) w' (.bool (p x))) :
  aj Tryz.prog 248 [lv,.func (.func f) first.toArray cap.toArray] w (.bool (l.any p)):=by
 have ix:∀ w',aF [] w w'→aj Tryz.prog 252 [lv,.func (.func f) first.toArray cap.toArray] w' (.int .i64 (gA p l)):=fun w' hk=>
  Eg (h.keeps hk) fun x hx w2 ez=>ch x hx w2 (hk.trans ez)
 rw [← jF]
 refine ah Tryz.func248 rfl rfl ?_
 (refine Jr<|Ja rfl<|Ji<|Jv rfl<|Jv rfl<|ag aZ rfl (fun w' az=>(ix w' (Mem.keeps az))) ?_;refine JG rfl<|Ja rfl<|Jn<|Je<|JT ?_)
 rfl
theorem Q3 {x:fZ} {y:ByteArray} {b:Nat} {w:World} (f1:w.cell? ⟨b,0,none⟩=some (.string y)):aj Tryz.prog 249 [.agg x.cells.toArray,.pointer (some ⟨b,0,none⟩)] w (.bool (decide (x.tk.de=y))):=by
 unfold fZ.cells
 refine ah Tryz.func249 rfl rfl ?_
 (refine Jr<|Jy rfl rfl fun _ _=>Ja rfl<|Ji<|bF rfl rfl ae ?_;refine JL rfl .here rfl<|bF rfl rfl ae ?_;refine ab (ai (.of rfl) (At.base f1 rfl)) rfl ?_;refine ab (ee (.of rfl) (.of rfl)) rfl ?_;refine Ja rfl<|Jn<|Je<|JT ?_)
 rfl
theorem ue {P:Program} {c:Cx} {sl:aG} {hs:List ba} {dst:Option Tmp} {ty:TypeId} {pos:String} {af:Array Edge} {g:Option (Nat×Bool)} {t u:TypeId} {x y:Operand} {a b:ByteArray} (hx:Is sl x (.string a)) (hy:Is sl y (.string b)) (e:a≠b) :
  cX P c sl hs ⟨dst,.binOp .neq t x y u,ty,pos,af,g⟩ (.bool true):=by
 have:=iI (P:=P) (c:=c) (hs:=hs) (dst:=dst) (ty:=ty) (pos:=pos) (af:=af) (g:=g) (t:=t) (u:=u) hx hy
 rwa [decide_eq_true e] at this
theorem AP {P:Program} {c:Cx} {sl:aG} {hs:List ba} {dst:Option Tmp} {ty:TypeId} {pos:String} {af:Array Edge} {g:Option (Nat×Bool)} {t u:TypeId} {x y:Operand} {a b:ByteArray} (hx:Is sl x (.string a)) (hy:Is sl y (.string b)) (e:a=b) :
  cX P c sl hs ⟨dst,.binOp .neq t x y u,ty,pos,af,g⟩ (.bool false):=by
 have:=iI (P:=P) (c:=c) (hs:=hs) (dst:=dst) (ty:=ty) (pos:=pos) (af:=af) (g:=g) (t:=t) (u:=u) hx hy
 rwa [decide_eq_false (not_not_intro e)] at this
def lY (r:Ro) (o:ByteArray):Bool:=decide (o≠⟨#[]⟩)&&decide (o≠⟨#[45]⟩)&&decide (bA (cz r) o<0)
theorem Q4 {r:Ro} {s d t p:Value} (o:ByteArray) {b:Nat} {w:World} (hr:RR w r s d t p) (hA:BR w b (RC r s d t p)) :
  aj Tryz.prog 251 [.string o,.pointer (some ⟨b,0,none⟩)] w (.bool (lY r o)):=by
 have h1:=Rd.one hr.sr
 have h2:=Rd.one hr.de
 have h3:=Rd.one hr.ti
 have h4:=Rd.one hr.po
 have jI:∀ (j:Nat) (u:Value),[Value.int .i64 r.lv,.int .i64 r.ma,s,d,t,p][j]? = some u→w.cell? ⟨b,0+j,none⟩=some u:=hA
 refine ah Tryz.func251 rfl rfl ?_
 by_cases Ib:o=⟨#[]⟩
 ·have hB:lY r o=false:=by unfold lY;rw [decide_eq_false (not_not_intro Ib)];rfl
  rw [hB]
  (refine Jr<|Ja rfl<|Ji<|Jv rfl<|ab (AP (.of rfl) (.of rfl) Ib) rfl ?_;refine Jv rfl<|jT rfl rfl rfl rfl ?_;refine aI rfl rfl inferInstance (fun hg bL=>(iI (.cA bL rfl) (.of rfl))) rfl ?_;refine ab (cN (.of rfl) (.of rfl) (.of rfl) rfl) rfl ?_;refine Jv rfl<|aI rfl rfl inferInstance (fun hg bL=>(iY (.of rfl) (eG.base jI rfl) rfl)) rfl ?_;refine jT rfl rfl rfl rfl ?_;refine ew rfl rfl rfl rfl ?_;refine ew rfl rfl rfl rfl ?_;refine ab (cN (.of rfl) (.of rfl) (.of rfl) rfl) rfl ?_;refine Ja rfl<|Jn<|Je<|JT ?_)
  rfl
 by_cases PR:o=⟨#[45]⟩
 ·have hB:lY r o=false:=by unfold lY;rw [decide_eq_false (not_not_intro PR),Bool.and_false];rfl
  rw [hB]
  (refine Jr<|Ja rfl<|Ji<|Jv rfl<|ab (ue (.of rfl) (.of rfl) Ib) rfl ?_;refine Jv rfl<|JK rfl rfl<|Jv rfl<|JK rfl rfl<|ab (AP (.of rfl) (.of rfl) PR) rfl ?_;refine ab (cN (.of rfl) (.of rfl) (.of rfl) rfl) rfl ?_;refine Jv rfl<|aI rfl rfl inferInstance (fun hg bL=>(iY (.of rfl) (eG.base jI rfl) rfl)) rfl ?_;refine jT rfl rfl rfl rfl ?_;refine ew rfl rfl rfl rfl ?_;refine ew rfl rfl rfl rfl ?_;refine ab (cN (.of rfl) (.of rfl) (.of rfl) rfl) rfl ?_;refine Ja rfl<|Jn<|Je<|JT ?_)
  rfl
 have hB:lY r o=decide (bA (cz r) o<0):=by unfold lY;rw [decide_eq_true Ib,decide_eq_true PR];rfl
 rw [hB]
 (refine Jr<|Ja rfl<|Ji<|Jv rfl<|ab (ue (.of rfl) (.of rfl) Ib) rfl ?_;refine Jv rfl<|JK rfl rfl<|Jv rfl<|JK rfl rfl<|ab (ue (.of rfl) (.of rfl) PR) rfl ?_;refine ab (eD (.of rfl) (.of rfl) (.of rfl) rfl) rfl ?_;refine Jv rfl<|JK rfl rfl<|ab (iz (eG.base jI rfl)) rfl ?_;refine JK rfl rfl<|Jv rfl<|JK rfl rfl ?_)
 refine ag aZ rfl (fun w' az=>ny o (hr.keeps az.keeps)) ?_
 refine JK rfl rfl<|JA rfl ?_
 with_reducible apply ab (V:=Value.bool (decide (bA (cz r) o<0)))
 case hr=>
  with_reducible apply bJ
  case hx=>exact Is.of rfl
  case hy=>exact Is.of rfl
  case hz=>exact Is.of rfl
  case e=>rfl
 case hd=>rfl
 refine Ja rfl<|Jn<|Je<|JT ?_
 rfl
def dd (l:List fZ):List Tk:=l.map (·.tk)
def J6 (r:Ro) (l:List Tk) (k:Nat):Int:=(l[k]?.map fun x=>aV [pn r x.de,bS ((l.take k).any fun y=>decide (y.de=x.de)) 9,bS (decide ((x.so.length:Int)≠r.lv)) 2,bS (x.so.any (lY r)) 10]).getD 0
theorem Gt {r:Ro} {l:List Tk} {k:Nat} (h:k<l.length):J6 r l k=aV [pn r (l[k]).de,bS ((l.take k).any fun y=>decide (y.de=(l[k]).de)) 9,bS (decide (((l[k]).so.length:Int)≠r.lv)) 2,bS ((l[k]).so.any (lY r)) 10]:=by
 unfold J6;rw [List.getElem?_eq_getElem h];rfl
def J7 (l:List Tk):Int:=aV [bS (decide ((l.length:Int)=0)) 12,bS (decide ((8:Int)<(l.length:Nat))) 5]
def Ap (r:Ro) (l:List Tk):Int:=if J7 l≠0 then J7 l else jm (J6 r l) l.length
set_option maxHeartbeats 2000000 in
theorem qZ {r:Ro} {s d t p kv:Value} {l:List fZ} {w:World} (h:RR w r s d t p) (hw:Rd w kv 2 (ji l)) (hM:vF w l) :
  aj Tryz.prog 164 [RA r s d t p,kv] w (.int .i64 (Ap r (dd l))):=by
 have h1:=Rd.one h.sr
 have h2:=Rd.one h.de
 have h3:=Rd.one h.ti
 have h4:=Rd.one h.po
 have B1:=hw
 obtain ⟨aw,cw,bw,ow,rfl,Ny,Bj,SN,Ic⟩:=hw
 rw [eH] at *
 unfold maxLen at Bj
 have tB:(dd l).length=l.length:=List.length_map _
 unfold RA
 refine ah Tryz.func164 rfl rfl ?_
 (refine Jr<|Jy rfl rfl fun _ _=>Ja rfl<|Jn<|Jq<|Jr<|Jv rfl<|JI rfl<|JC rfl<|ag aZ rfl (fun w' az=>(dL _ 12 w')) ?_;refine Jv rfl<|JI rfl<|JE rfl<|ag aZ rfl (fun w' az=>(dL _ 5 w')) ?_;refine bb (aA (.cons (.of rfl) (.cons (.of rfl) .nil)) rfl rfl rfl rfl) rfl fun _ _=>?_;refine ag bC rfl (fun w' az=>(dF (Mem.dh az .here rfl rfl) (bU.cons (bU.cons bU.nil)))) ?_;refine Ja rfl<|Ji<|Jv rfl<|JD rfl<|Jn<|fY rfl (fun aq=>?_) fun aq=>?_;refine Jr<|Jv rfl<|Ja rfl<|Jn<|Ju<|JT ?_;rotate_left;refine Jk<|Jq<|Jr<|Jv rfl<|JI rfl<|Jv rfl<|Jn<|J0 ?_;rotate_right)
 ·have e1:Ap r (dd l)=J7 (dd l):=if_pos (by unfold J7;rw [tB];exact aq)
  rw [e1];unfold J7;rw [tB]
 have Mh:J7 (dd l)=0:=by unfold J7;rw [tB];exact Decidable.not_not.1 aq
 have hX:Ap r (dd l)=jm (J6 r (dd l)) l.length:=by unfold Ap;rw [if_neg (by rw [Mh];decide),tB]
 clear aq
 rename_i b2 sQ bq mT
 refine aX (fun k:Nat=>k≤l.length∧∀ i,i<k→J6 r (dd l) i=0) (fun k=>[(26,.int .i64 (k:Nat)),(25,.int .i64 (l.length:Nat)),(24,.slice aw l.length cw),(2,.pointer (some ⟨b2,0,none⟩)),(1,.slice aw l.length cw)])
  (fun k=>[JP b2 r s d t p]) (fun k=>l.length-k) ?_ ?_
 ·apply aK 0 ⟨Nat.zero_le _,fun i hi=>by omega⟩
  case hs1=>exact cn
  case ht=>(try simp only [List.take_zero,List.map_nil,List.nil_append]);exact .cons (.there .here) .nil
 rintro k ⟨hk,hf⟩
 by_cases aN:k<l.length
 ·have Ih:=SN (mr aN)
  have aD:=(Ic k _ (j4 aN)).2
  unfold fZ.cells at aD
  have hx:=hM _ (List.getElem_mem aN)
  have jk:=Gt (r:=r) (l:=dd l) (k:=k) (by omega)
  have hgk:(dd l)[k]'(by omega)=(l[k]).tk:=List.getElem_map _
  rw [hgk] at jk
  have uK:Rd w (Go.sliced aw 0 (k:Int).toNat cw 2) 2 (ji (l.take k)):=by
   have:=B1.sliced (l:=0) (m:=k) (Nat.zero_le _) (by omega)
   rw [Int.toNat_natCast]
   rwa [List.drop_zero,show (ji l).take k=ji (l.take k) by unfold ji;rw [List.map_take]] at this
  have PX:(l.take k).any (fun y=>decide (y.tk.de=(l[k]).tk.de))=((dd l).take k).any fun y=>decide (y.de=(l[k]).tk.de):=by
   unfold dd;rw [← List.map_take,List.any_map];rfl
  generalize l[k]=x at aD hx jk PX ⊢
  obtain ⟨⟨xd,xs⟩,xv⟩:=x
  dsimp only at aD hx jk PX ⊢
  have Pb:=hx
  obtain ⟨ax,cx,bx,ox,rfl,Xo,Sl,hax,hcx⟩:=hx
  rw [bV] at *
  unfold maxLen at Sl
  have fy:∀ w',aF [] w w'→aj Tryz.prog 112 [.agg #[.int .i64 r.lv,.int .i64 r.ma,s,d,t,p],.string xd] w' (.int .i64 (pn r xd)):=fun w' hk=>ek xd (h.keeps hk)
  (refine Jr<|JA rfl<|Jn<|Jq<|Jd rfl fun aq=>Jk<|Jq<|J0<|Jr<|Jv rfl<|ab (aC (.of rfl) (.of rfl) Ih (by omega) aq bo) rfl ?_;refine ab (iz (eG.base aD rfl)) rfl ?_;refine Jz rfl rfl fun _ _=>Ja rfl<|ao (.of rfl) (.of rfl) .here rfl rfl (gn rfl rfl) (bE rfl) ak ?_;refine Ji<|Jv rfl<|Jv rfl<|ab (gI (.of rfl) (.of rfl) (by omega) (by omega)) rfl ?_;refine ab (bn .nil (.cons (.of rfl) .nil)) rfl ?_)
  rename_i b7 SM
  with_reducible apply ag
  case hr=>exact aZ
  case hd=>rfl
  case hc=>
   intro w' az
   have f7:w'.cell? ⟨b7,0,none⟩=some (.string xd):=(BR.of (cs:=[.string xd,.slice ax xs.length cx]) az (by exact .here)) 0 _ rfl
   exact Mc (f:=249) (p:=fun y=>decide (y.tk.de=xd)) (first:=[]) (cap:=[.pointer (some ⟨b7,0,none⟩)]) (uK.keeps az.keeps) (fun y hy w2 ez=>Q3 (cd f7 rfl ez))
  rw [PX]
  (refine Ja rfl<|Ji<|bF rfl rfl ae ?_;refine JL rfl .here rfl<|ab (bn .nil (.cons (.of rfl) .nil)) rfl ?_)
  with_reducible apply ag
  case hr=>exact aZ
  case hd=>rfl
  case hc=>
   intro w' az
   have hR:=h.keeps az.keeps
   have hA:BR w' b2 [.int .i64 r.lv,.int .i64 r.ma,s,d,t,p]:=BR.of az (by exact Take.there .here)
   exact Ii (f:=251) (p:=lY r) (first:=[]) (cap:=[.pointer (some ⟨b2,0,none⟩)]) (Pb.keeps az.keeps) (fun o ho w2 ez=>Q4 o (hR.keeps ez) (hA.keeps ez))
  refine Ja rfl<|Jn<|Jq ?_
  with_reducible refine cQ 16 (by kernel_rfl) ?_
  (refine an (cr (.there .here)) rfl ?_;refine an kr rfl ?_;refine an (gp .here) rfl ?_;refine aU aZ rfl (fun w' az=>(fy w' (Mem.keeps az))) ?_;refine an lx rfl ?_;refine aU aZ rfl (fun w' az=>(dL _ 9 w')) ?_;refine an kr rfl ?_;refine an (gp .here) rfl ?_;refine an (ct (.of rfl)) rfl ?_;refine an kr rfl ?_;refine an (gp (.there .here)) rfl ?_;refine an (jr (.of rfl) (.of rfl)) rfl ?_;refine aU aZ rfl (fun w' az=>(dL _ 2 w')) ?_;refine an lx rfl ?_;refine aU aZ rfl (fun w' az=>(dL _ 10 w')) ?_;refine en (aA (.cons (.of rfl) (.cons (.of rfl) (.cons (.of rfl) (.cons (.of rfl) .nil)))) rfl rfl rfl rfl) rfl rfl ?_)
  with_reducible refine dy rfl fun b55 V8=>?_
  (refine ag bC rfl (fun w' az=>(dF (Mem.dh az .here rfl rfl) (bU.cons (bU.cons (bU.cons (bU.cons bU.nil)))))) ?_;refine Ja rfl<|Ji<|Jv rfl<|JD rfl<|Jn<|fY rfl (fun aq=>?_) fun aq=>?_;refine Jr<|Jv rfl<|Ja rfl<|Jn<|Je<|Jm<|Jh<|Jh<|Jm<|Jh<|JT ?_;rotate_left;refine Jw<|Jj<|Jt<|Jg<|JB rfl (by omega)<|Jv rfl<|Jn ?_;rotate_right)
  ·rw [← jk] at aq ⊢
   have hB:jm (J6 r (dd l)) l.length=J6 r (dd l) k:=eY hf aN aq
   rw [hX,hB]
  have hz:J6 r (dd l) k=0:=by rw [jk];exact Decidable.not_not.1 aq
  apply aL (k+1) ⟨by omega,fun i hi=>by
   by_cases e:i=k
   ·rw [e];exact hz
   ·exact hf i (by omega)⟩ (by omega)
  case hs1=>exact cn
  case ht=>(try simp only [List.take_zero,List.map_nil,List.nil_append]);exact .cons bI .nil
 ·obtain rfl:k=l.length:=by omega
  have SZ:jm (J6 r (dd l)) l.length=0:=dT.2 hf
  rw [hX,SZ]
  refine Jr<|JA rfl<|Jn<|Jq<|Jc rfl fun aq=>Jp<|Jl<|Jo<|Jt<|Jr<|Ja rfl<|Jn<|Je<|JT ?_
  rfl
end Go.Proofs.A1
namespace Go.Proofs.A1
open Go Go.SL
def xi (v:Int) (o:ByteArray) (x:Po):Bool:=decide (x.lv=v)&&decide (x.ou=o)
theorem Q0 {x:Po} (v:Int) (o:ByteArray) {b1 b2:Nat} {w:World} (f1:w.cell? ⟨b1,0,none⟩=some (.int .i64 v)) (f2:w.cell? ⟨b2,0,none⟩=some (.string o)) :
  aj Tryz.prog 315 [.agg x.cells.toArray,.pointer (some ⟨b1,0,none⟩),.pointer (some ⟨b2,0,none⟩)] w (.bool (xi v o x)):=by
 unfold Po.cells
 refine ah Tryz.func315 rfl rfl ?_
 (refine Jr<|Jy rfl rfl fun _ _=>Ja rfl<|Ji<|ab (cr .here) rfl ?_;refine ab (ai (.of rfl) (At.base f1 rfl)) rfl ?_;refine ab (ai (.of rfl) (At.base f2 rfl)) rfl ?_;refine bF rfl rfl ae ?_;refine JL rfl .here rfl<|ab (aS (.cons (.of rfl) (.cons (.of rfl) (.cons (.of rfl) .nil))) ak) rfl ?_;refine ab (tl (.of rfl) (.of rfl) (jA (eU (eU lj))) rfl) rfl ?_;refine Ja rfl<|Jn<|Je<|JT ?_)
 simp [xi]
def RB (b:Nat) (r:Ro) (s d t p:Value):ba:=JP b r s d t p
def PB (p:Value) (l:List Po):ba:=row 188 3 p l.length (iW l)
set_option maxHeartbeats 1000000 in
theorem wm {r:Ro} {s d t p:Value} {b:Nat} {l:List Po} (v:Int) (o:ByteArray) {w:World} {fp:List Nat} (kD:fp.Nodup) (hs:bY (hp w) [RB b r s d t p,PB p l] fp) (cJ:l.length≤1000000) :
  bd Tryz.prog 256 [.pointer (some ⟨b,0,none⟩),.int .i64 v,.string o] w fp (fun _:Value=>True) (fun _=>.tuple #[]) (fun p'=>[RB b r s d t p',PB p' (l.filter fun x=>!xi v o x)]):=by
 unfold RB PB at *
 refine dS Tryz.func256 rfl rfl kD hs ?_
 (refine Jr<|Jy rfl rfl fun _ _=>Jy rfl rfl fun _ _=>Jn<|Jg<|Jv rfl<|Jv rfl<|ab (dH (.of rfl)) rfl ?_;refine bF rfl rfl ae ?_;refine JL rfl bI rfl<|ab (bn .nil (.cons (.of rfl) (.cons (.of rfl) .nil))) rfl ?_)
 rename_i b4 vC b5 Mb
 with_reducible apply fE (As:=[row 188 3 p l.length (iW l)])
 case hr=>exact aZ
 case hd=>rfl
 case ht=>exact .cons cY .nil
 case hc=>
  intro w1 Ad aJ uO hs1 B5 kd
  have h4:b4 ∉ Ad:=kd b4 _ _ (by exact Take.there .here)
  have h5:b5 ∉ Ad:=kd b5 _ _ (by exact .here)
  have f4:w1.cell? ⟨b4,0,none⟩=some (.int .i64 v):=At.lit (by exact Take.there .here) rfl w1 aJ
  have f5:w1.cell? ⟨b5,0,none⟩=some (.string o):=At.lit (by exact .here) rfl w1 aJ
  exact Mv (f:=315) (p:=xi v o) (first:=[]) (cap:=[.pointer (some ⟨b4,0,none⟩),.pointer (some ⟨b5,0,none⟩)]) uO hs1 rfl cJ (fun x _ w2 ez=>Q0 v o (dJ f4 rfl h4 ez) (dJ f5 rfl h5 ez))
 intro p' _
 dsimp only [id_eq,List.cons_append,List.nil_append]
 refine aW (by exact .here) fun va vc e=>?_
 subst e
 (refine ab (dH (.of rfl)) rfl ?_;refine bF rfl rfl ae ?_;refine ao (.of rfl) (.of rfl) cY rfl rfl (dZ rfl) (bE rfl) ak ?_;refine Jx ?_)
 first | with_reducible apply aO | with_reducible apply aP
 case he=>exact pj rfl
 case hR=>
  intro w' az
  exact aB (.slice va (l.filter fun x=>!xi v o x).length vc) trivial (by exact .cons .here (.cons .here .nil)) az rfl
end Go.Proofs.A1
namespace Go.Proofs.A1
open Go Go.SL
theorem FQ {lv:Value} {l:List Po} {w:World} (h:Rd w lv 3 (sN l)) (hl:l.length≤1000) :
  bd Tryz.prog 316 [lv] w [] (fun _:Value=>True) id (fun v=>[row 188 3 v l.length (iW l)]):=by
 have h':=h
 obtain ⟨a,cp,b,o,rfl,df,bO,ha,hc⟩:=h
 refine aR Tryz.func316 rfl rfl ?_
 cases a with
 | none =>
  have pK:l=[]:=by
   cases l with
   | nil=>rfl
   | cons x r=>exact absurd (ha (by simp [sN])) (by simp)
  subst pK
  (refine Jr<|Ja rfl<|Jn<|Jq<|Jr<|Jv rfl<|ab (fV (.of rfl) (.of rfl)) rfl ?_;refine Jn<|cR (.of rfl) ?_;refine Jr<|Ja rfl<|Jn<|Ju ?_)
  refine aQ 188 3 ?_
  first | with_reducible apply aO | with_reducible apply aP
  case he=>exact dj rfl rfl
  case hR=>
   intro w' az
   exact aB (.slice none 0 0) trivial (by exact .cons .here .nil) az rfl
 | some ad =>
  (refine Jr<|Ja rfl<|Jn<|Jq<|Jr<|Jv rfl<|ab (fV (.of rfl) (.of rfl)) rfl ?_;refine Jn<|bR (.of rfl) ?_;refine Jk<|Jr ?_)
  with_reducible apply bb
  case hr=>exact j7
  case hd=>rfl
  intro bq mT
  refine Na rfl rfl ?_
  refine bQ (g:=bq) (E:=188) (ys:=[]) 0 3 (by exact .here) rfl rfl rfl ?_
  with_reducible apply gF
  case hx=>exact Is.of rfl
  case hy=>exact Is.of rfl
  case ht=>exact .here
  case hsrc=>exact fun w' az=>h'.keeps az.keeps
  case h1=>exact D1 l
  case hz=>exact rfl
  case hsz=>exact rfl
  case hb0=>exact rfl
  case hb=>rw [cU];omega
  case hd=>rfl
  intro v'
  rw [cU,Nat.zero_add,List.nil_append,← yP]
  refine Ja rfl<|Jn<|Je ?_
  first | with_reducible apply aO | with_reducible apply aP
  case he=>exact dj rfl rfl
  case hR=>
   intro w' az
   exact aB v' trivial (by exact .cons .here .nil) az rfl
end Go.Proofs.A1
namespace Go.Proofs.A1
open Go Go.SL
def TB (w:World) (b:Nat) (l:List (ByteArray×Value)):Prop:=∃ es clock,w.heap[b]? = some (.map es clock)∧Ht (fun s:ByteArray=>Value.string s) l es clock
theorem TB.iN {w w':World} {b:Nat} {l:List (ByteArray×Value)} {md:List Nat} (h:TB w b l) (hn:b ∉ md) (hk:aF md w w'):TB w' b l:=by
 obtain ⟨es,ck,h1,h2⟩:=h
 have hb:b<w.heap.size:=(Array.getElem?_eq_some_iff.1 h1).1
 have:=hk.block b hb hn
 exact ⟨es,ck,by rw [this,h1],h2⟩
theorem uf {P:Program} {c:Cx} {sl:aG} {hs:List ba} {dst:Option Tmp} {ty:TypeId} {pos:String} {af:Array Edge} {g:Option (Nat×Bool)} {t kt et:TypeId} {x y:Operand} {b:Nat} {k:ByteArray} {l:List (ByteArray×Value)} {z V:Value} [hu:iA P t (.map kt et)] [Fx:iA P kt .string] [hz:lu P et z]
  (hx:Is sl x (.map (some b))) (hy:Is sl y (.string k)) (hl:Looks c hs b (fun s:ByteArray=>Value.string s) l) (e:(er k l).getD z=V) :
  cX P c sl hs ⟨dst,.lookup t x y false,ty,pos,af,g⟩ V:=e ▸ E7 HB hx hy hl
def OM (r:Ro) (x y:Po):Int:=aV [jR x.lv y.lv,jR (dP r x.ou) (dP r y.ou)]
theorem Oz {r:Ro} {x y:Po} {b bm:Nat} {w:World} (hd:B7 r) (hx:iF (dX r) x.ou=true) (hy:iF (dX r) y.ou=true) (f:w.cell? ⟨b,0,none⟩=some (.map (some bm))) (hm:TB w bm (nH r)) :
  aj Tryz.prog 318 [.agg x.cells.toArray,.agg y.cells.toArray,.pointer (some ⟨b,0,none⟩)] w (.int .i64 (OM r x y)):=by
 have ex:(er x.ou (nH r)).getD (kV 0 0 0)=kV (dP r x.ou) (jU r x.ou) (jE r x.ou):=by rw [pC hd,hx];rfl
 have ey:(er y.ou (nH r)).getD (kV 0 0 0)=kV (dP r y.ou) (jU r y.ou) (jE r y.ou):=by rw [pC hd,hy];rfl
 unfold Po.cells
 refine ah Tryz.func318 rfl rfl ?_
 refine Jr<|Jy rfl rfl fun _ _=>Jy rfl rfl fun _ _=>Ja rfl<|Jn<|Jq ?_
 with_reducible refine cQ 17 (by kernel_rfl) ?_
 (refine an kr rfl ?_;refine an (gp (.there .here)) rfl ?_;refine an kr rfl ?_;refine an (gp .here) rfl ?_;refine aU aZ rfl (fun w' az=>(BD _ _ w')) ?_;refine an (ai (.of rfl) (At.base f rfl)) rfl ?_;refine an kr rfl ?_;refine an (gp (.there .here)) rfl ?_)
 refine an (uf (l:=nH r) (z:=kV 0 0 0) (V:=.agg #[.int .i64 (dP r x.ou),.int .i64 (jU r x.ou),.int .i64 (jE r x.ou)]) (Is.of rfl) (Is.of rfl) (fun w' az=>hm.iN (by simp) az.keeps) ex) rfl ?_
 (refine an (AS (.of rfl) rfl) rfl ?_;refine an (ai (.of rfl) (At.base f rfl)) rfl ?_;refine an kr rfl ?_;refine an (gp .here) rfl ?_)
 refine an (uf (l:=nH r) (z:=kV 0 0 0) (V:=.agg #[.int .i64 (dP r y.ou),.int .i64 (jU r y.ou),.int .i64 (jE r y.ou)]) (Is.of rfl) (Is.of rfl) (fun w' az=>hm.iN (by simp) az.keeps) ey) rfl ?_
 (refine an (AS (.of rfl) rfl) rfl ?_;refine aU aZ rfl (fun w' az=>(BD _ _ w')) ?_;refine en (aA (.cons (.of rfl) (.cons (.of rfl) .nil)) rfl rfl rfl rfl) rfl rfl ?_)
 with_reducible refine dy rfl fun bq mT=>?_
 skip
 refine ag bC rfl (fun w' az=>Rw (l:=[jR x.lv y.lv,jR (dP r x.ou) (dP r y.ou)]) (Mem.dh az (by exact .here) rfl rfl)) ?_
 refine Ja rfl<|Jn<|Je<|JT ?_
 rfl
end Go.Proofs.A1
namespace Go.Proofs.A1
open Go Go.SL Go.Shelf
theorem tr (r:Ro) (x y:Po):OM r x y<0↔x.lv<y.lv∨(x.lv=y.lv∧dP r x.ou<dP r y.ou):=by
 unfold OM
 generalize dP r x.ou=a
 generalize dP r y.ou=b
 simp only [aV,jR]
 repeat' split
 all_goals omega
theorem Li {α:Type} (r:Ro) (g:α→Po):Go.Sort.SWO (ltOf fun x y:α=>OM r (g x) (g y)):=by
 constructor
 ·intro x;unfold ltOf;rw [decide_eq_false_iff_not,tr];omega
 ·intro x y z h1 h2
  unfold ltOf at *
  rw [decide_eq_true_eq,tr] at *
  omega
 ·intro x y z h1 h2
  unfold ltOf at *
  rw [decide_eq_false_iff_not,tr] at *
  omega
theorem GD {r:Ro} {v:Value} {l:List Po} {Ko bm:Nat} {w:World} {fp:List Nat} (hs:bY (hp w) [PB v l] fp) (hd:B7 r) (iv:∀ x∈l,iF (dX r) x.ou=true) (cJ:l.length≤1000000)
  (f:w.cell? ⟨Ko,0,none⟩=some (.map (some bm))) (hm:TB w bm (nH r)) (Wo:Ko ∉ fp) (Uc:bm ∉ fp) :
  bd Tryz.prog 317 [v,.func (.func 318) #[] #[.pointer (some ⟨Ko,0,none⟩)]] w fp (fun l':List Po=>l'.Perm l∧l'.Pairwise (fun x y=>¬ OM r y x<0)) (fun _=>.tuple #[]) (fun l'=>[PB v l']):=by
 obtain ⟨f1,f2,rfl,h1,h2⟩:=hs
 obtain rfl:f2=[]:=h2
 obtain ⟨rfl,hlen,h1⟩:=h1
 rw [List.append_nil] at *
 rcases h1 with ⟨rfl,h0⟩ | ⟨g,cap,cur,rfl,hg,jY,jH,pL,zo⟩
 ·have pK:l=[]:=List.eq_nil_of_length_eq_zero (by omega)
  subst pK
  refine (AnyF.slices_SortFunc_none Tryz.Cs none 0 (.func (.func 318) #[] #[.pointer (some ⟨Ko,0,none⟩)]) w).mono fun e w' ⟨he,hw⟩=>?_
  subst hw
  exact ⟨[],he,⟨.refl _,.nil⟩,.refl _ _,[],List.nodup_nil,⟨[],[],rfl,⟨rfl,hlen,.inl ⟨rfl,h0⟩⟩,rfl⟩,by simp⟩
 ·have PV:g<w.heap.size:=(Array.getElem?_eq_some_iff.1 hg).1
  by_cases pK:l=[]
  ·subst pK
   refine (AnyF.slices_SortFunc_none Tryz.Cs (some ⟨g,0,none⟩) cap (.func (.func 318) #[] #[.pointer (some ⟨Ko,0,none⟩)]) w).mono fun e w' ⟨he,hw⟩=>?_
   subst hw
   exact ⟨[],he,⟨.refl _,.nil⟩,.refl _ _,[g],by simp,⟨[g],[],rfl,⟨rfl,hlen,.inr ⟨g,cap,cur,rfl,hg,jY,jH,pL,zo⟩⟩,rfl⟩,fun b hb=>.inl hb⟩
  obtain ⟨x0,Pb⟩:=List.exists_mem_of_ne_nil l pK
  let α:={x:Po // iF (dX r) x.ou=true}
  let _:Inhabited α:=⟨⟨x0,iv x0 Pb⟩⟩
  let enc:α→List Value:=fun x=>x.1.cells
  have mI:cur=([]++iW l++cur.toList.drop (l.length*3)).toArray:=by
   apply Array.ext'
   show cur.toList=_
   rw [← zo,List.nil_append,List.take_append_drop]
  generalize Sd:cur.toList.drop (l.length*3)=post at mI
  let la:List α:=l.attach.map fun x=>⟨x.1,iv x.1 x.2⟩
  have PG:la.map (fun x:α=>x.1)=l:=by
   show (l.attach.map fun x=>(⟨x.1,iv x.1 x.2⟩:α)).map (fun x:α=>x.1)=l
   rw [List.map_map]
   exact List.attach_map_subtype_val l
  have Bk:∀ m:List α,(m.map enc).flatten=iW (m.map fun x:α=>x.1):=fun m=>by
   rw [yP];unfold sN
   rw [List.map_map];rfl
  have CY:la.length=l.length:=by
   show (l.attach.map fun x=>(⟨x.1,iv x.1 x.2⟩:α)).length=_
   rw [List.length_map,List.length_attach]
  have sQ:w.heap[g]? = some (.cells ([]++(la.map enc).flatten++post).toArray 188 (0,0)):=by rw [Bk,PG,← mI];exact hg
  have key:=Ay Tryz.Cs (k:=3) Tryz.isAgg188 Tryz.sizeOf188 (enc:=enc) (fun _=>rfl)
   (fun x u hu=>by
    simp only [enc,Po.cells,List.mem_cons,List.not_mem_nil,or_false] at hu
    rcases hu with rfl | rfl | rfl <;> rfl)
   (Li r (fun x:α=>x.1)) (g:=318) (b:=g) (cap:=cap) (cb:=#[.pointer (some ⟨Ko,0,none⟩)]) (l:=la) (pre:=[]) (cur:=post) (E:=188) (w:=w)
   (enters_of Tryz.func318 (by kernel_rfl) rfl) sQ (by rw [CY];omega)
   (fun w' hk x y=>Oz (r:=r) (x:=x.1) (y:=y.1) hd x.2 y.2 (dJ f rfl Wo hk) (hm.iN Uc hk))
  rw [CY] at key
  refine Calls.mono key ?_
  rintro e w' ⟨he,l',gP,Vf,hk,dw⟩
  have xB:(l'.map fun x:α=>x.1).length=l.length:=by rw [List.length_map,gP.length_eq,CY]
  rw [Bk] at dw
  refine ⟨l'.map fun x:α=>x.1,he,⟨?_,?_⟩,hk,[g],by simp,⟨[g],[],rfl,⟨rfl,?_,.inr ⟨g,cap,_,?_,dw,?_,jH,?_,?_⟩⟩,rfl⟩,fun b hb=>.inl hb⟩
  ·have:=gP.map (fun x:α=>x.1)
   rwa [PG] at this
  ·rw [List.pairwise_map]
   refine Vf.imp fun {x y} h=>?_
   unfold ltOf at h
   rwa [decide_eq_false_iff_not] at h
  ·exact ja _
  ·rw [xB]
  ·rw [xB];exact jY
  ·rw [← pL]
   have:=congrArg (fun x:Array Value=>x.size) mI
   simp only [List.size_toArray,List.length_append,ja,List.length_nil,Nat.zero_add] at this ⊢
   rw [xB,this]
  ·show List.take _ ([]++iW _++post)=_
   rw [List.nil_append,List.take_append_of_le_length (by rw [ja];exact Nat.le_refl _),List.take_of_length_le (by rw [ja];exact Nat.le_refl _)]
end Go.Proofs.A1
namespace Go.Proofs.A1
open Go Go.SL
set_option maxHeartbeats 2000000 in
theorem yQ {r:Ro} {s d t p:Value} {w:World} (h:RR w r s d t p) (cJ:mP r) (Vi:r.po.length≤1000000) :
  bd Tryz.prog 184 [RA r s d t p] w [] (fun _:Value×Value×Value×Value=>True) (fun x=>RA r x.1 x.2.1 x.2.2.1 x.2.2.2) (fun x=>[J1 r x.1,J2 r x.2.1,J3 r x.2.2.1,PB x.2.2.2 r.po]):=by
 have h1:=Rd.one h.sr
 have h2:=Rd.one h.de
 have h3:=Rd.one h.ti
 have h4:=Rd.one h.po
 have HY:=h.po
 have qg:=h.po
 obtain ⟨a4,cp4,q4,o4,rfl,xF,l5,F2,zo⟩:=qg
 rw [cU] at *
 unfold maxLen at l5
 unfold RA
 refine aR Tryz.func184 rfl rfl ?_
 (refine Jr<|Jy rfl rfl fun _ _=>Jz rfl rfl fun _ _=>Ji<|ab (cr (.there .here)) rfl ?_;refine Jz rfl rfl fun _ _=>ao (.of rfl) (.of rfl) .here rfl rfl (ib rfl rfl h1 h2 h3 rfl) (bE rfl) ak ?_;refine Jn<|Jq ?_)
 have hs0:=h.sr
 have QM:=h.de
 with_reducible refine dM 7 (by kernel_rfl) ?_
 (refine au (fun β=>(ar (.of rfl) ae)) du rfl ?_;refine au (fun β=>(ai (.of rfl) (At.lit bI rfl))) du rfl ?_)
 dsimp only [Nat.zero_add,Nat.reduceAdd]
 with_reducible apply fb (ι:=Value) (Φ:=fun _=>True) (val:=id) (own:=fun x=>[J1 r x]) (g:=id) (B:=[]) (args:=fun _=>[s])
 case hg=>exact fun x=>⟨x,rfl⟩
 case hB=>rfl
 case hr=>exact fun β=>bh (.of rfl) (.cons (.of rfl) .nil) inferInstance rfl
 case hd=>rfl
 case hc=>exact fun β w' hb=>FP (h.sr.keeps hb.mem.keeps) (by have:=cJ.1;omega)
 dsimp only [id_eq,Nat.reduceAdd]
 (refine au (fun β=>(ar (.of rfl) ae)) du rfl ?_;refine au (fun β=>(ai (.of rfl) (At.lit bI rfl))) du rfl ?_)
 dsimp only [Nat.zero_add,Nat.reduceAdd]
 with_reducible apply fb (ι:=Value) (Φ:=fun _=>True) (val:=id) (own:=fun x=>[J2 r x]) (g:=id) (B:=[]) (args:=fun _=>[d])
 case hg=>exact fun x=>⟨x,rfl⟩
 case hB=>rfl
 case hr=>exact fun β=>bh (.of rfl) (.cons (.of rfl) .nil) inferInstance rfl
 case hd=>rfl
 case hc=>exact fun β w' hb=>FT (h.de.keeps hb.mem.keeps) (by have:=cJ.2.1;omega)
 dsimp only [id_eq,Nat.reduceAdd]
 refine au (fun β=>(ar (.of rfl) ae)) du rfl ?_
 refine fC fun β=>?_
 dsimp only [eI,List.nil_append,List.cons_append,List.append_eq,Nat.reduceAdd]
 generalize β 2=sv
 generalize β 5=dv
 clear β
 refine aW (v:=sv) (by exact .here) fun sa sc e=>?_
 subst e
 refine aW (v:=dv) (by exact Take.there .here) fun da dc e=>?_
 subst e
 refine cV (rs:=[7]) (by kernel_rfl) (by simp) (List.forall_mem_cons.2 ⟨?_,fun _ h=>absurd h List.not_mem_nil⟩)
 refine c6 rfl ?_
 (refine ao (.of rfl) (.of rfl) bI rfl rfl (dZ rfl) (bE rfl) ak ?_;refine Jn ?_)
 refine cV (rs:=[8]) (by kernel_rfl) (by simp) (List.forall_mem_cons.2 ⟨?_,fun _ h=>absurd h List.not_mem_nil⟩)
 refine c6 rfl ?_
 (refine bF rfl rfl ae ?_;refine Jn ?_)
 refine cV (rs:=[9]) (by kernel_rfl) (by simp) (List.forall_mem_cons.2 ⟨?_,fun _ h=>absurd h List.not_mem_nil⟩)
 refine c6 rfl ?_
 (refine ao (.of rfl) (.of rfl) .here rfl rfl (dZ rfl) (bE rfl) ak ?_;refine Jn ?_)
 with_reducible refine cW (by kernel_rfl) ?_
 (refine Jt<|Jr<|bF rfl rfl ae ?_;refine JL rfl ei rfl ?_)
 refine JN bC rfl (fun w1 aJ=>FO (h.keeps aJ.keeps).ti (by have:=cJ.2.2;omega)) ?_
 intro tv _
 dsimp only [id_eq,List.cons_append,List.nil_append]
 refine aW (v:=tv) (by exact .here) fun ta tc e=>?_
 subst e
 (refine bF rfl rfl ae ?_;refine ao (.of rfl) (.of rfl) (.there .here) rfl rfl (dZ rfl) (bE rfl) ak ?_;refine Ji<|bF rfl rfl ae ?_;refine JL rfl eC rfl<|JI rfl ?_)
 with_reducible apply bb
 case hr=>
  with_reducible apply La
  case hx=>exact Is.of rfl
  case hy=>exact Is.of rfl
  case hl=>exact Nat.le_refl _
  case hb=>omega
  case hz=>rfl
  case hsz=>rfl
  case h63=>omega
 case hd=>rfl
 intro bg PV
 (refine bF rfl rfl ae ?_;refine ao (.of rfl) (.of rfl) (.there .here) rfl rfl (dZ rfl) (bE rfl) ak ?_;refine Ji<|bF rfl rfl ae ?_;refine JL rfl .here rfl<|bF rfl rfl ae ?_;refine JL rfl oq rfl ?_)
 with_reducible apply Gp
 case hx=>exact Is.of rfl
 case hy=>exact Is.of rfl
 case ht=>exact Take.there .here
 case hsrc=>exact fun w' az=>HY.keeps az.keeps
 case h1=>exact D1 r.po
 case hfit=>
  simp [Value.cells]
 case hd=>rfl
 rw [List.take_of_length_le (by rw [cU];exact Nat.le_refl _),← yP,yz _ _ (by rw [ja];simp [Value.cells])]
 refine c8 (n:=r.po.length) (xs:=iW r.po) (cap:=r.po.length) (g:=bg) (E:=188) (sz:=3) (by exact .here) (Nat.le_refl _) (by unfold maxLen;omega) ?_ (ja _) ?_
 ·rw [List.length_append,List.length_drop,ja];simp [Value.cells]
 (refine Ji<|ab (cr (.there .here)) rfl ?_;refine ao (.of rfl) (.of rfl) eC rfl rfl (ib rfl rfl rfl rfl rfl rfl) (bE rfl) ak ?_;refine Jn<|Je ?_)
 first | with_reducible apply aO | with_reducible apply aP
 case he=>exact ke rfl inferInstance rfl .here ak (by rfl)
 case hR=>
  intro w' az
  exact aB (.slice sa r.sr.length sc,.slice da r.de.length dc,.slice ta r.ti.length tc,.slice (some ⟨bg,0,none⟩) r.po.length r.po.length) trivial (by exact .cons ei (.cons ei (.cons cY (.cons (.there .here) .nil)))) az rfl
end Go.Proofs.A1
namespace Go.Proofs.A1
structure Sw (po:List Po) (D:List ByteArray) (f:Po→Bool):Prop where
 de:∀ p∈po,p.ou∈D→f p=true
 up:∀ p∈po,∀ q∈po,f q=true→q.lv=p.lv→q.ip=p.ou→f p=true
theorem Sw.start (po:List Po) (D:List ByteArray):Sw po D fun _=>true:=⟨fun _ _ _=>rfl,fun _ _ _ _ _ _ _=>rfl⟩
theorem Sw.step {po:List Po} {D:List ByteArray} {f:Po→Bool} (h:Sw po D f) {v:Int} {o:ByteArray} (hD:o ∉ D) (hu:∀ q∈po,f q=true→¬ (q.lv=v∧q.ip=o)):Sw po D fun x=>f x&&!xi v o x:=by
 refine ⟨fun p hp hd=>?_,fun p hp q hq hf e1 e2=>?_⟩
 ·have h1:=h.de p hp hd
  have h2:xi v o p=false:=by
   unfold xi
   have:¬ p.ou=o:=fun e=>hD (e ▸ hd)
   simp [this]
  simp [h1,h2]
 ·rw [Bool.and_eq_true] at hf
  have h1:=h.up p hp q hq hf.1 e1 e2
  have h2:xi v o p=false:=by
   unfold xi
   by_cases a:p.lv=v
   ·by_cases b:p.ou=o
    ·exact absurd ⟨e1.trans a,e2.trans b⟩ (hu q hq hf.1)
    ·simp [b]
   ·simp [a]
  simp [h1,h2]
theorem sB (po:List Po) (f:Po→Bool) (v:Int) (o:ByteArray):(po.filter f).filter (fun x=>!xi v o x)=po.filter fun x=>f x&&!xi v o x:=by
 rw [List.filter_filter]
 congr 1
 funext x
 exact Bool.and_comm _ _
end Go.Proofs.A1
namespace Go.Proofs.A1
open Go Go.SL
def Ro.wp (r:Ro) (po:List Po):Ro:=⟨r.lv,r.ma,r.sr,r.de,r.ti,po⟩
theorem iL.wp {r:Ro} {q po:List Po} (h:iL r po):iL (r.wp q) po:=⟨h.qp,h.Kh,h.out,h.vR,h.M9,h.Dc,h.use⟩
theorem pt.wp {r:Ro} {q:List Po} (h:pt r):pt (r.wp q):=⟨h.sd,h.st,h.dt,h.Q7⟩
theorem B7.wp {r:Ro} {q:List Po} (h:B7 r):B7 (r.wp q):=⟨h.nd⟩
theorem sJ.wp {r:Ro} (h:sJ r) {q:List Po} (hq:iL r q):sJ (r.wp q):=⟨h.lim,h.NS.wp,h.len,h.sm,h.dm,h.tm,hq.wp⟩
theorem sJ.nd {r:Ro} (h:sJ r):(cK r).Nodup:=h.NS.parts.2.2.1
def vK (D:List ByteArray) (po:List Po):List Po:=po.filter fun p=>iF D p.ou||po.any fun q=>decide (q.lv=p.lv)&&decide (q.ip=p.ou)
def E0 (D:List ByteArray):Nat→List Po→List Po
 | 0,po=>po
 | n+1,po=>E0 D n (vK D po)
def Ar (D:List ByteArray) (po:List Po):List Po:=E0 D po.length po
theorem Aq {D:List ByteArray} {po:List Po} (h:vK D po=po):∀ n,E0 D n po=po
 | 0=>rfl
 | n+1=>by rw [E0,h];exact Aq h n
theorem DL {D:List ByteArray}:∀ (n:Nat) (po:List Po) (f:Po→Bool),Sw po D f→(po.filter f).length≤n →
  ∃ g:Po→Bool,Sw po D g∧E0 D n (po.filter f)=po.filter g∧vK D (po.filter g)=po.filter g
 | 0, po, f, h, hl => by
  have e:po.filter f=[]:=List.eq_nil_of_length_eq_zero (by omega)
  exact ⟨f,h,rfl,by rw [e];rfl⟩
 | n + 1, po, f, h, hl => by
  have hS:Sw po D fun p=>f p&&(iF D p.ou||(po.filter f).any fun q=>decide (q.lv=p.lv)&&decide (q.ip=p.ou)):=by
   refine ⟨fun p hp hd=>?_,fun p hp q hq hf e1 e2=>?_⟩
   ·have:=h.de p hp hd
    show (f p&&(iF D p.ou||_))=true
    rw [this,eX.2 hd];rfl
   ·rw [Bool.and_eq_true] at hf
    have h1:=h.up p hp q hq hf.1 e1 e2
    rw [h1,Bool.true_and,Bool.or_eq_true]
    right
    rw [List.any_eq_true]
    exact ⟨q,List.mem_filter.2 ⟨hq,hf.1⟩,by simp [e1,e2]⟩
  have e:vK D (po.filter f)=po.filter fun p=>f p&&(iF D p.ou||(po.filter f).any fun q=>decide (q.lv=p.lv)&&decide (q.ip=p.ou)):=by
   unfold vK
   rw [List.filter_filter]
   refine List.filter_congr fun p _=>?_
   rw [Bool.and_comm]
  by_cases VT:vK D (po.filter f)=po.filter f
  ·exact ⟨f,h,Aq VT _,VT⟩
  ·have aN:(vK D (po.filter f)).length<(po.filter f).length:=by
    have hle:(vK D (po.filter f)).length≤(po.filter f).length:=List.length_filter_le _ _
    rcases Nat.lt_or_ge (vK D (po.filter f)).length (po.filter f).length with h1 | h1
    ·exact h1
    ·exact absurd (List.filter_sublist.eq_of_length (Nat.le_antisymm hle h1)) VT
   rw [E0,e]
   exact DL n po _ hS (by rw [← e];omega)
structure XQ (po:List Po) (D:List ByteArray) (f:Po→Bool):Prop where
 sw:Sw po D f
 us:∀ p∈po,f p=true→p.ou∈D∨∃ q∈po,f q=true∧q.lv=p.lv∧q.ip=p.ou
theorem DM (D:List ByteArray) (po:List Po):∃ g,XQ po D g∧Ar D po=po.filter g:=by
 obtain ⟨g,h1,h2,h3⟩:=DL (D:=D) po.length po (fun _=>true) ⟨fun _ _ _=>rfl,fun _ _ _ _ _ _ _=>rfl⟩ (List.length_filter_le _ _)
 rw [List.filter_eq_self.2 fun _ _=>rfl] at h2
 refine ⟨g,⟨h1,fun p hp hg=>?_⟩,h2⟩
 have hm:p∈vK D (po.filter g):=by rw [h3];exact List.mem_filter.2 ⟨hp,hg⟩
 have:=(List.mem_filter.1 hm).2
 rw [Bool.or_eq_true,eX,List.any_eq_true] at this
 rcases this with h | ⟨q,hq,e⟩
 ·exact .inl h
 ·rw [Bool.and_eq_true,decide_eq_true_eq,decide_eq_true_eq] at e
  obtain ⟨a,b⟩:=List.mem_filter.1 hq
  exact .inr ⟨q,a,b,e.1,e.2⟩
structure MV (r:Ro) (po:List Po):Prop where
 one:rW po
 out:∀ p∈po,p.ou∈cm r∨p.ou∈cK r
 vR:∀ p∈po,p.ip∈cz r∨p.ip∈cK r
 Dc:∀ v,¬ ∃ t∈cK r,t∈eM po v ((cK r).length+1) t
theorem iL.XP {r:Ro} {po:List Po} (h:iL r po):MV r po:=⟨iL.one h.qp,h.out,h.vR,h.Dc⟩
theorem MV.sub {r:Ro} {po:List Po} (h:MV r po) (f:Po→Bool):MV r (po.filter f):=by
 have hs:∀ p∈po.filter f,p∈po:=fun p hp=>(List.mem_filter.1 hp).1
 exact ⟨h.one.filter f,fun p hp=>h.out p (hs p hp),fun p hp=>h.vR p (hs p hp),fun v ⟨t,ht,hc⟩=>h.Dc v ⟨t,ht,zJ h.one hs hc⟩⟩
theorem MV.short {r:Ro} (hn:pt r) {po:List Po} (h:MV r po):∀ v o m,(cK r).length+1≤m→eM po v m o=eM po v ((cK r).length+1) o:=fun v o m hm=>
 oP (T:=cK r) (iL.tie hn h.out h.vR) (h.Dc v) o hm
theorem MV.tid {r:Ro} (hn:pt r) {po:List Po} (h:MV r po) {f:Po→Bool} (hf:XQ po (cm r) f):po.filter f=Ar (cm r) po:=by
 obtain ⟨g,hg,e⟩:=DM (cm r) po
 rw [e]
 exact Ly h.one (h.short hn) hf.sw.de hf.sw.up hf.us hg.sw.de hg.sw.up hg.us
def Tk.at (t:Tk) (k:Nat):ByteArray:=t.so.getD k ⟨#[]⟩
def Tk.zero:Tk:=⟨⟨#[]⟩,[]⟩
def mZ (r:Ro) (t:Tk) (k:Nat):Bool:=!decide (t.at k=⟨#[]⟩)&&!decide (t.at k=kQ r (k:Nat) t.de)
def mU (r:Ro) (t:Tk):Nat→List Po→List Po
 | 0,po=>po
 | k+1,po=>if mZ r t k then (mU r t k po).filter (fun x=>!xi (k:Nat) t.de x) else mU r t k po
def jJ (r:Ro) (l:List Tk):Nat→List Po
 | 0=>r.po
 | i+1=>mU r (l.getD i Tk.zero) (l.getD i Tk.zero).so.length (jJ r l i)
def dash:ByteArray:=⟨#[45]⟩
def nK (r:Ro) (t:Tk) (k:Nat):Bool:=mZ r t k&&!decide (t.at k=dash)
def oV (r:Ro) (t:Tk):Nat→List Po→Option (List Po)
 | 0,po=>some po
 | k+1,po=>(oV r t k po).bind fun q=>if nK r t k then (qj (r.wp q) (k:Nat) (t.at k) t.de).map fun p=>kT r q (k:Nat) (t.at k) p t.de else some q
def jq (r:Ro) (l:List Tk) (po:List Po):Nat→Option (List Po)
 | 0=>some po
 | i+1=>(jq r l po i).bind (oV r (l.getD i Tk.zero) (l.getD i Tk.zero).so.length)
theorem E4 {r:Ro} {t:Tk} {po:List Po} {k:Nat} (h:oV r t k po=none):∀ {m},k≤m→oV r t m po=none:=by
 intro m hm
 induction hm with
 | refl=>exact h
 | step _ ih=>rw [oV,ih];rfl
theorem wO {r:Ro} {l:List Tk} {po:List Po} {k:Nat} (h:jq r l po k=none):∀ {m},k≤m→jq r l po m=none:=by
 intro m hm
 induction hm with
 | refl=>exact h
 | step _ ih=>rw [jq,ih];rfl
def GZ (r:Ro) (l:List Tk) (po:List Po):Nat:=((List.range l.length).find? fun i=>(jq r l po (i+1)).isNone).getD 0
theorem Lc {r:Ro} {l:List Tk} {po:List Po} {i:Nat} (hi:i<l.length) {q:List Po} (h1:jq r l po i=some q) (h2:jq r l po (i+1)=none):GZ r l po=i:=by
 unfold GZ
 have:(List.range l.length).find? (fun i=>(jq r l po (i+1)).isNone)=some i:=by
  rw [List.find?_eq_some_iff_append]
  refine ⟨by rw [h2];rfl,List.range i,(List.range (l.length-i-1)).map (fun x=>x+i+1),?_,fun j hj=>?_⟩
  ·apply List.ext_getElem
   ·simp;omega
   ·intro n a b
    rw [List.getElem_range]
    rcases Nat.lt_trichotomy n i with c | c | c
    ·rw [List.getElem_append_left (by simpa using c)];simp
    ·subst c;rw [List.getElem_append_right (by simp)];simp
    ·rw [List.getElem_append_right (by simp;omega)]
     simp only [List.length_range]
     obtain ⟨d,hd⟩:∃ d,n-i=d+1:=⟨n-i-1,by omega⟩
     simp only [hd,List.getElem_cons_succ,List.getElem_map,List.getElem_range]
     omega
  ·have hj:=List.mem_range.1 hj
   cases hn:jq r l po (j+1) with
   | some _=>rfl
   | none=>rw [wO hn (show j+1≤i by omega)] at h1;cases h1
 rw [this];rfl
def se (r:Ro) (l:List Tk):Int:=gA (fun t=>(r.de.getD (bA (cm r) t.de).toNat ⟨⟨#[]⟩,0,false⟩).pr) l
def Ro.nil:Ro:=⟨0,0,[],[],[],[]⟩
def kU (r:Ro) (l:List Tk):Ro×Int×Int:=
 if 0≤se r l then (Ro.nil,se r l,31) else
 match jq r l (Ar (cm r) (jJ r l l.length)) l.length with
 | none=>(Ro.nil,(GZ r l (Ar (cm r) (jJ r l l.length)):Nat),18)
 | some po=>(r.wp po,0,0)
structure JR (r:Ro) (l:List Tk):Prop where
 de:∀ t∈l,t.de∈cm r
 nd:(l.map Tk.de).Nodup
 lv:∀ t∈l,(t.so.length:Int)=r.lv
 so:∀ t∈l,∀ s∈t.so,s=⟨#[]⟩∨s=dash∨s∈cz r
 C8:l.length≤8
theorem JR.wp {r:Ro} {l:List Tk} (h:JR r l) (q:List Po):JR (r.wp q) l:=⟨h.de,h.nd,h.lv,h.so,h.C8⟩
def Mt (r:Ro) (t:Tk) (k:Nat) (p:Po):Bool:=(List.range k).any fun i=>mZ r t i&&xi (i:Nat) t.de p
theorem mM (r:Ro) (t:Tk):∀ (k:Nat) (po:List Po),mU r t k po=po.filter fun p=>!Mt r t k p
 | 0,po=>by rw [mU,List.filter_eq_self.2 fun p _=>by simp [Mt]]
 | k + 1, po => by
  rw [mU,mM r t k po]
  have e:∀ p,Mt r t (k+1) p=(Mt r t k p||(mZ r t k&&xi (k:Nat) t.de p)):=fun p=>by
   unfold Mt;rw [List.range_succ,List.any_append];simp
  split
  ·rename_i h
   rw [List.filter_filter]
   refine List.filter_congr fun p _=>?_
   rw [e,h,Bool.true_and,Bool.not_or,Bool.and_comm]
  ·rename_i h
   refine List.filter_congr fun p _=>?_
   rw [e,Bool.eq_false_iff.2 h,Bool.false_and,Bool.or_false]
def Ix (r:Ro) (l:List Tk) (i:Nat) (p:Po):Bool:=(List.range i).any fun j=>Mt r (l.getD j Tk.zero) (l.getD j Tk.zero).so.length p
theorem kg (r:Ro) (l:List Tk):∀ i,jJ r l i=r.po.filter fun p=>!Ix r l i p
 | 0=>by rw [jJ,List.filter_eq_self.2 fun p _=>by simp [Ix]]
 | i + 1 => by
  rw [jJ,mM,kg r l i,List.filter_filter]
  refine List.filter_congr fun p _=>?_
  have e:Ix r l (i+1) p=(Ix r l i p||Mt r (l.getD i Tk.zero) (l.getD i Tk.zero).so.length p):=by
   unfold Ix;rw [List.range_succ,List.any_append];simp
  rw [e,Bool.not_or,Bool.and_comm]
theorem EA {r:Ro} {t:Tk} {k:Nat} {p:Po}:Mt r t k p=true↔∃ i,i<k∧mZ r t i=true∧p.lv=(i:Nat)∧p.ou=t.de:=by
 unfold Mt xi
 simp [List.any_eq_true]
theorem Mu {r:Ro} {l:List Tk} {p:Po}:Ix r l l.length p=true↔∃ t∈l,∃ i,i<t.so.length∧mZ r t i=true∧p.lv=(i:Nat)∧p.ou=t.de:=by
 unfold Ix
 rw [List.any_eq_true]
 constructor
 ·rintro ⟨j,hj,h⟩
  have hj:=List.mem_range.1 hj
  rw [List.getD_eq_getElem?_getD,List.getElem?_eq_getElem hj] at h
  exact ⟨l[j],List.getElem_mem hj,EA.1 h⟩
 ·rintro ⟨t,ht,h⟩
  obtain ⟨j,hj,rfl⟩:=List.getElem_of_mem ht
  refine ⟨j,List.mem_range.2 hj,?_⟩
  rw [List.getD_eq_getElem?_getD,List.getElem?_eq_getElem hj]
  exact EA.2 h
end Go.Proofs.A1
