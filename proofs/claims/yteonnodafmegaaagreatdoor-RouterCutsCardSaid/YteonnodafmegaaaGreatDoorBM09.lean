/- Parts of the proof: KN KO KP KQ KR KS KT KU KW KX KYq P5p. -/
import Derived.Test.YteonnodafmegaaaGreatDoorBM08
import Derived.Test.YteonnodafmegaaaGreatDoorBM04
import Derived.Test.YteonnodafmegaaaGreatDoorBM03
import Derived.Shelf.Slices.In.SortNone
import Derived.Test.YteonnodafmegaaaGreatDoorBM02
import Derived.Test.YteonnodafmegaaaGreatDoorBM05
import Derived.Test.YteonnodafmegaaaGreatDoorBM07
import Derived.Test.YteonnodafmegaaaGreatDoorBM01
set_option linter.unusedSectionVars false
set_option linter.unusedVariables false
set_option linter.unusedSimpArgs false
namespace Go.Proofs.A1
open Go Go.SL
theorem Md (l:List Int):∀ r∈ints l,r.length=1:=fun r hr=>by obtain ⟨x,_,rfl⟩:=List.mem_map.1 hr;rfl
theorem gi {c:Cx} {hs hs':List a8} {w:World} {l:List Int} {E:TypeId} {v:Value} {n:Nat} (hm:Mem c hs w) (ht:Take hs (row E 1 v n (l.map (Value.int .i64))) hs') (hn:l.length=n):Rd w v 1 (ints l):=hm.ph ht (rM l) (Md l) (by rw [bW,hn])
set_option maxHeartbeats 1000000 in
theorem DO {r:Ro} {s d t p:Value} (v:Int) (so:ByteArray) {w:World} (h:RR w r s d t p) (cG:r.ti.length≤1000) (Qb:so∈cm r) :
  bd Tryz.prog 152 [RA r s d t p,.int .i64 v,.string so] w [] (fun _:Value=>True) id (fun x=>[row 3 1 x (fK r v so r.ti.length).length ((fK r v so r.ti.length).map (Value.int .i64))]):=by
 have h1:=Rd.one h.sr
 have h2:=Rd.one h.de
 have h3:=Rd.one h.ti
 have h4:=Rd.one h.po
 have hti:=h.ti
 obtain ⟨a,cp,b,o',rfl,db,bT,ha,hc⟩:=hti
 have P8:=h.sr
 obtain ⟨a2,nA,b2,o2,rfl,jt,eA,iW,jq⟩:=P8
 rw [bJ] at *
 rw [cu] at *
 unfold maxLen at bT eA
 obtain ⟨i0,rP⟩:∃ i:Nat,bu (cm r) so=(i:Nat):=⟨(bu (cm r) so).toNat,by have:=dz Qb;omega⟩
 have Io:i0<r.sr.length:=by
  obtain ⟨hl,_⟩:=er (l:=cm r) (s:=so) (by omega)
  rw [rP,Int.toNat_natCast] at hl
  unfold cm at hl;rwa [Zd] at hl
 have zd:jL r so=(r.sr[i0]).mx:=by unfold jL;rw [rP,Int.toNat_natCast,List.getD_eq_getElem?_getD,Zc Io];rfl
 have hsrc:∀ w',aG [] w w'→aj Tryz.prog 180 [.agg #[.int .i64 r.lv,.int .i64 r.ma,.slice a2 r.sr.length nA,d,.slice a r.ti.length cp,p],.string so] w' (.int .i64 (i0:Nat)):=fun w' hk=>rP ▸ nI so (h.keeps hk)
 have og:=iW (gB Io)
 have eM:=(jq i0 _ (fm Io)).2
 unfold Sr.cells at eM
 have Rz:=eM 1 _ rfl
 unfold RA
 refine aQ Tryz.func152 rfl rfl ?_
 refine Jr<|Jy rfl rfl fun _ _=>Ja rfl<|Jn<|Jq ?_
 rename_i b3 sZ
 with_reducible refine cC 9 (by kernel_rfl) ?_
 (refine ak j9 rfl ?_;refine ak (gz .here) rfl ?_;refine ak (cz .here) rfl ?_;refine ak kG rfl ?_;refine aT aZ rfl (fun w' au=>(hsrc w' (Mem.keeps au))) ?_;refine ak (az (.of rfl) (.of rfl) og (by omega) (by omega) ba) rfl ?_;refine ak j9 rfl ?_;refine ak (ag (.of rfl) (At.base Rz rfl)) rfl ?_;refine dX (aA (.cons (.of rfl) .nil) rfl rfl rfl rfl) rfl rfl ?_)
 with_reducible refine df rfl fun bq mg=>?_
 rw [← zd]
 (refine Ja rfl<|Jn<|Jq<|Jr<|bF rfl rfl ae ?_;refine JL rfl (.there .here) rfl<|JI rfl<|Jv rfl<|Jn<|J0 ?_)
 refine bQ (g:=bq) (E:=3) (ys:=[.int .i64 (jL r so)]) 1 1 (by exact .here) rfl rfl rfl ?_
 refine aX (ι:=Nat×Value) (fun x=>x.1≤r.ti.length) (fun x=>[(22,.int .i64 (x.1:Nat)),(21,.int .i64 (r.ti.length:Nat)),(20,.slice a r.ti.length cp),(7,x.2),(3,.pointer (some ⟨b3,0,none⟩)),(1,.int .i64 v),(2,.string so)])
  (fun x=>[row 3 1 x.2 (fK r v so x.1).length ((fK r v so x.1).map (Value.int .i64)),JP b3 r (.slice a2 r.sr.length nA) d (.slice a r.ti.length cp) p]) (fun x=>r.ti.length-x.1) ?_ ?_
 ·apply aJ (0,.slice (some ⟨bq,0,none⟩) 1 1) (Zi _)
  case hs1=>exact cd
  case ht=>
   exact .cons .here (.cons .here .nil)
 rintro ⟨k,ov⟩ hk
 dsimp only at hk ⊢
 have SY:=Au r v so k
 by_cases aL:k<r.ti.length
 ·have cE:=ha (eT aL)
  have aC:=(hc k _ (dQ aL)).2
  unfold Ti.cells at aC
  have y8:=mB aL
  have xz:gn r k=(r.ti[k]).nm:=by unfold gn;rw [y8]
  have VU:fK r v so (k+1)=if sO r v so k&&!(fK r v so k).contains (r.ti[k]).to then fK r v so k++[(r.ti[k]).to] else fK r v so k:=by rw [fK,y8]
  generalize hL:fK r v so k=L at SY VU ⊢
  have FG:L.length=L.length:=rfl
  have Bh:∀ w',aG [] w w'→aj Tryz.prog 121 [.agg #[.int .i64 r.lv,.int .i64 r.ma,.slice a2 r.sr.length nA,d,.slice a r.ti.length cp,p],.int .i64 v,.string (r.ti[k]).nm] w' (.bool (fV r.po v (r.ti[k]).nm)):=fun w' hk=>pY v _ (h.keeps hk)
  have tM:∀ w',aG [] w w'→aj Tryz.prog 126 [.agg #[.int .i64 r.lv,.int .i64 r.ma,.slice a2 r.sr.length nA,d,.slice a r.ti.length cp,p],.int .i64 v,.string (r.ti[k]).nm] w' (.string (jB r v (r.ti[k]).nm)):=fun w' hk=>oY v _ (h.keeps hk) (by omega)
  have Iv:∀ (w':World),Rd w' ov 1 (ints L)→aj Tryz.prog 154 [ov,.int .i64 (r.ti[k]).to] w' (.bool (L.contains (r.ti[k]).to)):=fun w' hr=>kY _ hr
  have skip:(sO r v so k&&!L.contains (r.ti[k]).to)=false→fK r v so (k+1)=L:=fun e=>by rw [VU,e];rfl
  cases zP:fV r.po v (r.ti[k]).nm with
  | false =>
   have Bi:∀ w',aG [] w w'→aj Tryz.prog 121 [.agg #[.int .i64 r.lv,.int .i64 r.ma,.slice a2 r.sr.length nA,d,.slice a r.ti.length cp,p],.int .i64 v,.string (r.ti[k]).nm] w' (.bool false):=fun w' hk=>zP ▸ Bh w' hk
   have SR:=skip (by unfold sO;rw [xz,zP];rfl)
   (refine Jr<|JA rfl<|Jn<|Jq<|Jd rfl fun ar=>Jk<|Jq<|J0<|Jr<|ab (fH cE ar) rfl ?_;refine ab (iv (eF.base aC rfl)) rfl ?_;refine Jz rfl rfl fun _ _=>aq (.of rfl) (.of rfl) .here rfl rfl (fh rfl rfl rfl) (bC rfl) an ?_;refine Ji<|ab (cz bN) rfl ?_;refine Jv rfl<|bF rfl rfl ae ?_;refine JL rfl .here rfl<|ai eh rfl (fun w' au=>(Bi w' (Mem.keeps au))) ?_;refine Jv rfl<|aF rfl rfl inferInstance (fun hg bj=>(cA (.of rfl) bN an (by rfl))) rfl ?_;refine je rfl rfl rfl rfl ?_;refine aF rfl rfl inferInstance (fun hg bj=>(ao (.of rfl) ae)) rfl ?_;refine aF rfl rfl inferInstance (fun hg bj=>(ag (.bE bj rfl) (At.lit .here rfl))) rfl ?_;refine ew rfl rfl rfl rfl ?_;refine je rfl rfl rfl rfl ?_;refine ew rfl rfl rfl rfl ?_;refine ab (cI (.of rfl) (.of rfl) (.of rfl) rfl) rfl ?_;refine Jv rfl<|je rfl rfl rfl rfl ?_;refine aF rfl rfl inferInstance (fun hg bj=>(ao (.of rfl) ae)) rfl ?_;refine aF rfl rfl inferInstance (fun hg bj=>(ag (.bE bj rfl) (At.lit .here rfl))) rfl ?_;refine ew rfl rfl rfl rfl ?_;refine aF rfl rfl inferInstance (fun hg bj=>(eU (.bE bj rfl))) rfl ?_;refine ab (cI (.of rfl) (.of rfl) (.of rfl) rfl) rfl ?_;refine Jn<|bL (.of rfl) ?_;refine Jw<|Jj<|Jt<|Jg<|JB rfl (by omega)<|Jv rfl<|Jn ?_)
   apply aK (k+1,ov) (show k+1≤r.ti.length by omega) (show r.ti.length-(k+1)<r.ti.length-k by omega)
   case hs1=>exact cd
   case ht=>
    rw [SR]
    exact .cons (.there .here) (.cons (.there .here) .nil)
  | true =>
   have Bi:∀ w',aG [] w w'→aj Tryz.prog 121 [.agg #[.int .i64 r.lv,.int .i64 r.ma,.slice a2 r.sr.length nA,d,.slice a r.ti.length cp,p],.int .i64 v,.string (r.ti[k]).nm] w' (.bool true):=fun w' hk=>zP ▸ Bh w' hk
   by_cases y9:jB r v (r.ti[k]).nm=so
   ·cases FE:L.contains (r.ti[k]).to with
    | true =>
     have Mz:∀ (w':World),Rd w' ov 1 (ints L)→aj Tryz.prog 154 [ov,.int .i64 (r.ti[k]).to] w' (.bool true):=fun w' hr=>FE ▸ Iv w' hr
     have SR:=skip (by rw [FE,Bool.not_true,Bool.and_false])
     (refine Jr<|JA rfl<|Jn<|Jq<|Jd rfl fun ar=>Jk<|Jq<|J0<|Jr<|ab (fH cE ar) rfl ?_;refine ab (iv (eF.base aC rfl)) rfl ?_;refine Jz rfl rfl fun _ _=>aq (.of rfl) (.of rfl) .here rfl rfl (fh rfl rfl rfl) (bC rfl) an ?_;refine Ji<|ab (cz bN) rfl ?_;refine Jv rfl<|bF rfl rfl ae ?_;refine JL rfl .here rfl<|ai eh rfl (fun w' au=>(Bi w' (Mem.keeps au))) ?_;refine Jv rfl<|JK rfl rfl<|ab (cz bN) rfl ?_;refine JK rfl rfl<|Jv rfl<|JK rfl rfl<|bF rfl rfl ae ?_;refine JK rfl rfl<|JL rfl .here rfl<|JK rfl rfl<|ai eh rfl (fun w' au=>(tM w' (Mem.keeps au))) ?_;refine JK rfl rfl<|Jv rfl<|JK rfl rfl<|ab (ux (.of rfl) (.of rfl) y9) rfl ?_;refine ab (eG (.of rfl) (.of rfl) (.of rfl) rfl) rfl ?_;refine Jv rfl<|JK rfl rfl<|Jv rfl<|JK rfl rfl<|bF rfl rfl ae ?_;refine JK rfl rfl<|JL rfl .here rfl<|JK rfl rfl<|ai aZ rfl (fun w' au=>(Mz w' (gi au (.there .here) FG))) ?_;refine JK rfl rfl<|JH rfl<|ab (cI (.of rfl) (.of rfl) (.of rfl) rfl) rfl ?_;refine Jn<|bL (.of rfl) ?_;refine Jw<|Jj<|Jt<|Jg<|JB rfl (by omega)<|Jv rfl<|Jn ?_)
     apply aK (k+1,ov) (show k+1≤r.ti.length by omega) (show r.ti.length-(k+1)<r.ti.length-k by omega)
     case hs1=>exact cd
     case ht=>
      rw [SR]
      exact .cons (.there .here) (.cons (.there .here) .nil)
    | false =>
     have Mz:∀ (w':World),Rd w' ov 1 (ints L)→aj Tryz.prog 154 [ov,.int .i64 (r.ti[k]).to] w' (.bool false):=fun w' hr=>FE ▸ Iv w' hr
     have pq:fK r v so (k+1)=L++[(r.ti[k]).to]:=by rw [VU,FE];unfold sO;rw [xz,zP,decide_eq_true y9];rfl
     have N6:(L.map (Value.int .i64)).length=L.length*1:=by rw [Zd,Nat.mul_one]
     (refine Jr<|JA rfl<|Jn<|Jq<|Jd rfl fun ar=>Jk<|Jq<|J0<|Jr<|ab (fH cE ar) rfl ?_;refine ab (iv (eF.base aC rfl)) rfl ?_;refine Jz rfl rfl fun _ _=>aq (.of rfl) (.of rfl) .here rfl rfl (fh rfl rfl rfl) (bC rfl) an ?_;refine Ji<|ab (cz bN) rfl ?_;refine Jv rfl<|bF rfl rfl ae ?_;refine JL rfl .here rfl<|ai eh rfl (fun w' au=>(Bi w' (Mem.keeps au))) ?_;refine Jv rfl<|JK rfl rfl<|ab (cz bN) rfl ?_;refine JK rfl rfl<|Jv rfl<|JK rfl rfl<|bF rfl rfl ae ?_;refine JK rfl rfl<|JL rfl .here rfl<|JK rfl rfl<|ai eh rfl (fun w' au=>(tM w' (Mem.keeps au))) ?_;refine JK rfl rfl<|Jv rfl<|JK rfl rfl<|ab (ux (.of rfl) (.of rfl) y9) rfl ?_;refine ab (eG (.of rfl) (.of rfl) (.of rfl) rfl) rfl ?_;refine Jv rfl<|JK rfl rfl<|Jv rfl<|JK rfl rfl<|bF rfl rfl ae ?_;refine JK rfl rfl<|JL rfl .here rfl<|JK rfl rfl<|ai aZ rfl (fun w' au=>(Mz w' (gi au (.there .here) FG))) ?_;refine JK rfl rfl<|JH rfl<|ab (eG (.of rfl) (.of rfl) (.of rfl) rfl) rfl ?_;refine Jn<|cB (.of rfl) ?_;refine Jg<|Jv rfl<|bF rfl rfl ae ?_;refine JL rfl .here rfl<|bb (aA (.cons (.of rfl) .nil) rfl rfl rfl rfl) rfl fun _ _=>?_)
     refine bB (.of rfl) (.of rfl) bN .here an (by rfl) (ed rfl) (by rfl) (by rfl) (by rfl) eH (by rfl) ?_
     intro v'
     refine Ja rfl<|Jx<|Jj<|Jt<|Jg<|JB rfl (by omega)<|Jv rfl<|Jn ?_
     apply aK (k+1,v') (show k+1≤r.ti.length by omega) (show r.ti.length-(k+1)<r.ti.length-k by omega)
     case hs1=>exact cd
     case ht=>
      rw [pq,Zg,List.map_append]
      exact .cons .here (.cons bN .nil)
   ·have SR:=skip (by unfold sO;rw [xz,zP,decide_eq_false y9];rfl)
    (refine Jr<|JA rfl<|Jn<|Jq<|Jd rfl fun ar=>Jk<|Jq<|J0<|Jr<|ab (fH cE ar) rfl ?_;refine ab (iv (eF.base aC rfl)) rfl ?_;refine Jz rfl rfl fun _ _=>aq (.of rfl) (.of rfl) .here rfl rfl (fh rfl rfl rfl) (bC rfl) an ?_;refine Ji<|ab (cz bN) rfl ?_;refine Jv rfl<|bF rfl rfl ae ?_;refine JL rfl .here rfl<|ai eh rfl (fun w' au=>(Bi w' (Mem.keeps au))) ?_;refine Jv rfl<|JK rfl rfl<|ab (cz bN) rfl ?_;refine JK rfl rfl<|Jv rfl<|JK rfl rfl<|bF rfl rfl ae ?_;refine JK rfl rfl<|JL rfl .here rfl<|JK rfl rfl<|ai eh rfl (fun w' au=>(tM w' (Mem.keeps au))) ?_;refine JK rfl rfl<|Jv rfl<|JK rfl rfl<|ab (AG (.of rfl) (.of rfl) y9) rfl ?_;refine ab (cI (.of rfl) (.of rfl) (.of rfl) rfl) rfl ?_;refine Jv rfl<|je rfl rfl rfl rfl ?_;refine aF rfl rfl inferInstance (fun hg bj=>(ao (.of rfl) ae)) rfl ?_;refine aF rfl rfl inferInstance (fun hg bj=>(ag (.bE bj rfl) (At.lit .here rfl))) rfl ?_;refine ew rfl rfl rfl rfl ?_;refine aF rfl rfl inferInstance (fun hg bj=>(eU (.bE bj rfl))) rfl ?_;refine ab (cI (.of rfl) (.of rfl) (.of rfl) rfl) rfl ?_;refine Jn<|bL (.of rfl) ?_;refine Jw<|Jj<|Jt<|Jg<|JB rfl (by omega)<|Jv rfl<|Jn ?_)
    apply aK (k+1,ov) (show k+1≤r.ti.length by omega) (show r.ti.length-(k+1)<r.ti.length-k by omega)
    case hs1=>exact cd
    case ht=>
     rw [SR]
     exact .cons (.there .here) (.cons (.there .here) .nil)
 ·obtain rfl:k=r.ti.length:=by omega
  refine Jr<|JA rfl<|Jn<|Jq<|Jc rfl fun ar=>Jp<|Jl<|Jo<|Jt<|Jr<|Jv rfl<|Ja rfl<|Jn<|Je ?_
  first | with_reducible apply aM | with_reducible apply aN
  case he=>exact dp rfl rfl
  case hR=>
   intro w' au
   exact aB ov trivial (by exact .cons .here .nil) au rfl
end Go.Proofs.A1
namespace Go.Proofs.A1
open Go Go.SL Go.Shelf Go.RowKit
def qv (l:List Int):List Int:=l.mergeSort fun x y=>decide (x≤y)
theorem qu (l:List Int):(qv l).length=l.length:=List.length_mergeSort _
theorem GN (l:List Int):List.Perm (qv l) l:=List.mergeSort_perm _ _
theorem Lf (l:List Int):(qv l).Pairwise (·≤·):=by
 have:=List.pairwise_mergeSort (le:=fun x y:Int=>decide (x≤y)) (fun a b c h1 h2=>by simp at *;omega) (fun a b=>by simp;omega) l
 exact this.imp fun h=>by simpa using h
theorem Hf {α:Type} [Inhabited α] {enc:α→Value} {w:World} {g n:Nat} {os:Array Obj} {cur:Array Value} {e:TypeId} {fr:Nat×Nat} (d:Array α) (hb:w.heap[g]? = some (.cells cur e fr)) :
  (Go.Sort.grow (Go.Sort.putRow enc (Go.Sort.ahead w n) g 0 d) os).heap[g]? = some (.cells (Go.Sort.putCells enc 0 d cur) e fr):=by
 have hg:g<w.heap.size:=(Array.getElem?_eq_some_iff.1 hb).1
 rw [Go.Sort.heap_grow_old _ _ (by simpa using hg)]
 simp [Go.Sort.putRow,Go.Sort.mapBlock,Go.Sort.ahead,Array.getElem?_modify,hb,Go.Sort.onCells]
theorem Fe {α:Type} [Inhabited α] {enc:α→Value} {w:World} {g n:Nat} {os:Array Obj} (d:Array α):aG [g] w (Go.Sort.grow (Go.Sort.putRow enc (Go.Sort.ahead w n) g 0 d) os):=by
 refine ⟨rfl,rfl,rfl,Nat.le_add_right _ _,by simp,fun k hk hne=>?_⟩
 rw [Go.Sort.heap_grow_old _ _ (by simpa using hk)]
 have:g≠k:=fun e=>hne (by rw [e];simp)
 simp [Go.Sort.putRow,Go.Sort.mapBlock,Go.Sort.ahead,Array.getElem?_modify,this]
theorem GJ {α:Type} [Inhabited α] {enc:α→Value} (cur:Array Value) (ts:List α) (h:ts.length≤cur.size):(Go.Sort.putCells enc 0 ts.toArray cur).toList.take ts.length=ts.map enc:=by
 apply List.ext_getElem?
 intro j
 by_cases hj:j<ts.length
 ·rw [List.getElem?_take_of_lt hj,Array.getElem?_toList]
  simp [Go.Sort.putCells,hj,show j<cur.size by omega]
 ·rw [List.getElem?_take_eq_none (by omega),List.getElem?_eq_none (by simp;omega)]
theorem CU {w:World} {g:Nat} {cur:Array Value} {e:TypeId} {l:List Int} (hb:w.heap[g]? = some (.cells cur e (0,0))) (ht:cur.toList.take l.length=l.map (Value.int .i64)):Go.Sort.Holds (Value.int .i64) w g 0 l.toArray:=by
 intro j hj
 have lQ:j<l.length:=by simpa using hj
 refine ⟨?_,by simp [World.frozen?,hb]⟩
 have h1:(cur.toList.take l.length)[j]? = (l.map (Value.int .i64))[j]?:=by rw [ht]
 rw [List.getElem?_take_of_lt lQ] at h1
 simp only [World.cell?,hb,Nat.zero_add]
 simp only [Option.isSome_none,Bool.false_eq_true,if_false]
 rw [Array.getElem?_toList] at h1
 rw [h1]
 simp [lQ]
theorem Pa {v:Value} {l:List Int} {n:Nat} {w:World} {fp:List Nat} (hn:n=l.length) (hl:n≤1000000) (hs:bY (hp w) [row 3 1 v n (l.map (Value.int .i64))] fp) :
  bd Tryz.prog 156 [v] w fp (fun _:Unit=>True) (fun _=>.tuple #[]) (fun _=>[row 3 1 v n ((qv l).map (Value.int .i64))]):=by
 obtain ⟨f1,f2,rfl,h1,h2⟩:=hs
 obtain rfl:f2=[]:=h2
 obtain ⟨rfl,hlen,h1⟩:=h1
 rw [List.append_nil]
 rcases h1 with ⟨rfl,h0⟩ | ⟨g,cap,cur,rfl,hg,jJ,jq,oe,zg⟩
 ·have me:l=[]:=List.eq_nil_of_length_eq_zero (by omega)
  refine (Any.slices_Sort_int_none Tryz.D8 none 0 w).mono fun e w' ⟨he,hw⟩=>?_
  subst hw
  refine ⟨(),he,trivial,.refl _ _,[],List.nodup_nil,⟨[],[],rfl,⟨rfl,?_,.inl ⟨rfl,h0⟩⟩,rfl⟩,by simp⟩
  rw [Zd,qu];omega
 ·rw [Nat.mul_one] at oe zg
  have Qt:g<w.heap.size:=(Array.getElem?_eq_some_iff.1 hg).1
  subst hn
  refine (Tryz.slices_Sort_int g 0 cap l w (CU hg zg) Qt (by omega)).mono fun e w' ⟨he,m,os,hw⟩=>?_
  subst hw
  refine ⟨(),he,trivial,Fe _,[g],by simp,⟨[g],[],rfl,⟨rfl,?_,.inr ⟨g,cap,_,rfl,Hf _ hg,jJ,jq,?_,?_⟩⟩,rfl⟩,by simp [Value.ownBlock]⟩
  ·rw [Zd,qu];omega
  ·simp [Go.Sort.putCells,oe]
  ·rw [Nat.mul_one]
   have:=GJ (enc:=Value.int .i64) cur (qv l) (by rw [qu];omega)
   rw [qu] at this
   exact this
def rZ (r:Ro) (v:Int) (so de:ByteArray):Int:=if jn r v so de≠0 then jn r v so de else if AJ r v so (j6 r de) then 24 else 0
def mT (r:Ro) (v:Int) (so de:ByteArray):List Int:=if jn r v so de≠0 then [] else if AJ r v so (j6 r de) then [] else pU r v so
theorem Se {L:List Int} {i:Nat} (h:i<L.length) (cur:List Value):(L.map (Value.int .i64)++cur)[i*1]? = some (.int .i64 L[i]):=by
 rw [Nat.mul_one,List.getElem?_append_left (by rw [Zd];exact h),List.getElem?_map,Zc h];rfl
structure vC (r:Ro) (v:Int) (so:ByteArray) (L:List Int) (m:Int) (L':List Int) (k:Nat):Prop where
 pre:L <+: L'
 nd:L'.Nodup
 rc:∀ x∈L',(fj r r.po v so).Rc x
 dn:∀ j,j<k→∀ t,(fo r v m r.ti.length)[j]? = some t→(fJ r t).to∈L'
theorem vC.C3 {r:Ro} (dB:oF r) {v:Int} {so:ByteArray} (hs:so∈cm r) {L L':List Int} {m:Int} {k:Nat} (h:vC r v so L m L' k):L'.length≤4:=by
 have hl:=dB.lim
 refine Eb h.nd fun x hx=>?_
 have:=uC dB hs (h.rc x hx)
 omega
theorem vC.stay {r:Ro} {v:Int} {so:ByteArray} {L L':List Int} {m:Int} {k t:Nat} (h:vC r v so L m L' k) (ht:(fo r v m r.ti.length)[k]? = some t) (hc:(fJ r t).to∈L'):vC r v so L m L' (k+1):=by
 refine ⟨h.pre,h.nd,h.rc,fun j hj t' Ft=>?_⟩
 by_cases e:j=k
 ·subst e
  rw [ht] at Ft
  cases Ft
  exact hc
 ·exact h.dn j (by omega) t' Ft
theorem vC.add {r:Ro} {v:Int} {so:ByteArray} {L L':List Int} {m:Int} {k t:Nat} (h:vC r v so L m L' k) (hm:m∈L) (ht:(fo r v m r.ti.length)[k]? = some t) (hc:¬ (fJ r t).to∈L'):vC r v so L m (L'++[(fJ r t).to]) (k+1):=by
 have jo:=List.mem_of_getElem? ht
 unfold fo at jo
 rw [List.mem_filter,List.mem_range,pO v so,Bool.and_eq_true,decide_eq_true_eq] at jo
 have VZ:(fj r r.po v so).Rc (fJ r t).to:=Wn.Rc.fe (N:=fj r r.po v so) jo.1 jo.2.2 (by rw [jo.2.1];exact h.rc m (h.pre.subset hm))
 have h2:vC r v so L m (L'++[(fJ r t).to]) k:=by
  refine ⟨h.pre.trans (List.prefix_append _ _),?_,fun x hx=>?_,fun j hj t' Ft=>List.mem_append_left _ (h.dn j hj t' Ft)⟩
  ·rw [List.nodup_append]
   refine ⟨h.nd,by simp,fun a ha b hb e=>?_⟩
   rw [List.mem_singleton] at hb
   subst hb;subst e
   exact hc ha
  ·rcases List.mem_append.1 hx with hx | hx
   ·exact h.rc x hx
   ·rw [List.mem_singleton.1 hx];exact VZ
 exact h2.stay ht (by simp)
theorem vD.next {r:Ro} {v:Int} {so:ByteArray} {L L':List Int} {m:Int} {i:Nat} (h:vD r v so L i) (hi:L[i]? = some m) (hJ:vC r v so L m L' (fo r v m r.ti.length).length):vD r v so L' (i+1)∧i+1≤L'.length:=by
 have iP:=(List.getElem?_eq_some_iff.1 hi).1
 have zL:=hJ.pre.length_le
 refine ⟨⟨hJ.nd,hJ.rc,fun x hx=>hJ.pre.subset (h.rt x hx),fun j x hj hx t ht hf=>?_⟩,by omega⟩
 have PX:L[j]? = some x:=by
  rw [← hx]
  obtain ⟨q,rfl⟩:=hJ.pre
  rw [List.getElem?_append_left (by omega)]
 by_cases e:j=i
 ·subst e
  rw [hi] at PX
  cases PX
  have hm:t∈fo r v m r.ti.length:=by unfold fo;exact List.mem_filter.2 ⟨List.mem_range.2 ht,hf⟩
  obtain ⟨q,hq,e⟩:=List.getElem_of_mem hm
  exact hJ.dn q hq t (by rw [Zc hq,e])
 ·exact hJ.pre.subset (h.dn j x (by omega) PX t ht hf)
set_option maxHeartbeats 2000000 in
theorem Uu {r:Ro} {s d t p:Value} (v:Int) (so de:ByteArray) {w:World} (h:RR w r s d t p) (cG:mY r):bd Tryz.prog 36 [RA r s d t p,.int .i64 v,.string so,.string de] w [] (fun _:Value=>True) (fun x=>.tuple #[x,.int .i64 (rZ r v so de)]) (fun x=>[row 3 1 x (mT r v so de).length ((mT r v so de).map (Value.int .i64))]):=by
 have h1:=Rd.one h.sr
 have h2:=Rd.one h.de
 have h3:=Rd.one h.ti
 have h4:=Rd.one h.po
 have lT:=h.de
 obtain ⟨a3,r5,b3,o3,rfl,lC,fD,qY,oe⟩:=lT
 rw [bU] at *
 unfold maxLen at fD
 unfold RA
 refine aQ Tryz.func36 rfl rfl ?_
 (refine Jr<|Jy rfl rfl fun _ _=>Ja rfl<|Ja rfl<|Jn<|Jq<|Jr<|ab (cz .here) rfl ?_;refine Jv rfl<|Jv rfl<|Jv rfl ?_)
 rename_i b4 u9
 refine ai pb rfl (fun w' au=>pV (s:=s) (d:=.slice a3 r.de.length r5) (t:=t) (p:=p) v so de (h.keeps au.keeps) cG) ?_
 (refine Ja rfl<|Ji<|Jv rfl<|JD rfl<|Jn<|gm rfl (fun ar=>?_) fun ar=>?_;refine Jr<|Jv rfl<|Ja rfl<|Ja rfl<|Jn<|Ju ?_;rotate_left;refine Jk<|Jr<|ab (cz .here) rfl ?_;refine Jv rfl<|Jv rfl ?_;rotate_right)
 ·have e1:mT r v so de=[]:=if_pos ar
  have e2:rZ r v so de=jn r v so de:=if_pos ar
  rw [e1,e2]
  refine aP 3 1 ?_
  first | with_reducible apply aM | with_reducible apply aN
  case he=>exact fF rfl rfl rfl
  case hR=>
   intro w' au
   exact aB (.slice none 0 0) trivial (by exact .cons .here .nil) au rfl
 have e0:jn r v so de=0:=Decidable.not_not.1 ar
 obtain ⟨dB,hv,rN,fw⟩:=tl e0
 have e1:mT r v so de=if AJ r v so (j6 r de) then [] else pU r v so:=if_neg ar
 have e2:rZ r v so de=if AJ r v so (j6 r de) then 24 else 0:=if_neg ar
 clear ar
 have ht6:=dB.len.2.2
 obtain ⟨j0,sX⟩:∃ i:Nat,bu (ct r) de=(i:Nat):=⟨(bu (ct r) de).toNat,by have:=dz fw;omega⟩
 have Bd:j0<r.de.length:=by
  obtain ⟨hl,_⟩:=er (l:=ct r) (s:=de) (by omega)
  rw [sX,Int.toNat_natCast] at hl
  unfold ct at hl;rwa [Zd] at hl
 have Tv:j6 r de=(r.de[j0]).mx:=by unfold j6;rw [sX,Int.toNat_natCast,List.getD_eq_getElem?_getD,Zc Bd];rfl
 have qX:∀ w',aG [] w w'→aj Tryz.prog 155 [.agg #[.int .i64 r.lv,.int .i64 r.ma,s,.slice a3 r.de.length r5,t,p],.string de] w' (.int .i64 (j0:Nat)):=fun w' hk=>sX ▸ fG de (h.keeps hk)
 have FF:=qY (gl Bd)
 have n9:=(oe j0 _ (eX Bd)).2
 unfold De.cells at n9
 have zf:=n9 1 _ rfl
 rw [e1,e2]
 refine JN eh rfl (fun w1 aS=>DO (s:=s) (d:=.slice a3 r.de.length r5) (t:=t) (p:=p) v so (h.keeps aS.keeps) (by omega) rN) ?_
 intro rv _
 dsimp only [id_eq,Zb,Za]
 refine aY (by exact .here) fun ra Zq e=>?_
 subst e
 have hC:=vD.begin (v:=v) dB rN
 generalize fK r v so r.ti.length=L0 at hC ⊢
 (refine Jz rfl rfl fun _ _=>aq (.of rfl) (.of rfl) .here rfl rfl (ed rfl) (bC rfl) an ?_;refine Jn<|Jq<|Jr<|Ja rfl<|Jn<|J0 ?_)
 rename_i OH Xa
 refine Dy (ι:=Nat×Value×List Int) (fun x=>vD r v so x.2.2 x.1∧x.1≤x.2.2.length) (fun x=>[(12,.int .i64 (x.1:Nat)),(11,.pointer (some ⟨OH,0,none⟩)),(4,.pointer (some ⟨b4,0,none⟩)),(1,.int .i64 v),(2,.string so),(3,.string de)])
  (fun x=>[bA OH (.cells #[x.2.1] 49 (0,0)),row 3 1 x.2.1 x.2.2.length (x.2.2.map (Value.int .i64)),JP b4 r s (.slice a3 r.de.length r5) t p]) (fun x=>4-x.1) ?_ ?_
 ·apply wH (0,.slice ra L0.length Zq,L0) ⟨hC,Zi _⟩
  case hs1=>exact cd
  case ht=>
   exact .cons .here (.cons .here (.cons .here .nil))
 rintro ⟨i,ov,L⟩ ⟨hC,hiL⟩ D
 dsimp only at hC hiL ⊢
 have h4L:=hC.C3 dB rN
 have FG:L.length=L.length:=rfl
 refine aY (by exact Take.there .here) fun oa oc e=>?_
 subst e
 by_cases aL:i<L.length
 ·refine Jq<|Jr<|Jv rfl<|JL rfl .here rfl<|JI rfl<|JA rfl<|Jn<|Jd rfl fun ar=>Jk<|Jq<|J0<|Jq ?_
  refine c7 (by exact Take.there .here) (by omega) fun g gL cur e od Fy CS Bc=>?_
  cases e
  have c1:=Se aL cur
  with_reducible refine dP 6 (by kernel_rfl) ?_
  (refine aH (cz bN) rfl ?_;refine k7 rfl rfl ?_;refine aH (gz (.there .here)) rfl ?_;refine k7 rfl rfl ?_;refine aH (az (.of rfl) (.of rfl) rfl (by omega) ar ba) rfl ?_;refine aH (ag (.of rfl) (At.kz .here c1)) rfl ?_)
  with_reducible refine dY ?_
  refine c6 (by exact .here) od Fy CS Bc ?_
  with_reducible apply jg
  case hr=>exact eh
  case hd=>rfl
  case ht=>exact bo.nil
  case hc=>
   intro w1 fp aS _ hs1
   obtain rfl:fp=[]:=hs1
   exact rL (s:=s) (d:=.slice a3 r.de.length r5) (t:=t) (p:=p) v L[i] (h.keeps aS.keeps)
  intro y _
  dsimp only [id_eq,Zb,Za]
  refine Jn<|J0 ?_
  have Bf:L[i]? = some L[i]:=Zc aL
  have jo:L[i]∈L:=Zj aL
  generalize L[i]=m at Bf jo ⊢
  refine iY (ps:=[40,41]) (f:=240) (first:=[]) (cap:=[.pointer (some ⟨y.1,0,none⟩),.pointer (some ⟨y.2.1,0,none⟩),.pointer (some ⟨y.2.2,0,none⟩)]) (ι:=Value×List Int) (κ:=Empty)
   (rst:=[JP b4 r s (.slice a3 r.de.length r5) t p]) ?hg
   [JP y.1 r s (.slice a3 r.de.length r5) t p,bA y.2.1 (.cells #[.int .i64 m] 3 (0,0)),bA y.2.2 (.cells #[.int .i64 v] 3 (0,0))] (Ky r v m) ?hit
   (fun k x=>vC r v so L m x.2 k)
   (fun x=>[bA OH (.cells #[x.1] 49 (0,0)),row 3 1 x.1 x.2.length (x.2.map (Value.int .i64))])
   (fun _=>False) (fun _=>[]) (fun _=>.ret) (.slice (some ⟨g,0,none⟩) L.length oc,L) ⟨List.prefix_rfl,hC.nd,hC.rc,fun j hj=>absurd hj (Nat.not_lt_zero _)⟩ ?ht ?hlen ?hps ?round ?kn ?kj
  case hg=>exact Is.of rfl
  case hit=>intro w' au;exact HF v m h RO.nil (by omega)
  case ht=>
   dsimp only [Zb,Za]
   exact .cons eR (.cons cX (.cons .here (.cons .here (.cons .here .nil))))
  case hlen=>intro vs nY;obtain ⟨x,_,rfl⟩:=List.mem_map.1 nY;rfl
  case hps=>intro t ht;simp only [List.mem_cons,List.not_mem_nil,or_false] at ht;rcases ht with rfl | rfl <;> exact Nat.le_of_ble_eq_true rfl
  case kj=>intro y;cases y
  case kn=>
   rintro ⟨Rq,L2⟩ D2 hJ
   dsimp only [Zb,Za] at hJ ⊢
   rw [tI] at hJ
   obtain ⟨hC2,Wp⟩:=hC.next Bf hJ
   refine Jj<|Jj<|Jt<|Jg<|Jv rfl<|JB rfl (by omega)<|Ja rfl<|Jn ?_
   apply z7 (i+1,Rq,L2) ⟨hC2,Wp⟩ (show 4-(i+1)<4-i by omega)
   case hs1=>exact cd
   case ht=>
    exact .cons .here (.cons .here (.cons cX .nil))
  case round=>
   rintro l2 rc W2 TV k ⟨Rq,L2⟩ vs hsz hk hJ hB hF
   dsimp only at hJ
   obtain ⟨NF,SM,rfl,iP,UT⟩:=CJ hk
   have Yf:=hJ.C3 dB rN
   have FG:L2.length=L2.length:=rfl
   have N6:(L2.map (Value.int .i64)).length=L2.length*1:=by rw [Zd,Nat.mul_one]
   have Iv:∀ (w':World) (Rq:Value),Rd w' Rq 1 (ints L2)→aj Tryz.prog 154 [Rq,.int .i64 (fJ r NF).to] w' (.bool (L2.contains (fJ r NF).to)):=fun w' Rq hr=>kY _ hr
   dsimp only [Ti.cells,List.zip_cons_cons,List.zip_nil_right,lN,Zb,Za]
   (refine Jg<|Jz rfl rfl fun _ _=>aq (.of rfl) (.of rfl) .here rfl rfl (fh rfl rfl rfl) (bC rfl) an ?_;refine Jn ?_)
   with_reducible apply lX
   case ht=>exact Take.there .here
   refine aY (E:=3) (sz:=1) cX fun va vc e=>?_
   subst e
   (refine J0<|Jr<|JL rfl bN rfl<|bF rfl rfl ae ?_;refine JL rfl (.there .here) rfl ?_)
   cases FE:L2.contains (fJ r NF).to with
   | true =>
    have Mz:∀ (w':World),Rd w' (.slice va L2.length vc) 1 (ints L2)→aj Tryz.prog 154 [.slice va L2.length vc,.int .i64 (fJ r NF).to] w' (.bool true):=fun w' hr=>FE ▸ Iv w' _ hr
    (refine ai aZ rfl (fun w' au=>(Mz w' (gi au cX FG))) ?_;refine JH rfl<|Jn<|bL (.of rfl) ?_;refine Jw<|Jj ?_)
    apply lq (.slice va L2.length vc,L2)
    case ht=>exact .here
    case hx=>exact hJ.stay SM (List.contains_iff_mem.1 FE)
    case h2=>exact .cons (.there .here) (.cons (.there .here) .nil)
   | false =>
    have Mz:∀ (w':World),Rd w' (.slice va L2.length vc) 1 (ints L2)→aj Tryz.prog 154 [.slice va L2.length vc,.int .i64 (fJ r NF).to] w' (.bool false):=fun w' hr=>FE ▸ Iv w' _ hr
    (refine ai aZ rfl (fun w' au=>(Mz w' (gi au cX FG))) ?_;refine JH rfl<|Jn<|cB (.of rfl) ?_;refine Jg<|JL rfl bN rfl<|bF rfl rfl ae ?_;refine JL rfl (.there .here) rfl<|bb (aA (.cons (.of rfl) .nil) rfl rfl rfl rfl) rfl fun _ _=>?_)
    refine bB (.of rfl) (.of rfl) eR .here an (by rfl) (ed rfl) (by rfl) (by rfl) (by rfl) eH (by rfl) ?_
    intro v'
    refine aY (by exact .here) fun a' cU e=>?_
    subst e
    (refine aq (.of rfl) (.of rfl) eR rfl rfl (ed rfl) (bC rfl) an ?_;refine Jx<|Jj ?_)
    apply lq (.slice a' (L2.length+1) cU,L2++[(fJ r NF).to])
    case ht=>exact cX
    case hx=>exact hJ.add jo SM (fun hm=>by rw [List.contains_iff_mem.2 hm] at FE;cases FE)
    case h2=>
     show bo _ [bA OH (.cells #[.slice a' (L2.length+1) cU] 49 (0,0)),row 3 1 (.slice a' (L2.length+1) cU) (L2++[(fJ r NF).to]).length ((L2++[(fJ r NF).to]).map (Value.int .i64))] _
     rw [Zg,List.map_append]
     exact .cons .here (.cons .here .nil)
 ·obtain rfl:i=L.length:=by omega
  have nZ:=hC.done dB rN
  have hcb:L.contains (j6 r de)=AJ r v so (j6 r de):=by rw [Bool.eq_iff_iff,List.contains_iff_mem,nZ,Cw]
  have Mz:∀ (w':World),Rd w' (.slice oa L.length oc) 1 (ints L)→aj Tryz.prog 154 [.slice oa L.length oc,.int .i64 (r.de[j0]).mx] w' (.bool (AJ r v so (j6 r de))):=fun w' hr=>by
   rw [← hcb,Tv];exact kY _ hr
  refine Jq<|Jr<|Jv rfl<|JL rfl .here rfl<|JI rfl<|JA rfl<|Jn<|Jc rfl fun ar=>Jp<|Jl<|Jo<|Jt<|Jq<|Jq ?_
  with_reducible refine dP 10 (by kernel_rfl) ?_
  (refine aH (gz .here) rfl ?_;refine nC rfl rfl ae ?_;refine aH (gz bN) rfl ?_;refine aH (cz bN) rfl ?_;refine k7 rfl rfl ?_;refine fc aZ rfl (fun w' au=>(qX w' (Mem.keeps au))) ?_;refine aH (az (.of rfl) (.of rfl) FF (by omega) (by omega) ba) rfl ?_;refine nC rfl rfl ae ?_;refine aH (ag (.of rfl) (At.base zf rfl)) rfl ?_;refine fc aZ rfl (fun w' au=>(Mz w' (gi au (.there .here) FG))) ?_)
  with_reducible refine dY ?_
  cases hrb:AJ r v so (j6 r de) with
  | true =>
   (refine Jn<|cB (.of rfl) ?_;refine Jr<|Ja rfl<|Ja rfl<|Jn<|Ju ?_)
   refine aP 3 1 ?_
   first | with_reducible apply aM | with_reducible apply aN
   case he=>exact fF rfl rfl rfl
   case hR=>
    intro w' au
    exact aB (.slice none 0 0) trivial (by exact .cons .here .nil) au rfl
  | false =>
   (refine Jn<|bL (.of rfl) ?_;refine Jk<|Jr<|JL rfl .here rfl ?_)
   with_reducible apply fI (As:=[row 3 1 (.slice oa L.length oc) L.length (L.map (Value.int .i64))])
   case hr=>exact bI
   case hd=>rfl
   case ht=>exact sS
   case hc=>
    intro w1 zS aS uY hs1 B2 _
    exact Pa rfl (by omega) hs1
   intro _ _
   have Mo:qv L=pU r v so:=IU dB rN hC.nd nZ (GN L) (Lf L)
   have UO:(pU r v so).length=L.length:=by rw [← Mo,qu]
   rw [Mo]
   dsimp only [id_eq,Zb,Za]
   refine Ji<|JL rfl (.there .here) rfl<|Ja rfl<|Ja rfl<|Jn<|Je ?_
   first | with_reducible apply aM | with_reducible apply aN
   case he=>exact fF rfl rfl rfl
   case hR=>
    intro w' au
    exact aB (.slice oa L.length oc) trivial (show bo _ [row 3 1 (.slice oa L.length oc) (pU r v so).length ((pU r v so).map (Value.int .i64))] _ by rw [UO];exact .cons .here .nil) au rfl
end Go.Proofs.A1
namespace Go.Proofs.A1
open Go Go.SL
theorem HX {lv:Value} {l:List Int} {p:Int→Bool} {f:FuncId} {first cap:List Value} [bS Tryz.prog f] {w:World} (h:Rd w lv 1 (ints l)) (cn:∀ x∈l,∀ w',aG [] w w'→aj Tryz.prog f (first++[.int .i64 x]++cap) w' (.bool (p x))) :
  aj Tryz.prog 247 [lv,.func (.func f) first.toArray cap.toArray] w (.int .i64 (gK p l)):=by
 obtain ⟨a,cp,b,o,rfl,db,bT,ha,hc⟩:=h
 rw [bW] at *
 unfold maxLen at bT
 refine ah Tryz.func247 rfl rfl ?_
 refine Jr<|Ja rfl<|Jn<|Jq<|Jr<|Jv rfl<|JI rfl<|Jv rfl<|Jn<|J0 ?_
 refine aX (fun k:Nat=>k≤l.length∧∀ i,i<k→(l[i]?.map p).getD false=false) (fun k=>[(8,.int .i64 k),(7,.int .i64 l.length),(0,.slice a l.length cp),(1,.func (.func f) first.toArray cap.toArray)]) (fun _=>[]) (fun k=>l.length-k) ?_ ?_
 ·apply aJ 0 ⟨Zi _,fun i h=>by omega⟩
  case hs1=>exact cd
  case ht=>(try simp only [Ze,Zf,Za]);exact .nil
 rintro k ⟨hk,hf⟩
 by_cases aL:k<l.length
 ·have cE:=ha (ic aL)
  have c0:w.cell? ⟨b,o+k*1,none⟩=some (.int .i64 l[k]):=(hc k _ (fC aL)).2 0 _ rfl
  have iF:=cn _ (Zj aL)
  have hps:(l[k]?.map p).getD false=p l[k]:=by simp [aL]
  (refine Jr<|JA rfl<|Jn<|Jq<|Jd rfl fun ar=>Jk<|Jq<|J0<|Jr<|Jv rfl<|Ja rfl<|Ji<|Jv rfl<|Jv rfl<|Jv rfl<|ab (fH cE ar) rfl ?_;refine ab (ag (.of rfl) (At.base c0 rfl)) rfl ?_;refine ai bI rfl (fun w' au=>(iF w' (Mem.keeps au))) ?_;refine Jn<|nB rfl (fun ar=>?_) fun ar=>?_;refine Jr<|Jv rfl<|Ja rfl<|Jn<|Je<|Jm<|Jh<|Jh<|Jm<|Jh<|JT ?_;rotate_left;refine Jw<|Jj<|Jt<|Jg<|JB rfl (by omega)<|Jv rfl<|Jn ?_;rotate_right)
  ·rw [gj hf aL ar]
  ·apply aK (k+1) ⟨by omega,fun i hi=>by
    by_cases e:i=k
    ·rw [e,hps];exact ar
    ·exact hf i (by omega)⟩ (by omega)
   case hs1=>exact cd
   case ht=>(try simp only [Ze,Zf,Za]);exact .nil
 ·obtain rfl:k=l.length:=by omega
  refine Jr<|JA rfl<|Jn<|Jq<|Jc rfl fun ar=>Jp<|Jl<|Jo<|Jt<|Jr<|Ja rfl<|Jn<|Je<|JT ?_
  rw [fx hf]
theorem vb {lv:Value} {l:List Int} {p:Int→Bool} {f:FuncId} {first cap:List Value} [bS Tryz.prog f] {w:World} (h:Rd w lv 1 (ints l)) (cn:∀ x∈l,∀ w',aG [] w w'→aj Tryz.prog f (first++[.int .i64 x]++cap) w' (.bool (p x))) :
  aj Tryz.prog 161 [lv,.func (.func f) first.toArray cap.toArray] w (.bool (l.any p)):=by
 have iF:∀ w',aG [] w w'→aj Tryz.prog 247 [lv,.func (.func f) first.toArray cap.toArray] w' (.int .i64 (gK p l)):=fun w' hk=>
  HX (h.keeps hk) fun x hx w2 eC=>cn x hx w2 (hk.trans eC)
 rw [← jP]
 refine ah Tryz.func161 rfl rfl ?_
 (refine Jr<|Ja rfl<|Ji<|Jv rfl<|Jv rfl<|ai aZ rfl (fun w' au=>(iF w' (Mem.keeps au))) ?_;refine JG rfl<|Ja rfl<|Jn<|Je<|JT ?_)
 rfl
theorem vk {cv:Value} {L:List Int} (x:Int) {b:Nat} {w:World} (h:Rd w cv 1 (ints L)) (f1:w.cell? ⟨b,0,none⟩=some cv) :
  aj Tryz.prog 157 [.int .i64 x,.pointer (some ⟨b,0,none⟩)] w (.bool (L.contains x)):=by
 have h1:=Rd.one h
 refine ah Tryz.func157 rfl rfl ?_
 (refine Jr<|Ja rfl<|Ji<|ab (ag (.of rfl) (At.base f1 rfl)) rfl ?_;refine Jv rfl ?_)
 refine ai aZ rfl (fun w' au=>kY x (h.keeps au.keeps)) ?_
 refine Ja rfl<|Jn<|Je<|JT ?_
 rfl
theorem vj {cv:Value} {L:List Int} (x:Int) {b b2:Nat} {w:World} (h:Rd w cv 1 (ints L)) (f1:w.cell? ⟨b,0,none⟩=some cv) (f2:w.cell? ⟨b2,0,none⟩=some (.func (.func 157) #[] #[.pointer (some ⟨b,0,none⟩)])) :
  aj Tryz.prog 158 [.int .i64 x,.pointer (some ⟨b2,0,none⟩)] w (.bool (!L.contains x)):=by
 refine ah Tryz.func158 rfl rfl ?_
 (refine Jr<|Ja rfl<|Ji<|ab (ag (.of rfl) (At.base f2 rfl)) rfl ?_;refine Jv rfl ?_)
 refine ai bI rfl (fun w' au=>vk x (h.keeps au.keeps) (dM f1 rfl (by simp) au.keeps)) ?_
 refine JH rfl<|Ja rfl<|Jn<|Je<|JT ?_
 rfl
def pn (r:Ro) (v:Int) (L:List Int) (x:Ti):Bool:=L.contains x.fr&&!L.contains x.to&&!fV r.po v x.nm
theorem QX {r:Ro} {s d t p:Value} (v:Int) {cv:Value} {L:List Int} (x:Ti) {b b2 b3 b5 b6:Nat} {w:World} (hr:RR w r s d t p) (h:Rd w cv 1 (ints L)) (f1:w.cell? ⟨b,0,none⟩=some cv) (f2:w.cell? ⟨b2,0,none⟩=some (.func (.func 157) #[] #[.pointer (some ⟨b,0,none⟩)]))
  (f3:w.cell? ⟨b3,0,none⟩=some (.func (.func 158) #[] #[.pointer (some ⟨b2,0,none⟩)])) (hA:BR w b5 (RC r s d t p)) (f6:w.cell? ⟨b6,0,none⟩=some (.int .i64 v)) :
  aj Tryz.prog 160 [.agg x.cells.toArray,.pointer (some ⟨b2,0,none⟩),.pointer (some ⟨b3,0,none⟩),.pointer (some ⟨b5,0,none⟩),.pointer (some ⟨b6,0,none⟩)] w (.bool (pn r v L x)):=by
 have h1:=Rd.one hr.sr
 have h2:=Rd.one hr.de
 have h3:=Rd.one hr.ti
 have h4:=Rd.one hr.po
 have jR:∀ (j:Nat) (u:Value),[Value.int .i64 r.lv,.int .i64 r.ma,s,d,t,p][j]? = some u→w.cell? ⟨b5,0+j,none⟩=some u:=hA
 unfold Ti.cells
 refine ah Tryz.func160 rfl rfl ?_
 (refine Jr<|Jy rfl rfl fun _ _=>Ja rfl<|Ji<|ab (ag (.of rfl) (At.base f2 rfl)) rfl ?_;refine bF rfl rfl ae ?_;refine JL rfl .here rfl ?_)
 cases jJ:L.contains x.fr with
 | false =>
  have hB:pn r v L x=false:=by unfold pn;rw [jJ];rfl
  rw [hB]
  refine ai bI rfl (fun w' au=>jJ ▸ vk x.fr (h.keeps au.keeps) (dM f1 rfl (by simp) au.keeps)) ?_
  (refine Jv rfl<|aF rfl rfl inferInstance (fun hg bj=>(ag (.of rfl) (At.base f3 rfl))) rfl ?_;refine aF rfl rfl inferInstance (fun hg bj=>(ao (.of rfl) ae)) rfl ?_;refine aF rfl rfl inferInstance (fun hg bj=>(ag (.bE bj rfl) (At.lit .here rfl))) rfl ?_;refine ew rfl rfl rfl rfl ?_;refine ab (cI (.of rfl) (.of rfl) (.of rfl) rfl) rfl ?_;refine Jv rfl<|aF rfl rfl inferInstance (fun hg bj=>(jh (.of rfl) (eF.base jR rfl) rfl)) rfl ?_;refine aF rfl rfl inferInstance (fun hg bj=>(ag (.of rfl) (At.base f6 rfl))) rfl ?_;refine aF rfl rfl inferInstance (fun hg bj=>(ao (.of rfl) ae)) rfl ?_;refine aF rfl rfl inferInstance (fun hg bj=>(ag (.bE bj rfl) (At.lit .here rfl))) rfl ?_;refine ew rfl rfl rfl rfl ?_;refine aF rfl rfl inferInstance (fun hg bj=>(eU (.bE bj rfl))) rfl ?_;refine ab (cI (.of rfl) (.of rfl) (.of rfl) rfl) rfl ?_;refine Ja rfl<|Jn<|Je<|JT ?_)
  rfl
 | true =>
  have hB:pn r v L x=(!L.contains x.to&&!fV r.po v x.nm):=by unfold pn;rw [jJ];rfl
  rw [hB]
  refine ai bI rfl (fun w' au=>jJ ▸ vk x.fr (h.keeps au.keeps) (dM f1 rfl (by simp) au.keeps)) ?_
  (refine Jv rfl<|JK rfl rfl<|ab (ag (.of rfl) (At.base f3 rfl)) rfl ?_;refine JK rfl rfl<|bF rfl rfl ae ?_;refine JK rfl rfl<|JL rfl .here rfl<|JK rfl rfl ?_)
  cases jq:L.contains x.to with
  | true =>
   with_reducible apply ai
   case hr=>exact bI
   case hd=>rfl
   case hc=>
    intro w' au
    have q:=vj x.to (h.keeps au.keeps) (dM f1 rfl (by simp) au.keeps) (dM f2 rfl (by simp) au.keeps)
    rw [jq] at q
    exact q
   (refine ab (cI (.of rfl) (.of rfl) (.of rfl) rfl) rfl ?_;refine Jv rfl<|aF rfl rfl inferInstance (fun hg bj=>(jh (.of rfl) (eF.base jR rfl) rfl)) rfl ?_;refine aF rfl rfl inferInstance (fun hg bj=>(ag (.of rfl) (At.base f6 rfl))) rfl ?_;refine aF rfl rfl inferInstance (fun hg bj=>(ao (.of rfl) ae)) rfl ?_;refine aF rfl rfl inferInstance (fun hg bj=>(ag (.bE bj rfl) (At.lit .here rfl))) rfl ?_;refine ew rfl rfl rfl rfl ?_;refine aF rfl rfl inferInstance (fun hg bj=>(eU (.bE bj rfl))) rfl ?_;refine ab (cI (.of rfl) (.of rfl) (.of rfl) rfl) rfl ?_;refine Ja rfl<|Jn<|Je<|JT ?_)
   rfl
  | false =>
   with_reducible apply ai
   case hr=>exact bI
   case hd=>rfl
   case hc=>
    intro w' au
    have q:=vj x.to (h.keeps au.keeps) (dM f1 rfl (by simp) au.keeps) (dM f2 rfl (by simp) au.keeps)
    rw [jq] at q
    exact q
   (refine ab (eG (.of rfl) (.of rfl) (.of rfl) rfl) rfl ?_;refine Jv rfl<|JK rfl rfl<|ab (iv (eF.base jR rfl)) rfl ?_;refine JK rfl rfl<|ab (ag (.of rfl) (At.base f6 rfl)) rfl ?_;refine JK rfl rfl<|bF rfl rfl ae ?_;refine JK rfl rfl<|JL rfl .here rfl<|JK rfl rfl ?_)
   cases hb:fV r.po v x.nm with
   | true =>
    with_reducible apply ai
    case hr=>exact eh
    case hd=>rfl
    case hc=>
     intro w' au
     have q:=pY v x.nm (hr.keeps au.keeps)
     rw [hb] at q
     exact q
    (refine JK rfl rfl<|JH rfl<|ab (cI (.of rfl) (.of rfl) (.of rfl) rfl) rfl ?_;refine Ja rfl<|Jn<|Je<|JT ?_)
    rfl
   | false =>
    with_reducible apply ai
    case hr=>exact eh
    case hd=>rfl
    case hc=>
     intro w' au
     have q:=pY v x.nm (hr.keeps au.keeps)
     rw [hb] at q
     exact q
    (refine JK rfl rfl<|JH rfl<|ab (eG (.of rfl) (.of rfl) (.of rfl) rfl) rfl ?_;refine Ja rfl<|Jn<|Je<|JT ?_)
    rfl
theorem bG {α:Type} {l:List Oper} {i:Nat} {v:α}:pB l i (fun _=>v):=fun _ _ _=>rfl
def qO (L:List Int) (k:Nat):Int:=if k=0 then -1 else L.getD (k-1) 0
theorem CN {L:List Int} {k:Nat} (h:k<L.length):qO L (k+1)=L[k]:=by
 unfold qO;rw [if_neg (by omega),Nat.add_sub_cancel,List.getD_eq_getElem?_getD,Zc h];rfl
def M9 (r:Ro) (L:List Int) (k:Nat):Int:=(L[k]?.map fun x=>aW [ep r x,bO (decide (x≤qO L k)) 11]).getD 0
theorem I2 {r:Ro} {L:List Int} {k:Nat} (h:k<L.length):M9 r L k=aW [ep r L[k],bO (decide (L[k]≤qO L k)) 11]:=by
 unfold M9;rw [Zc h];rfl
def QZ (r:Ro) (v:Int) (so de:ByteArray) (L:List Int):Int:=aW [jn r v so de,bO (decide ((4:Int)<(L.length:Nat))) 5]
def QY (r:Ro) (L:List Int):Int:=iL (M9 r L) L.length
def M6 (r:Ro) (v:Int) (so de:ByteArray) (L:List Int):Bool:=r.ti.any (pn r v L)||(fK r v so r.ti.length).any (fun x=>!L.contains x)||L.contains (j6 r de)
def IW (r:Ro) (v:Int) (so de:ByteArray) (L:List Int):Int:=if QZ r v so de L≠0 then QZ r v so de L else if QY r L≠0 then QY r L else bO (M6 r v so de L) 19
set_option maxHeartbeats 2000000 in
theorem vE {r:Ro} {s d t p cv:Value} (v:Int) (so de:ByteArray) {L:List Int} {w:World} (h:RR w r s d t p) (cG:mY r) (hw:Rd w cv 1 (ints L)) :
  aj Tryz.prog 37 [RA r s d t p,.int .i64 v,.string so,.string de,cv] w (.int .i64 (IW r v so de L)):=by
 have h1:=Rd.one h.sr
 have h2:=Rd.one h.de
 have h3:=Rd.one h.ti
 have h4:=Rd.one h.po
 have BX:=hw
 obtain ⟨aw,cw,bw,ow,rfl,Of,A9,TD,It⟩:=hw
 rw [bW] at *
 unfold maxLen at A9
 have hcw:∀ w',aG [] w w'→aj Tryz.prog 151 [.agg #[.int .i64 r.lv,.int .i64 r.ma,s,d,t,p],.int .i64 v,.string so,.string de] w' (.int .i64 (jn r v so de)):=fun w' hk=>pV v so de (h.keeps hk) cG
 unfold RA
 refine ah Tryz.func37 rfl rfl ?_
 refine Jr<|Jy rfl rfl fun _ _=>Jy rfl rfl fun _ _=>Jy rfl rfl fun _ _=>Ja rfl<|Jn<|Jq<|Jq ?_
 with_reducible refine cC 10 (by kernel_rfl) ?_
 (refine ak (cz bN) rfl ?_;refine ak (gz (.there .here)) rfl ?_;refine ak kG rfl ?_;refine ak kG rfl ?_;refine aT pb rfl (fun w' au=>(hcw w' (Mem.keeps au))) ?_;refine ak (gz .here) rfl ?_;refine ak (bZ (.of rfl)) rfl ?_;refine ak (kM (.of rfl) (.of rfl)) rfl ?_;refine aT aZ rfl (fun w' au=>(dO _ 5 w')) ?_;refine dX (aA (.cons (.of rfl) (.cons (.of rfl) .nil)) rfl rfl rfl rfl) rfl rfl ?_)
 with_reducible refine df rfl fun bq mg=>?_
 (refine ai bI rfl (fun w' au=>(dI (Mem.dh au .here rfl rfl) (bP.cons (bP.cons bP.nil)))) ?_;refine Ja rfl<|Ji<|Jv rfl<|JD rfl<|Jn<|gm rfl (fun ar=>?_) fun ar=>?_;refine Jr<|Jv rfl<|Ja rfl<|Jn<|Ju<|JT ?_;rotate_left;refine Jk<|Jr<|Ja rfl<|Jn<|Jq<|Jr<|JL rfl (.there .here) rfl<|JI rfl<|Jv rfl<|Jn<|J0 ?_;rotate_right)
 ·have e1:IW r v so de L=QZ r v so de L:=if_pos ar
  rw [e1];rfl
 have MI:QZ r v so de L=0:=Decidable.not_not.1 ar
 have hX:IW r v so de L=if QY r L≠0 then QY r L else bO (M6 r v so de L) 19:=if_neg ar
 clear ar
 obtain ⟨dB,hv,rN,fw⟩:=tl (bX.1 MI _ List.mem_cons_self)
 have h6:L.length≤4:=by
  have:=(bH (by decide)).1 (bX.1 MI (bO (decide ((4:Int)<(L.length:Nat))) 5) (by simp))
  simp only [decide_eq_false_iff_not] at this
  omega
 have ht6:=dB.len.2.2
 rename_i b5 KF b6 hb6 b9 Yn
 refine aX (fun k:Nat=>k≤L.length∧∀ i,i<k→M9 r L i=0) (fun k=>[(35,.int .i64 (k:Nat)),(34,.int .i64 (L.length:Nat)),(33,.slice aw L.length cw),(12,.int .i64 (qO L k)),(9,.pointer (some ⟨b9,0,none⟩)),(6,.pointer (some ⟨b6,0,none⟩)),(5,.pointer (some ⟨b5,0,none⟩)),(2,.string so),(3,.string de)])
  (fun k=>[bA b9 (.cells #[.slice aw L.length cw] 49 (0,0)),bA b6 (.cells #[.int .i64 v] 3 (0,0)),JP b5 r s d t p]) (fun k=>L.length-k) ?_ ?_
 ·apply aJ 0 ⟨Zi _,fun i hi=>by omega⟩
  case hs1=>exact cd
  case ht=>(try simp only [Ze,Zf,Za]);exact .cons (.there .here) (.cons (.there .here) (.cons (.there .here) .nil))
 rintro k ⟨hk,hf⟩
 by_cases aL:k<L.length
 ·have Iw:=TD (ic aL)
  have c0:w.cell? ⟨bw,ow+k*1,none⟩=some (.int .i64 L[k]):=(It k _ (fC aL)).2 0 _ rfl
  have jb:=I2 (r:=r) aL
  have hhs:∀ w',aG [] w w'→aj Tryz.prog 136 [.agg #[.int .i64 r.lv,.int .i64 r.ma,s,d,t,p],.int .i64 L[k]] w' (.int .i64 (ep r L[k])):=fun w' hk=>Ei (s:=s) (d:=d) (t:=t) (p:=p) L[k] h
  (refine Jr<|JA rfl<|Jn<|Jq<|Jd rfl fun ar=>Jk<|Jq<|J0<|Jr<|ab (az (.of rfl) (.of rfl) Iw (by omega) ar ba) rfl ?_;refine ab (ag (.of rfl) (At.base c0 rfl)) rfl ?_;refine Ja rfl<|Jn<|Jq<|Jr<|ab (cz bN) rfl ?_;refine Jv rfl<|ai aZ rfl (fun w' au=>(hhs w' (Mem.keeps au))) ?_;refine Jv rfl<|Jv rfl<|JF rfl<|ai aZ rfl (fun w' au=>(dO _ 11 w')) ?_;refine bb (aA (.cons (.of rfl) (.cons (.of rfl) .nil)) rfl rfl rfl rfl) rfl fun _ _=>?_;refine ai bI rfl (fun w' au=>(dI (Mem.dh au .here rfl rfl) (bP.cons (bP.cons bP.nil)))) ?_;refine Ja rfl<|Ji<|Jv rfl<|JD rfl<|Jn<|gm rfl (fun ar=>?_) fun ar=>?_;refine Jr<|Jv rfl<|Ja rfl<|Jn<|Ju<|Jm<|Jh<|Jh<|Jm<|Jh<|JT ?_;rotate_left;refine Jk<|Jg<|Jv rfl<|Ja rfl<|Jx<|Jj<|Jt<|Jg<|JB rfl (by omega)<|Jv rfl<|Jn ?_;rotate_right)
  ·rw [← jb] at ar ⊢
   have hB:QY r L=M9 r L k:=eP hf aL ar
   rw [← hB] at ar ⊢
   rw [hX,if_pos ar]
  have hz:M9 r L k=0:=by rw [jb];exact Decidable.not_not.1 ar
  have sW:=CN aL
  apply aK (k+1) ⟨by omega,fun i hi=>by
   by_cases e:i=k
   ·rw [e];exact hz
   ·exact hf i (by omega)⟩ (by omega)
  case hs1=>rw [sW];exact .cons rfl (.cons rfl (.cons rfl (.cons rfl (.cons rfl (.cons rfl (.cons rfl (.cons rfl (.cons rfl .nil))))))))
  case ht=>exact sS
 ·obtain rfl:k=L.length:=by omega
  have TN:QY r L=0:=dN.2 hf
  rw [hX,if_neg (by rw [TN];decide)]
  (refine Jr<|JA rfl<|Jn<|Jq<|Jc rfl fun ar=>Jp<|Jl<|Jo<|Jt<|Jr<|ab (bn .nil (.cons (.of rfl) .nil)) rfl ?_;refine Jz rfl rfl fun _ _=>aq (.of rfl) (.of rfl) .here rfl rfl (ed rfl) (bC rfl) an ?_;refine Ji<|ab (bn .nil (.cons (.of rfl) .nil)) rfl ?_;refine Jz rfl rfl fun _ _=>aq (.of rfl) (.of rfl) .here rfl rfl (ed rfl) (bC rfl) an ?_;refine Ji<|bF rfl rfl ae ?_;refine JL rfl eR rfl<|ab (bn .nil (.cons (.of rfl) (.cons (.of rfl) (.cons (.of rfl) (.cons (.of rfl) .nil))))) rfl ?_)
  rename_i Ge ac0 YL acZ
  with_reducible apply ai
  case hr=>exact aZ
  case hd=>rfl
  case hc=>
   intro w' au
   have hR:=h.keeps au.keeps
   have f9:w'.cell? ⟨b9,0,none⟩=some (.slice aw L.length cw):=At.lit bN rfl w' au
   have f16:w'.cell? ⟨Ge,0,none⟩=some (.func (.func 157) #[] #[.pointer (some ⟨b9,0,none⟩)]):=At.lit (by exact Take.there .here) rfl w' au
   have f17:w'.cell? ⟨YL,0,none⟩=some (.func (.func 158) #[] #[.pointer (some ⟨Ge,0,none⟩)]):=At.lit (by exact .here) rfl w' au
   have f6:w'.cell? ⟨b6,0,none⟩=some (.int .i64 v):=At.lit cX rfl w' au
   have hA:BR w' b5 [.int .i64 r.lv,.int .i64 r.ma,s,d,t,p]:=BR.of au eR
   exact zi (f:=160) (p:=pn r v L) (first:=[]) (cap:=[.pointer (some ⟨Ge,0,none⟩),.pointer (some ⟨YL,0,none⟩),.pointer (some ⟨b5,0,none⟩),.pointer (some ⟨b6,0,none⟩)]) hR.ti (fun x hx w2 eC=>QX v x (hR.keeps eC) (BX.keeps (au.keeps.trans eC)) (ch f9 rfl eC) (ch f16 rfl eC) (ch f17 rfl eC) (hA.keeps eC) (ch f6 rfl eC))
  refine Ja rfl<|Jn<|Jq ?_
  cases vJ:r.ti.any (pn r v L) with
  | true =>
   have hC:M6 r v so de L=true:=by unfold M6;rw [vJ];rfl
   rw [hC]
   with_reducible refine eN 23 (by kernel_rfl) ?_
   (refine aD (fun β=>(aR (.of rfl))) dx rfl ?_;refine aD (fun β=>(aR (.of rfl))) dx rfl ?_;refine dD rfl (fun _=>rfl) (Or.inr rfl) rfl ?_;refine dD rfl (fun _=>rfl) (Or.inr rfl) rfl ?_;refine dD rfl (fun _=>rfl) (Or.inr rfl) rfl ?_;refine dD rfl (fun _=>rfl) (Or.inr rfl) rfl ?_;refine dD rfl (fun _=>rfl) (Or.inr rfl) rfl ?_;refine dD rfl (fun _=>rfl) (Or.inr rfl) rfl ?_;refine aD (fun β=>(eG (.of rfl) (.of rfl) (.of rfl) rfl)) dx rfl ?_;refine aD (fun β=>(aR (.of rfl))) dx rfl ?_;refine dD rfl (fun _=>rfl) (Or.inr rfl) rfl ?_;refine dD rfl (fun _=>rfl) (Or.inr rfl) rfl ?_;refine dD rfl (fun _=>rfl) (Or.inr rfl) rfl ?_;refine dD rfl (fun _=>rfl) (Or.inr rfl) rfl ?_;refine dD rfl (fun _=>rfl) (Or.inr rfl) rfl ?_;refine dD rfl (fun _=>rfl) (Or.inr rfl) rfl ?_;refine dD rfl (fun _=>rfl) (Or.inr rfl) rfl ?_;refine dD rfl (fun _=>rfl) (Or.inr rfl) rfl ?_;refine dD rfl (fun _=>rfl) (Or.inr rfl) rfl ?_;refine dD rfl (fun _=>rfl) (Or.inr rfl) rfl ?_;refine aD (fun β=>(eG (.of rfl) (.of rfl) (.of rfl) rfl)) dx rfl ?_)
   dsimp only [Nat.zero_add,Nat.reduceAdd]
   with_reducible apply cP (B:=[]) (F:=fun _=>.int .i64 (bO true 19)) (args:=fun _=>[.bool true,.int .i64 19])
   case hB=>rfl
   case hr=>exact fun β=>bh (.of rfl) (.cons (.of rfl) (.cons (.of rfl) .nil)) inferInstance rfl
   case hi=>exact bG
   case hd=>rfl
   case hc=>exact fun β w' hb=>dO _ _ _
   refine aD (fun β=>(dw (.of rfl))) dx rfl ?_
   refine gE fun β=>?_
   dsimp only [fq,Za,Zb,List.append_eq,Nat.reduceAdd]
   with_reducible refine dj (by kernel_rfl) ?_
   refine Jt<|Je<|JT ?_
   rfl
  | false =>
   have hC:M6 r v so de L=((fK r v so r.ti.length).any (fun x=>!L.contains x)||L.contains (j6 r de)):=by unfold M6;rw [vJ];rfl
   rw [hC]
   obtain ⟨j0,sX⟩:∃ i:Nat,bu (ct r) de=(i:Nat):=⟨(bu (ct r) de).toNat,by have:=dz fw;omega⟩
   have Bd:j0<r.de.length:=by
    obtain ⟨hl,_⟩:=er (l:=ct r) (s:=de) (by omega)
    rw [sX,Int.toNat_natCast] at hl
    unfold ct at hl;rwa [Zd] at hl
   have Tv:j6 r de=(r.de[j0]).mx:=by unfold j6;rw [sX,Int.toNat_natCast,List.getD_eq_getElem?_getD,Zc Bd];rfl
   have Mp:∀ w',aG [] w w'→bd Tryz.prog 152 [.agg #[.int .i64 r.lv,.int .i64 r.ma,s,d,t,p],.int .i64 v,.string so] w' [] (fun _:Value=>True) id (fun x=>[row 3 1 x (fK r v so r.ti.length).length ((fK r v so r.ti.length).map (Value.int .i64))]):=fun w' hk=>DO (s:=s) (d:=d) (t:=t) (p:=p) v so (h.keeps hk) (by omega) rN
   have qX:∀ w',aG [] w w'→aj Tryz.prog 155 [.agg #[.int .i64 r.lv,.int .i64 r.ma,s,d,t,p],.string de] w' (.int .i64 (j0:Nat)):=fun w' hk=>sX ▸ fG de (h.keeps hk)
   generalize fK r v so r.ti.length=R0 at Mp ⊢
   cases VW:R0.any (fun x=>!L.contains x) with
   | true =>
    rw [Bool.true_or]
    with_reducible refine eN 23 (by kernel_rfl) ?_
    (refine aD (fun β=>(aR (.of rfl))) dx rfl ?_;refine aD (fun β=>(aR (.of rfl))) dx rfl ?_;refine cV rfl (fun _=>rfl) ?_;refine aD (fun β=>(cA (.of rfl) eR an (by rfl))) dx rfl ?_;refine cV rfl (fun _=>rfl) ?_;refine aD (fun β=>(ag (.of rfl) (At.lit cX rfl))) dx rfl ?_;refine cV rfl (fun _=>rfl) ?_;refine aD (fun β=>(aR (.of rfl))) dx rfl ?_)
    dsimp only [Nat.zero_add,Nat.reduceAdd]
    refine cV rfl (fun _=>rfl) ?_
    with_reducible apply gI (ι:=Value) (Φ:=fun _=>True) (val:=id) (own:=fun x=>[row 3 1 x R0.length (R0.map (Value.int .i64))]) (g:=id) (B:=[]) (args:=fun _=>[.agg #[.int .i64 r.lv,.int .i64 r.ma,s,d,t,p],.int .i64 v,.string so])
    case hg=>exact fun x=>⟨x,rfl⟩
    case hB=>rfl
    case hr=>exact fun β=>bh (.of rfl) (.cons (.of rfl) (.cons (.of rfl) (.cons (.of rfl) .nil))) inferInstance rfl
    case hd=>rfl
    case hc=>exact fun β w' hb=>Mp w' hb.mem.keeps
    dsimp only [id_eq,Nat.reduceAdd]
    (refine cV rfl (fun _=>rfl) ?_;refine aD (fun β=>(ag (.of rfl) (At.lit .here rfl))) dx rfl ?_)
    dsimp only [Nat.zero_add,Nat.reduceAdd]
    refine cV rfl (fun _=>rfl) ?_
    with_reducible apply cP (B:=[5]) (F:=fun _=>.bool true) (args:=fun β=>[β 5,.func (.func 158) #[] #[.pointer (some ⟨Ge,0,none⟩)]])
    case hB=>first | rfl | kernel_rfl
    case hr=>exact fun β=>bh (.of rfl) (.cons (.of rfl) (.cons (.of rfl) .nil)) inferInstance rfl
    case hi=>exact bG
    case hd=>rfl
    case hc=>
     intro β w' hb
     have m5:=hb.at 5 List.mem_cons_self (s:=⟨fun β=>β 5,fun β=>[row 3 1 (β 5) R0.length (R0.map (Value.int .i64))]⟩) (by kernel_rfl)
     dsimp only [Zb,Za] at m5
     have s1:Rd w' (β 5) 1 (ints R0):=gi m5 (by exact .here) rfl
     have f9:w'.cell? ⟨b9,0,none⟩=some (.slice aw L.length cw):=At.lit cX rfl w' m5
     have f16:w'.cell? ⟨Ge,0,none⟩=some (.func (.func 157) #[] #[.pointer (some ⟨b9,0,none⟩)]):=At.lit bN rfl w' m5
     have q:=vb (f:=158) (p:=fun x=>!L.contains x) (first:=[]) (cap:=[.pointer (some ⟨Ge,0,none⟩)]) s1 (fun x hx w2 eC=>vj x (BX.keeps (hb.mem.keeps.trans eC)) (ch f9 rfl eC) (ch f16 rfl eC))
     rw [VW] at q
     exact q
    (refine aD (fun β=>(eG (.of rfl) (.of rfl) (.of rfl) rfl)) dx rfl ?_;refine aD (fun β=>(aR (.of rfl))) dx rfl ?_;refine dD rfl (fun _=>rfl) (Or.inr rfl) rfl ?_;refine dD rfl (fun _=>rfl) (Or.inr rfl) rfl ?_;refine dD rfl (fun _=>rfl) (Or.inr rfl) rfl ?_;refine dD rfl (fun _=>rfl) (Or.inr rfl) rfl ?_;refine dD rfl (fun _=>rfl) (Or.inr rfl) rfl ?_;refine dD rfl (fun _=>rfl) (Or.inr rfl) rfl ?_;refine dD rfl (fun _=>rfl) (Or.inr rfl) rfl ?_;refine dD rfl (fun _=>rfl) (Or.inr rfl) rfl ?_;refine dD rfl (fun _=>rfl) (Or.inr rfl) rfl ?_;refine dD rfl (fun _=>rfl) (Or.inr rfl) rfl ?_;refine aD (fun β=>(eG (.of rfl) (.of rfl) (.of rfl) rfl)) dx rfl ?_)
    dsimp only [Nat.zero_add,Nat.reduceAdd]
    with_reducible apply cP (B:=[]) (F:=fun _=>.int .i64 (bO true 19)) (args:=fun _=>[.bool true,.int .i64 19])
    case hB=>rfl
    case hr=>exact fun β=>bh (.of rfl) (.cons (.of rfl) (.cons (.of rfl) .nil)) inferInstance rfl
    case hi=>exact bG
    case hd=>rfl
    case hc=>exact fun β w' hb=>dO _ _ _
    refine aD (fun β=>(dw (.of rfl))) dx rfl ?_
    refine gE fun β=>?_
    dsimp only [fq,Za,Zb,List.append_eq,Nat.reduceAdd]
    with_reducible refine dj (by kernel_rfl) ?_
    refine Jt<|Je<|JT ?_
    rfl
   | false =>
    rw [Bool.false_or]
    have lT:=h.de
    obtain ⟨a3,r5,b3,o3,rfl,lC,fD,qY,oe⟩:=lT
    rw [bU] at *
    unfold maxLen at fD
    have FF:=qY (gl Bd)
    have n9:=(oe j0 _ (eX Bd)).2
    unfold De.cells at n9
    have zf:=n9 1 _ rfl
    rw [← Tv] at zf
    cases UO:L.contains (j6 r de) with
    | true =>
     with_reducible refine eN 23 (by kernel_rfl) ?_
     (refine aD (fun β=>(aR (.of rfl))) dx rfl ?_;refine aD (fun β=>(aR (.of rfl))) dx rfl ?_;refine cV rfl (fun _=>rfl) ?_;refine aD (fun β=>(cA (.of rfl) eR an (by rfl))) dx rfl ?_;refine cV rfl (fun _=>rfl) ?_;refine aD (fun β=>(ag (.of rfl) (At.lit cX rfl))) dx rfl ?_;refine cV rfl (fun _=>rfl) ?_;refine aD (fun β=>(aR (.of rfl))) dx rfl ?_)
     dsimp only [Nat.zero_add,Nat.reduceAdd]
     refine cV rfl (fun _=>rfl) ?_
     with_reducible apply gI (ι:=Value) (Φ:=fun _=>True) (val:=id) (own:=fun x=>[row 3 1 x R0.length (R0.map (Value.int .i64))]) (g:=id) (B:=[]) (args:=fun _=>[.agg #[.int .i64 r.lv,.int .i64 r.ma,s,.slice a3 r.de.length r5,t,p],.int .i64 v,.string so])
     case hg=>exact fun x=>⟨x,rfl⟩
     case hB=>rfl
     case hr=>exact fun β=>bh (.of rfl) (.cons (.of rfl) (.cons (.of rfl) (.cons (.of rfl) .nil))) inferInstance rfl
     case hd=>rfl
     case hc=>exact fun β w' hb=>Mp w' hb.mem.keeps
     dsimp only [id_eq,Nat.reduceAdd]
     (refine cV rfl (fun _=>rfl) ?_;refine aD (fun β=>(ag (.of rfl) (At.lit .here rfl))) dx rfl ?_)
     dsimp only [Nat.zero_add,Nat.reduceAdd]
     refine cV rfl (fun _=>rfl) ?_
     with_reducible apply cP (B:=[5]) (F:=fun _=>.bool false) (args:=fun β=>[β 5,.func (.func 158) #[] #[.pointer (some ⟨Ge,0,none⟩)]])
     case hB=>first | rfl | kernel_rfl
     case hr=>exact fun β=>bh (.of rfl) (.cons (.of rfl) (.cons (.of rfl) .nil)) inferInstance rfl
     case hi=>exact bG
     case hd=>rfl
     case hc=>
      intro β w' hb
      have m5:=hb.at 5 List.mem_cons_self (s:=⟨fun β=>β 5,fun β=>[row 3 1 (β 5) R0.length (R0.map (Value.int .i64))]⟩) (by kernel_rfl)
      dsimp only [Zb,Za] at m5
      have s1:Rd w' (β 5) 1 (ints R0):=gi m5 (by exact .here) rfl
      have f9:w'.cell? ⟨b9,0,none⟩=some (.slice aw L.length cw):=At.lit cX rfl w' m5
      have f16:w'.cell? ⟨Ge,0,none⟩=some (.func (.func 157) #[] #[.pointer (some ⟨b9,0,none⟩)]):=At.lit bN rfl w' m5
      have q:=vb (f:=158) (p:=fun x=>!L.contains x) (first:=[]) (cap:=[.pointer (some ⟨Ge,0,none⟩)]) s1 (fun x hx w2 eC=>vj x (BX.keeps (hb.mem.keeps.trans eC)) (ch f9 rfl eC) (ch f16 rfl eC))
      rw [VW] at q
      exact q
     (refine aD (fun β=>(cI (.of rfl) (.of rfl) (.of rfl) rfl)) dx rfl ?_;refine aD (fun β=>(aR (.of rfl))) dx rfl ?_;refine cV rfl (fun _=>rfl) ?_;refine aD (fun β=>(ag (.of rfl) (At.lit (.there .here) rfl))) dx rfl ?_;refine cV rfl (fun _=>rfl) ?_;refine aD (fun β=>(ao (.of rfl) ae)) dx rfl ?_;refine cV rfl (fun _=>rfl) ?_;refine aD (fun β=>(ag (.of rfl) (At.lit eR rfl))) dx rfl ?_;refine cV rfl (fun _=>rfl) ?_;refine aD (fun β=>(cA (.of rfl) eR an (by rfl))) dx rfl ?_;refine cV rfl (fun _=>rfl) ?_;refine aD (fun β=>(aR (.of rfl))) dx rfl ?_)
     dsimp only [Nat.zero_add,Nat.reduceAdd]
     refine cV rfl (fun _=>rfl) ?_
     with_reducible apply cP (B:=[]) (F:=fun _=>.int .i64 (j0:Nat)) (args:=fun _=>[.agg #[.int .i64 r.lv,.int .i64 r.ma,s,.slice a3 r.de.length r5,t,p],.string de])
     case hB=>rfl
     case hr=>exact fun β=>bh (.of rfl) (.cons (.of rfl) (.cons (.of rfl) .nil)) inferInstance rfl
     case hi=>exact bG
     case hd=>rfl
     case hc=>exact fun β w' hb=>qX w' hb.mem.keeps
     (refine cV rfl (fun _=>rfl) ?_;refine aD (fun β=>(az (.of rfl) (.of rfl) FF (by omega) (by omega) ba)) dx rfl ?_;refine cV rfl (fun _=>rfl) ?_;refine aD (fun β=>(ao (.of rfl) ae)) dx rfl ?_;refine cV rfl (fun _=>rfl) ?_;refine aD (fun β=>(ag (.of rfl) (At.base zf rfl))) dx rfl ?_)
     dsimp only [Nat.zero_add,Nat.reduceAdd]
     refine cV rfl (fun _=>rfl) ?_
     with_reducible apply cP (B:=[]) (F:=fun _=>.bool true) (args:=fun _=>[.int .i64 (j6 r de),.pointer (some ⟨b9,0,none⟩)])
     case hB=>rfl
     case hr=>exact fun β=>bh (Is.of rfl) (F2.cons (Is.of rfl) F2.nil) inferInstance e9
     case hi=>exact bG
     case hd=>rfl
     case hc=>
      intro β w' hb
      have m5:=hb.mem
      have f9:w'.cell? ⟨b9,0,none⟩=some (.slice aw L.length cw):=At.lit bN rfl w' m5
      have q:=vk (j6 r de) (BX.keeps hb.mem.keeps) f9
      rw [UO] at q
      exact q
     refine aD (fun β=>(eG (.of rfl) (.of rfl) (.of rfl) rfl)) dx rfl ?_
     dsimp only [Nat.zero_add,Nat.reduceAdd]
     with_reducible apply cP (B:=[]) (F:=fun _=>.int .i64 (bO true 19)) (args:=fun _=>[.bool true,.int .i64 19])
     case hB=>rfl
     case hr=>exact fun β=>bh (.of rfl) (.cons (.of rfl) (.cons (.of rfl) .nil)) inferInstance rfl
     case hi=>exact bG
     case hd=>rfl
     case hc=>exact fun β w' hb=>dO _ _ _
     refine aD (fun β=>(dw (.of rfl))) dx rfl ?_
     refine gE fun β=>?_
     dsimp only [fq,Za,Zb,List.append_eq,Nat.reduceAdd]
     with_reducible refine dj (by kernel_rfl) ?_
     refine Jt<|Je<|JT ?_
     rfl
    | false =>
     with_reducible refine eN 23 (by kernel_rfl) ?_
     (refine aD (fun β=>(aR (.of rfl))) dx rfl ?_;refine aD (fun β=>(aR (.of rfl))) dx rfl ?_;refine cV rfl (fun _=>rfl) ?_;refine aD (fun β=>(cA (.of rfl) eR an (by rfl))) dx rfl ?_;refine cV rfl (fun _=>rfl) ?_;refine aD (fun β=>(ag (.of rfl) (At.lit cX rfl))) dx rfl ?_;refine cV rfl (fun _=>rfl) ?_;refine aD (fun β=>(aR (.of rfl))) dx rfl ?_)
     dsimp only [Nat.zero_add,Nat.reduceAdd]
     refine cV rfl (fun _=>rfl) ?_
     with_reducible apply gI (ι:=Value) (Φ:=fun _=>True) (val:=id) (own:=fun x=>[row 3 1 x R0.length (R0.map (Value.int .i64))]) (g:=id) (B:=[]) (args:=fun _=>[.agg #[.int .i64 r.lv,.int .i64 r.ma,s,.slice a3 r.de.length r5,t,p],.int .i64 v,.string so])
     case hg=>exact fun x=>⟨x,rfl⟩
     case hB=>rfl
     case hr=>exact fun β=>bh (.of rfl) (.cons (.of rfl) (.cons (.of rfl) (.cons (.of rfl) .nil))) inferInstance rfl
     case hd=>rfl
     case hc=>exact fun β w' hb=>Mp w' hb.mem.keeps
     dsimp only [id_eq,Nat.reduceAdd]
     (refine cV rfl (fun _=>rfl) ?_;refine aD (fun β=>(ag (.of rfl) (At.lit .here rfl))) dx rfl ?_)
     dsimp only [Nat.zero_add,Nat.reduceAdd]
     refine cV rfl (fun _=>rfl) ?_
     with_reducible apply cP (B:=[5]) (F:=fun _=>.bool false) (args:=fun β=>[β 5,.func (.func 158) #[] #[.pointer (some ⟨Ge,0,none⟩)]])
     case hB=>first | rfl | kernel_rfl
     case hr=>exact fun β=>bh (.of rfl) (.cons (.of rfl) (.cons (.of rfl) .nil)) inferInstance rfl
     case hi=>exact bG
     case hd=>rfl
     case hc=>
      intro β w' hb
      have m5:=hb.at 5 List.mem_cons_self (s:=⟨fun β=>β 5,fun β=>[row 3 1 (β 5) R0.length (R0.map (Value.int .i64))]⟩) (by kernel_rfl)
      dsimp only [Zb,Za] at m5
      have s1:Rd w' (β 5) 1 (ints R0):=gi m5 (by exact .here) rfl
      have f9:w'.cell? ⟨b9,0,none⟩=some (.slice aw L.length cw):=At.lit cX rfl w' m5
      have f16:w'.cell? ⟨Ge,0,none⟩=some (.func (.func 157) #[] #[.pointer (some ⟨b9,0,none⟩)]):=At.lit bN rfl w' m5
      have q:=vb (f:=158) (p:=fun x=>!L.contains x) (first:=[]) (cap:=[.pointer (some ⟨Ge,0,none⟩)]) s1 (fun x hx w2 eC=>vj x (BX.keeps (hb.mem.keeps.trans eC)) (ch f9 rfl eC) (ch f16 rfl eC))
      rw [VW] at q
      exact q
     (refine aD (fun β=>(cI (.of rfl) (.of rfl) (.of rfl) rfl)) dx rfl ?_;refine aD (fun β=>(aR (.of rfl))) dx rfl ?_;refine cV rfl (fun _=>rfl) ?_;refine aD (fun β=>(ag (.of rfl) (At.lit (.there .here) rfl))) dx rfl ?_;refine cV rfl (fun _=>rfl) ?_;refine aD (fun β=>(ao (.of rfl) ae)) dx rfl ?_;refine cV rfl (fun _=>rfl) ?_;refine aD (fun β=>(ag (.of rfl) (At.lit eR rfl))) dx rfl ?_;refine cV rfl (fun _=>rfl) ?_;refine aD (fun β=>(cA (.of rfl) eR an (by rfl))) dx rfl ?_;refine cV rfl (fun _=>rfl) ?_;refine aD (fun β=>(aR (.of rfl))) dx rfl ?_)
     dsimp only [Nat.zero_add,Nat.reduceAdd]
     refine cV rfl (fun _=>rfl) ?_
     with_reducible apply cP (B:=[]) (F:=fun _=>.int .i64 (j0:Nat)) (args:=fun _=>[.agg #[.int .i64 r.lv,.int .i64 r.ma,s,.slice a3 r.de.length r5,t,p],.string de])
     case hB=>rfl
     case hr=>exact fun β=>bh (.of rfl) (.cons (.of rfl) (.cons (.of rfl) .nil)) inferInstance rfl
     case hi=>exact bG
     case hd=>rfl
     case hc=>exact fun β w' hb=>qX w' hb.mem.keeps
     (refine cV rfl (fun _=>rfl) ?_;refine aD (fun β=>(az (.of rfl) (.of rfl) FF (by omega) (by omega) ba)) dx rfl ?_;refine cV rfl (fun _=>rfl) ?_;refine aD (fun β=>(ao (.of rfl) ae)) dx rfl ?_;refine cV rfl (fun _=>rfl) ?_;refine aD (fun β=>(ag (.of rfl) (At.base zf rfl))) dx rfl ?_)
     dsimp only [Nat.zero_add,Nat.reduceAdd]
     refine cV rfl (fun _=>rfl) ?_
     with_reducible apply cP (B:=[]) (F:=fun _=>.bool false) (args:=fun _=>[.int .i64 (j6 r de),.pointer (some ⟨b9,0,none⟩)])
     case hB=>rfl
     case hr=>exact fun β=>bh (Is.of rfl) (F2.cons (Is.of rfl) F2.nil) inferInstance e9
     case hi=>exact bG
     case hd=>rfl
     case hc=>
      intro β w' hb
      have m5:=hb.mem
      have f9:w'.cell? ⟨b9,0,none⟩=some (.slice aw L.length cw):=At.lit bN rfl w' m5
      have q:=vk (j6 r de) (BX.keeps hb.mem.keeps) f9
      rw [UO] at q
      exact q
     refine aD (fun β=>(cI (.of rfl) (.of rfl) (.of rfl) rfl)) dx rfl ?_
     dsimp only [Nat.zero_add,Nat.reduceAdd]
     with_reducible apply cP (B:=[]) (F:=fun _=>.int .i64 (bO false 19)) (args:=fun _=>[.bool false,.int .i64 19])
     case hB=>rfl
     case hr=>exact fun β=>bh (.of rfl) (.cons (.of rfl) (.cons (.of rfl) .nil)) inferInstance rfl
     case hi=>exact bG
     case hd=>rfl
     case hc=>exact fun β w' hb=>dO _ _ _
     refine aD (fun β=>(dw (.of rfl))) dx rfl ?_
     refine gE fun β=>?_
     dsimp only [fq,Za,Zb,List.append_eq,Nat.reduceAdd]
     with_reducible refine dj (by kernel_rfl) ?_
     refine Jt<|Je<|JT ?_
     rfl
structure Tk where
 de:ByteArray
 so:List ByteArray
structure gy where
 tk:Tk
 v:Value
def gy.cells (x:gy):List Value:=[.string x.tk.de,x.v]
def jm (l:List gy):List (List Value):=l.map gy.cells
theorem eK (l:List gy):(jm l).length=l.length:=by simp [jm]
theorem kc {l:List gy} {k:Nat} (h:k<l.length):(jm l)[k]? = some (l[k]).cells:=by simp [jm,h]
theorem mA {l:List gy} {k:Nat} (h:k<l.length):jm l≠[]:=by intro e;have:=congrArg List.length e;rw [eK] at this;simp at this;subst this;simp at h
def vN (w:World) (l:List gy):Prop:=∀ x∈l,Rd w x.v 1 (iT x.tk.so)
theorem vN.keeps {w w':World} {l:List gy} (h:vN w l) (hk:aG [] w w'):vN w' l:=fun x hx=>(h x hx).keeps hk
theorem Ed {lv:Value} {l:List gy} {p:gy→Bool} {f:FuncId} {first cap:List Value} [bS Tryz.prog f] {w:World} (h:Rd w lv 2 (jm l)) (cn:∀ x∈l,∀ w',aG [] w w'→aj Tryz.prog f (first++[.agg x.cells.toArray]++cap) w' (.bool (p x))) :
  aj Tryz.prog 252 [lv,.func (.func f) first.toArray cap.toArray] w (.int .i64 (gK p l)):=by
 obtain ⟨a,cp,b,o,rfl,db,bT,ha,hc⟩:=h
 rw [eK] at *
 unfold maxLen at bT
 refine ah Tryz.func252 rfl rfl ?_
 refine Jr<|Ja rfl<|Jn<|Jq<|Jr<|Jv rfl<|JI rfl<|Jv rfl<|Jn<|J0 ?_
 refine aX (fun k:Nat=>k≤l.length∧∀ i,i<k→(l[i]?.map p).getD false=false) (fun k=>[(8,.int .i64 k),(7,.int .i64 l.length),(0,.slice a l.length cp),(1,.func (.func f) first.toArray cap.toArray)]) (fun _=>[]) (fun k=>l.length-k) ?_ ?_
 ·apply aJ 0 ⟨Zi _,fun i h=>by omega⟩
  case hs1=>exact cd
  case ht=>(try simp only [Ze,Zf,Za]);exact .nil
 rintro k ⟨hk,hf⟩
 by_cases aL:k<l.length
 ·have cE:=ha (mA aL)
  have aC:=(hc k _ (kc aL)).2
  have iF:=cn _ (Zj aL)
  have hps:(l[k]?.map p).getD false=p l[k]:=by simp [aL]
  unfold gy.cells at aC iF
  (refine Jr<|JA rfl<|Jn<|Jq<|Jd rfl fun ar=>Jk<|Jq<|J0<|Jr<|Jv rfl<|Ja rfl<|Ji<|Jv rfl<|Jv rfl<|Jv rfl<|ab (fH cE ar) rfl ?_;refine ab (iv (eF.base aC rfl)) rfl ?_;refine ai bI rfl (fun w' au=>(iF w' (Mem.keeps au))) ?_;refine Jn<|nB rfl (fun ar=>?_) fun ar=>?_;refine Jr<|Jv rfl<|Ja rfl<|Jn<|Je<|Jm<|Jh<|Jh<|Jm<|Jh<|JT ?_;rotate_left;refine Jw<|Jj<|Jt<|Jg<|JB rfl (by omega)<|Jv rfl<|Jn ?_;rotate_right)
  ·rw [gj hf aL ar]
  ·apply aK (k+1) ⟨by omega,fun i hi=>by
    by_cases e:i=k
    ·rw [e,hps];exact ar
    ·exact hf i (by omega)⟩ (by omega)
   case hs1=>exact cd
   case ht=>(try simp only [Ze,Zf,Za]);exact .nil
 ·obtain rfl:k=l.length:=by omega
  refine Jr<|JA rfl<|Jn<|Jq<|Jc rfl fun ar=>Jp<|Jl<|Jo<|Jt<|Jr<|Ja rfl<|Jn<|Je<|JT ?_
  rw [fx hf]
theorem MC {lv:Value} {l:List gy} {p:gy→Bool} {f:FuncId} {first cap:List Value} [bS Tryz.prog f] {w:World} (h:Rd w lv 2 (jm l)) (cn:∀ x∈l,∀ w',aG [] w w'→aj Tryz.prog f (first++[.agg x.cells.toArray]++cap) w' (.bool (p x))) :
  aj Tryz.prog 248 [lv,.func (.func f) first.toArray cap.toArray] w (.bool (l.any p)):=by
 have iF:∀ w',aG [] w w'→aj Tryz.prog 252 [lv,.func (.func f) first.toArray cap.toArray] w' (.int .i64 (gK p l)):=fun w' hk=>
  Ed (h.keeps hk) fun x hx w2 eC=>cn x hx w2 (hk.trans eC)
 rw [← jP]
 refine ah Tryz.func248 rfl rfl ?_
 (refine Jr<|Ja rfl<|Ji<|Jv rfl<|Jv rfl<|ai aZ rfl (fun w' au=>(iF w' (Mem.keeps au))) ?_;refine JG rfl<|Ja rfl<|Jn<|Je<|JT ?_)
 rfl
theorem RY {x:gy} {y:ByteArray} {b:Nat} {w:World} (f1:w.cell? ⟨b,0,none⟩=some (.string y)):aj Tryz.prog 249 [.agg x.cells.toArray,.pointer (some ⟨b,0,none⟩)] w (.bool (decide (x.tk.de=y))):=by
 unfold gy.cells
 refine ah Tryz.func249 rfl rfl ?_
 (refine Jr<|Jy rfl rfl fun _ _=>Ja rfl<|Ji<|bF rfl rfl ae ?_;refine JL rfl .here rfl<|bF rfl rfl ae ?_;refine ab (ag (.of rfl) (At.base f1 rfl)) rfl ?_;refine ab (dR (.of rfl) (.of rfl)) rfl ?_;refine Ja rfl<|Jn<|Je<|JT ?_)
 rfl
theorem ur {P:Program} {c:Cx} {sl:aI} {hs:List a8} {dst:Option Tmp} {ty:TypeId} {pos:String} {af:Array Edge} {g:Option (Nat×Bool)} {t u:TypeId} {x y:Operand} {a b:ByteArray} (hx:Is sl x (.string a)) (hy:Is sl y (.string b)) (e:a≠b) :
  cL P c sl hs ⟨dst,.binOp .neq t x y u,ty,pos,af,g⟩ (.bool true):=by
 have:=hY (P:=P) (c:=c) (hs:=hs) (dst:=dst) (ty:=ty) (pos:=pos) (af:=af) (g:=g) (t:=t) (u:=u) hx hy
 rwa [decide_eq_true e] at this
theorem AB {P:Program} {c:Cx} {sl:aI} {hs:List a8} {dst:Option Tmp} {ty:TypeId} {pos:String} {af:Array Edge} {g:Option (Nat×Bool)} {t u:TypeId} {x y:Operand} {a b:ByteArray} (hx:Is sl x (.string a)) (hy:Is sl y (.string b)) (e:a=b) :
  cL P c sl hs ⟨dst,.binOp .neq t x y u,ty,pos,af,g⟩ (.bool false):=by
 have:=hY (P:=P) (c:=c) (hs:=hs) (dst:=dst) (ty:=ty) (pos:=pos) (af:=af) (g:=g) (t:=t) (u:=u) hx hy
 rwa [decide_eq_false (not_not_intro e)] at this
def l9 (r:Ro) (o:ByteArray):Bool:=decide (o≠⟨#[]⟩)&&decide (o≠⟨#[45]⟩)&&decide (bu (cm r) o<0)
theorem RZ {r:Ro} {s d t p:Value} (o:ByteArray) {b:Nat} {w:World} (hr:RR w r s d t p) (hA:BR w b (RC r s d t p)) :
  aj Tryz.prog 251 [.string o,.pointer (some ⟨b,0,none⟩)] w (.bool (l9 r o)):=by
 have h1:=Rd.one hr.sr
 have h2:=Rd.one hr.de
 have h3:=Rd.one hr.ti
 have h4:=Rd.one hr.po
 have jR:∀ (j:Nat) (u:Value),[Value.int .i64 r.lv,.int .i64 r.ma,s,d,t,p][j]? = some u→w.cell? ⟨b,0+j,none⟩=some u:=hA
 refine ah Tryz.func251 rfl rfl ?_
 by_cases Ir:o=⟨#[]⟩
 ·have hB:l9 r o=false:=by unfold l9;rw [decide_eq_false (not_not_intro Ir)];rfl
  rw [hB]
  (refine Jr<|Ja rfl<|Ji<|Jv rfl<|ab (AB (.of rfl) (.of rfl) Ir) rfl ?_;refine Jv rfl<|je rfl rfl rfl rfl ?_;refine aF rfl rfl inferInstance (fun hg bj=>(hY (.bE bj rfl) (.of rfl))) rfl ?_;refine ab (cI (.of rfl) (.of rfl) (.of rfl) rfl) rfl ?_;refine Jv rfl<|aF rfl rfl inferInstance (fun hg bj=>(jh (.of rfl) (eF.base jR rfl) rfl)) rfl ?_;refine je rfl rfl rfl rfl ?_;refine ew rfl rfl rfl rfl ?_;refine ew rfl rfl rfl rfl ?_;refine ab (cI (.of rfl) (.of rfl) (.of rfl) rfl) rfl ?_;refine Ja rfl<|Jn<|Je<|JT ?_)
  rfl
 by_cases Qw:o=⟨#[45]⟩
 ·have hB:l9 r o=false:=by unfold l9;rw [decide_eq_false (not_not_intro Qw),Bool.and_false];rfl
  rw [hB]
  (refine Jr<|Ja rfl<|Ji<|Jv rfl<|ab (ur (.of rfl) (.of rfl) Ir) rfl ?_;refine Jv rfl<|JK rfl rfl<|Jv rfl<|JK rfl rfl<|ab (AB (.of rfl) (.of rfl) Qw) rfl ?_;refine ab (cI (.of rfl) (.of rfl) (.of rfl) rfl) rfl ?_;refine Jv rfl<|aF rfl rfl inferInstance (fun hg bj=>(jh (.of rfl) (eF.base jR rfl) rfl)) rfl ?_;refine je rfl rfl rfl rfl ?_;refine ew rfl rfl rfl rfl ?_;refine ew rfl rfl rfl rfl ?_;refine ab (cI (.of rfl) (.of rfl) (.of rfl) rfl) rfl ?_;refine Ja rfl<|Jn<|Je<|JT ?_)
  rfl
 have hB:l9 r o=decide (bu (cm r) o<0):=by unfold l9;rw [decide_eq_true Ir,decide_eq_true Qw];rfl
 rw [hB]
 (refine Jr<|Ja rfl<|Ji<|Jv rfl<|ab (ur (.of rfl) (.of rfl) Ir) rfl ?_;refine Jv rfl<|JK rfl rfl<|Jv rfl<|JK rfl rfl<|ab (ur (.of rfl) (.of rfl) Qw) rfl ?_;refine ab (eG (.of rfl) (.of rfl) (.of rfl) rfl) rfl ?_;refine Jv rfl<|JK rfl rfl<|ab (iv (eF.base jR rfl)) rfl ?_;refine JK rfl rfl<|Jv rfl<|JK rfl rfl ?_)
 refine ai aZ rfl (fun w' au=>nI o (hr.keeps au.keeps)) ?_
 refine JK rfl rfl<|JA rfl ?_
 with_reducible apply ab (V:=Value.bool (decide (bu (cm r) o<0)))
 case hr=>
  with_reducible apply uq
  case hx=>exact Is.of rfl
  case hy=>exact Is.of rfl
  case hz=>exact Is.of rfl
  case e=>rfl
 case hd=>rfl
 refine Ja rfl<|Jn<|Je<|JT ?_
 rfl
def c8 (l:List gy):List Tk:=l.map (·.tk)
def Kp (r:Ro) (l:List Tk) (k:Nat):Int:=(l[k]?.map fun x=>aW [sM r x.de,bO ((l.take k).any fun y=>decide (y.de=x.de)) 9,bO (decide ((x.so.length:Int)≠r.lv)) 2,bO (x.so.any (l9 r)) 10]).getD 0
theorem GH {r:Ro} {l:List Tk} {k:Nat} (h:k<l.length):Kp r l k=aW [sM r (l[k]).de,bO ((l.take k).any fun y=>decide (y.de=(l[k]).de)) 9,bO (decide (((l[k]).so.length:Int)≠r.lv)) 2,bO ((l[k]).so.any (l9 r)) 10]:=by
 unfold Kp;rw [Zc h];rfl
def Kq (l:List Tk):Int:=aW [bO (decide ((l.length:Int)=0)) 12,bO (decide ((8:Int)<(l.length:Nat))) 5]
def Ac (r:Ro) (l:List Tk):Int:=if Kq l≠0 then Kq l else iL (Kp r l) l.length
set_option maxHeartbeats 2000000 in
theorem rf {r:Ro} {s d t p kv:Value} {l:List gy} {w:World} (h:RR w r s d t p) (hw:Rd w kv 2 (jm l)) (hM:vN w l) :
  aj Tryz.prog 164 [RA r s d t p,kv] w (.int .i64 (Ac r (c8 l))):=by
 have h1:=Rd.one h.sr
 have h2:=Rd.one h.de
 have h3:=Rd.one h.ti
 have h4:=Rd.one h.po
 have BX:=hw
 obtain ⟨aw,cw,bw,ow,rfl,Of,A9,TD,It⟩:=hw
 rw [eK] at *
 unfold maxLen at A9
 have tL:(c8 l).length=l.length:=Zd _
 unfold RA
 refine ah Tryz.func164 rfl rfl ?_
 (refine Jr<|Jy rfl rfl fun _ _=>Ja rfl<|Jn<|Jq<|Jr<|Jv rfl<|JI rfl<|JC rfl<|ai aZ rfl (fun w' au=>(dO _ 12 w')) ?_;refine Jv rfl<|JI rfl<|JE rfl<|ai aZ rfl (fun w' au=>(dO _ 5 w')) ?_;refine bb (aA (.cons (.of rfl) (.cons (.of rfl) .nil)) rfl rfl rfl rfl) rfl fun _ _=>?_;refine ai bI rfl (fun w' au=>(dI (Mem.dh au .here rfl rfl) (bP.cons (bP.cons bP.nil)))) ?_;refine Ja rfl<|Ji<|Jv rfl<|JD rfl<|Jn<|gm rfl (fun ar=>?_) fun ar=>?_;refine Jr<|Jv rfl<|Ja rfl<|Jn<|Ju<|JT ?_;rotate_left;refine Jk<|Jq<|Jr<|Jv rfl<|JI rfl<|Jv rfl<|Jn<|J0 ?_;rotate_right)
 ·have e1:Ac r (c8 l)=Kq (c8 l):=if_pos (by unfold Kq;rw [tL];exact ar)
  rw [e1];unfold Kq;rw [tL]
 have MI:Kq (c8 l)=0:=by unfold Kq;rw [tL];exact Decidable.not_not.1 ar
 have hX:Ac r (c8 l)=iL (Kp r (c8 l)) l.length:=by unfold Ac;rw [if_neg (by rw [MI];decide),tL]
 clear ar
 rename_i b2 tb bq mg
 refine aX (fun k:Nat=>k≤l.length∧∀ i,i<k→Kp r (c8 l) i=0) (fun k=>[(26,.int .i64 (k:Nat)),(25,.int .i64 (l.length:Nat)),(24,.slice aw l.length cw),(2,.pointer (some ⟨b2,0,none⟩)),(1,.slice aw l.length cw)])
  (fun k=>[JP b2 r s d t p]) (fun k=>l.length-k) ?_ ?_
 ·apply aJ 0 ⟨Zi _,fun i hi=>by omega⟩
  case hs1=>exact cd
  case ht=>(try simp only [Ze,Zf,Za]);exact .cons (.there .here) .nil
 rintro k ⟨hk,hf⟩
 by_cases aL:k<l.length
 ·have Iw:=TD (mA aL)
  have aC:=(It k _ (kc aL)).2
  unfold gy.cells at aC
  have hx:=hM _ (Zj aL)
  have jb:=GH (r:=r) (l:=c8 l) (k:=k) (by omega)
  have hgk:(c8 l)[k]'(by omega)=(l[k]).tk:=List.getElem_map _
  rw [hgk] at jb
  have rm:Rd w (Go.sliced aw 0 (k:Int).toNat cw 2) 2 (jm (l.take k)):=by
   have:=BX.sliced (l:=0) (m:=k) (Zi _) (by omega)
   rw [Int.toNat_natCast]
   rwa [List.drop_zero,show (jm l).take k=jm (l.take k) by unfold jm;rw [List.map_take]] at this
  have QE:(l.take k).any (fun y=>decide (y.tk.de=(l[k]).tk.de))=((c8 l).take k).any fun y=>decide (y.de=(l[k]).tk.de):=by
   unfold c8;rw [← List.map_take,List.any_map];rfl
  generalize l[k]=x at aC hx jb QE ⊢
  obtain ⟨⟨xd,xs⟩,xv⟩:=x
  dsimp only at aC hx jb QE ⊢
  have PW:=hx
  obtain ⟨ax,cx,bx,ox,rfl,Yk,Td,hax,hcx⟩:=hx
  rw [cg] at *
  unfold maxLen at Td
  have fw:∀ w',aG [] w w'→aj Tryz.prog 112 [.agg #[.int .i64 r.lv,.int .i64 r.ma,s,d,t,p],.string xd] w' (.int .i64 (sM r xd)):=fun w' hk=>ei xd (h.keeps hk)
  (refine Jr<|JA rfl<|Jn<|Jq<|Jd rfl fun ar=>Jk<|Jq<|J0<|Jr<|Jv rfl<|ab (az (.of rfl) (.of rfl) Iw (by omega) ar ba) rfl ?_;refine ab (iv (eF.base aC rfl)) rfl ?_;refine Jz rfl rfl fun _ _=>Ja rfl<|aq (.of rfl) (.of rfl) .here rfl rfl (gF rfl rfl) (bC rfl) an ?_;refine Ji<|Jv rfl<|Jv rfl<|ab (gP (.of rfl) (.of rfl) (by omega) (by omega)) rfl ?_;refine ab (bn .nil (.cons (.of rfl) .nil)) rfl ?_)
  rename_i b7 TC
  with_reducible apply ai
  case hr=>exact aZ
  case hd=>rfl
  case hc=>
   intro w' au
   have f7:w'.cell? ⟨b7,0,none⟩=some (.string xd):=(BR.of (cs:=[.string xd,.slice ax xs.length cx]) au (by exact .here)) 0 _ rfl
   exact MC (f:=249) (p:=fun y=>decide (y.tk.de=xd)) (first:=[]) (cap:=[.pointer (some ⟨b7,0,none⟩)]) (rm.keeps au.keeps) (fun y hy w2 eC=>RY (ch f7 rfl eC))
  rw [QE]
  (refine Ja rfl<|Ji<|bF rfl rfl ae ?_;refine JL rfl .here rfl<|ab (bn .nil (.cons (.of rfl) .nil)) rfl ?_)
  with_reducible apply ai
  case hr=>exact aZ
  case hd=>rfl
  case hc=>
   intro w' au
   have hR:=h.keeps au.keeps
   have hA:BR w' b2 [.int .i64 r.lv,.int .i64 r.ma,s,d,t,p]:=BR.of au (by exact Take.there .here)
   exact Ix (f:=251) (p:=l9 r) (first:=[]) (cap:=[.pointer (some ⟨b2,0,none⟩)]) (PW.keeps au.keeps) (fun o ho w2 eC=>RZ o (hR.keeps eC) (hA.keeps eC))
  refine Ja rfl<|Jn<|Jq ?_
  with_reducible refine cC 16 (by kernel_rfl) ?_
  (refine ak (cz (.there .here)) rfl ?_;refine ak j9 rfl ?_;refine ak (gz .here) rfl ?_;refine aT aZ rfl (fun w' au=>(fw w' (Mem.keeps au))) ?_;refine ak kG rfl ?_;refine aT aZ rfl (fun w' au=>(dO _ 9 w')) ?_;refine ak j9 rfl ?_;refine ak (gz .here) rfl ?_;refine ak (bZ (.of rfl)) rfl ?_;refine ak j9 rfl ?_;refine ak (gz (.there .here)) rfl ?_;refine ak (jw (.of rfl) (.of rfl)) rfl ?_;refine aT aZ rfl (fun w' au=>(dO _ 2 w')) ?_;refine ak kG rfl ?_;refine aT aZ rfl (fun w' au=>(dO _ 10 w')) ?_;refine dX (aA (.cons (.of rfl) (.cons (.of rfl) (.cons (.of rfl) (.cons (.of rfl) .nil)))) rfl rfl rfl rfl) rfl rfl ?_)
  with_reducible refine df rfl fun b55 W7=>?_
  (refine ai bI rfl (fun w' au=>(dI (Mem.dh au .here rfl rfl) (bP.cons (bP.cons (bP.cons (bP.cons bP.nil)))))) ?_;refine Ja rfl<|Ji<|Jv rfl<|JD rfl<|Jn<|gm rfl (fun ar=>?_) fun ar=>?_;refine Jr<|Jv rfl<|Ja rfl<|Jn<|Je<|Jm<|Jh<|Jh<|Jm<|Jh<|JT ?_;rotate_left;refine Jw<|Jj<|Jt<|Jg<|JB rfl (by omega)<|Jv rfl<|Jn ?_;rotate_right)
  ·rw [← jb] at ar ⊢
   have hB:iL (Kp r (c8 l)) l.length=Kp r (c8 l) k:=eP hf aL ar
   rw [hX,hB]
  have hz:Kp r (c8 l) k=0:=by rw [jb];exact Decidable.not_not.1 ar
  apply aK (k+1) ⟨by omega,fun i hi=>by
   by_cases e:i=k
   ·rw [e];exact hz
   ·exact hf i (by omega)⟩ (by omega)
  case hs1=>exact cd
  case ht=>(try simp only [Ze,Zf,Za]);exact .cons bN .nil
 ·obtain rfl:k=l.length:=by omega
  have TN:iL (Kp r (c8 l)) l.length=0:=dN.2 hf
  rw [hX,TN]
  refine Jr<|JA rfl<|Jn<|Jq<|Jc rfl fun ar=>Jp<|Jl<|Jo<|Jt<|Jr<|Ja rfl<|Jn<|Je<|JT ?_
  rfl
def xq (v:Int) (o:ByteArray) (x:Po):Bool:=decide (x.lv=v)&&decide (x.ou=o)
theorem RT {x:Po} (v:Int) (o:ByteArray) {b1 b2:Nat} {w:World} (f1:w.cell? ⟨b1,0,none⟩=some (.int .i64 v)) (f2:w.cell? ⟨b2,0,none⟩=some (.string o)) :
  aj Tryz.prog 315 [.agg x.cells.toArray,.pointer (some ⟨b1,0,none⟩),.pointer (some ⟨b2,0,none⟩)] w (.bool (xq v o x)):=by
 unfold Po.cells
 refine ah Tryz.func315 rfl rfl ?_
 (refine Jr<|Jy rfl rfl fun _ _=>Ja rfl<|Ji<|ab (cz .here) rfl ?_;refine ab (ag (.of rfl) (At.base f1 rfl)) rfl ?_;refine ab (ag (.of rfl) (At.base f2 rfl)) rfl ?_;refine bF rfl rfl ae ?_;refine JL rfl .here rfl<|ab (aU (.cons (.of rfl) (.cons (.of rfl) (.cons (.of rfl) .nil))) an) rfl ?_;refine ab (tB (.of rfl) (.of rfl) (jH (eZ (eZ lz))) rfl) rfl ?_;refine Ja rfl<|Jn<|Je<|JT ?_)
 simp [xq]
def RB (b:Nat) (r:Ro) (s d t p:Value):a8:=JP b r s d t p
def PB (p:Value) (l:List Po):a8:=row 188 3 p l.length (jf l)
set_option maxHeartbeats 1000000 in
theorem wB {r:Ro} {s d t p:Value} {b:Nat} {l:List Po} (v:Int) (o:ByteArray) {w:World} {fp:List Nat} (kQ:fp.Nodup) (hs:bY (hp w) [RB b r s d t p,PB p l] fp) (cG:l.length≤1000000) :
  bd Tryz.prog 256 [.pointer (some ⟨b,0,none⟩),.int .i64 v,.string o] w fp (fun _:Value=>True) (fun _=>.tuple #[]) (fun p'=>[RB b r s d t p',PB p' (l.filter fun x=>!xq v o x)]):=by
 unfold RB PB at *
 refine dV Tryz.func256 rfl rfl kQ hs ?_
 (refine Jr<|Jy rfl rfl fun _ _=>Jy rfl rfl fun _ _=>Jn<|Jg<|Jv rfl<|Jv rfl<|ab (dK (.of rfl)) rfl ?_;refine bF rfl rfl ae ?_;refine JL rfl bN rfl<|ab (bn .nil (.cons (.of rfl) (.cons (.of rfl) .nil))) rfl ?_)
 rename_i b4 u9 b5 KF
 with_reducible apply fI (As:=[row 188 3 p l.length (jf l)])
 case hr=>exact aZ
 case hd=>rfl
 case ht=>exact .cons cX .nil
 case hc=>
  intro w1 zS aS uY hs1 B2 kp
  have h4:b4 ∉ zS:=kp b4 _ _ (by exact Take.there .here)
  have h5:b5 ∉ zS:=kp b5 _ _ (by exact .here)
  have f4:w1.cell? ⟨b4,0,none⟩=some (.int .i64 v):=At.lit (by exact Take.there .here) rfl w1 aS
  have f5:w1.cell? ⟨b5,0,none⟩=some (.string o):=At.lit (by exact .here) rfl w1 aS
  exact MX (f:=315) (p:=xq v o) (first:=[]) (cap:=[.pointer (some ⟨b4,0,none⟩),.pointer (some ⟨b5,0,none⟩)]) uY hs1 rfl cG (fun x _ w2 eC=>RT v o (dM f4 rfl h4 eC) (dM f5 rfl h5 eC))
 intro p' _
 dsimp only [id_eq,Zb,Za]
 refine aY (by exact .here) fun va vc e=>?_
 subst e
 (refine ab (dK (.of rfl)) rfl ?_;refine bF rfl rfl ae ?_;refine aq (.of rfl) (.of rfl) cX rfl rfl (ed rfl) (bC rfl) an ?_;refine Jx ?_)
 first | with_reducible apply aM | with_reducible apply aN
 case he=>exact py rfl
 case hR=>
  intro w' au
  exact aB (.slice va (l.filter fun x=>!xq v o x).length vc) trivial (by exact .cons .here (.cons .here .nil)) au rfl
theorem FU {lv:Value} {l:List Po} {w:World} (h:Rd w lv 3 (sU l)) (hl:l.length≤1000) :
  bd Tryz.prog 316 [lv] w [] (fun _:Value=>True) id (fun v=>[row 188 3 v l.length (jf l)]):=by
 have h':=h
 obtain ⟨a,cp,b,o,rfl,db,bT,ha,hc⟩:=h
 refine aQ Tryz.func316 rfl rfl ?_
 cases a with
 | none =>
  have me:l=[]:=by
   cases l with
   | nil=>rfl
   | cons x r=>exact absurd (ha (by simp [sU])) (by simp)
  subst me
  (refine Jr<|Ja rfl<|Jn<|Jq<|Jr<|Jv rfl<|ab (gp (.of rfl) (.of rfl)) rfl ?_;refine Jn<|cB (.of rfl) ?_;refine Jr<|Ja rfl<|Jn<|Ju ?_)
  refine aP 188 3 ?_
  first | with_reducible apply aM | with_reducible apply aN
  case he=>exact dp rfl rfl
  case hR=>
   intro w' au
   exact aB (.slice none 0 0) trivial (by exact .cons .here .nil) au rfl
 | some ad =>
  (refine Jr<|Ja rfl<|Jn<|Jq<|Jr<|Jv rfl<|ab (gp (.of rfl) (.of rfl)) rfl ?_;refine Jn<|bL (.of rfl) ?_;refine Jk<|Jr ?_)
  with_reducible apply bb
  case hr=>exact kg
  case hd=>rfl
  intro bq mg
  refine NR rfl rfl ?_
  refine bQ (g:=bq) (E:=188) (ys:=[]) 0 3 (by exact .here) rfl rfl rfl ?_
  with_reducible apply fX
  case hx=>exact Is.of rfl
  case hy=>exact Is.of rfl
  case ht=>exact .here
  case hsrc=>exact fun w' au=>h'.keeps au.keeps
  case h1=>exact DW l
  case hz=>exact rfl
  case hsz=>exact rfl
  case hb0=>exact rfl
  case hb=>rw [cN];omega
  case hd=>rfl
  intro v'
  rw [cN,Nat.zero_add,Za,← yK]
  refine Ja rfl<|Jn<|Je ?_
  first | with_reducible apply aM | with_reducible apply aN
  case he=>exact dp rfl rfl
  case hR=>
   intro w' au
   exact aB v' trivial (by exact .cons .here .nil) au rfl
def Uq (w:World) (b:Nat) (l:List (ByteArray×Value)):Prop:=∃ es clock,w.heap[b]? = some (.map es clock)∧HE (fun s:ByteArray=>Value.string s) l es clock
theorem Uq.iV {w w':World} {b:Nat} {l:List (ByteArray×Value)} {md:List Nat} (h:Uq w b l) (hn:b ∉ md) (hk:aG md w w'):Uq w' b l:=by
 obtain ⟨es,ck,h1,h2⟩:=h
 have hb:b<w.heap.size:=(Array.getElem?_eq_some_iff.1 h1).1
 have:=hk.block b hb hn
 exact ⟨es,ck,by rw [this,h1],h2⟩
theorem uu {P:Program} {c:Cx} {sl:aI} {hs:List a8} {dst:Option Tmp} {ty:TypeId} {pos:String} {af:Array Edge} {g:Option (Nat×Bool)} {t kt et:TypeId} {x y:Operand} {b:Nat} {k:ByteArray} {l:List (ByteArray×Value)} {z V:Value} [hu:iH P t (.map kt et)] [FB:iH P kt .string] [hz:lG P et z]
  (hx:Is sl x (.map (some b))) (hy:Is sl y (.string k)) (hl:Looks c hs b (fun s:ByteArray=>Value.string s) l) (e:(en k l).getD z=V) :
  cL P c sl hs ⟨dst,.lookup t x y false,ty,pos,af,g⟩ V:=e ▸ E8 HN hx hy hl
def Ps (r:Ro) (x y:Po):Int:=aW [j7 x.lv y.lv,j7 (dS r x.ou) (dS r y.ou)]
theorem Pb {r:Ro} {x y:Po} {b bm:Nat} {w:World} (hd:B3 r) (hx:iK (dZ r) x.ou=true) (hy:iK (dZ r) y.ou=true) (f:w.cell? ⟨b,0,none⟩=some (.map (some bm))) (hm:Uq w bm (nO r)) :
  aj Tryz.prog 318 [.agg x.cells.toArray,.agg y.cells.toArray,.pointer (some ⟨b,0,none⟩)] w (.int .i64 (Ps r x y)):=by
 have ex:(en x.ou (nO r)).getD (lg 0 0 0)=lg (dS r x.ou) (ka r x.ou) (jz r x.ou):=by rw [pF hd,hx];rfl
 have ey:(en y.ou (nO r)).getD (lg 0 0 0)=lg (dS r y.ou) (ka r y.ou) (jz r y.ou):=by rw [pF hd,hy];rfl
 unfold Po.cells
 refine ah Tryz.func318 rfl rfl ?_
 refine Jr<|Jy rfl rfl fun _ _=>Jy rfl rfl fun _ _=>Ja rfl<|Jn<|Jq ?_
 with_reducible refine cC 17 (by kernel_rfl) ?_
 (refine ak j9 rfl ?_;refine ak (gz (.there .here)) rfl ?_;refine ak j9 rfl ?_;refine ak (gz .here) rfl ?_;refine aT aZ rfl (fun w' au=>(Bx _ _ w')) ?_;refine ak (ag (.of rfl) (At.base f rfl)) rfl ?_;refine ak j9 rfl ?_;refine ak (gz (.there .here)) rfl ?_)
 refine ak (uu (l:=nO r) (z:=lg 0 0 0) (V:=.agg #[.int .i64 (dS r x.ou),.int .i64 (ka r x.ou),.int .i64 (jz r x.ou)]) (Is.of rfl) (Is.of rfl) (fun w' au=>hm.iV (by simp) au.keeps) ex) rfl ?_
 (refine ak (AF (.of rfl) rfl) rfl ?_;refine ak (ag (.of rfl) (At.base f rfl)) rfl ?_;refine ak j9 rfl ?_;refine ak (gz .here) rfl ?_)
 refine ak (uu (l:=nO r) (z:=lg 0 0 0) (V:=.agg #[.int .i64 (dS r y.ou),.int .i64 (ka r y.ou),.int .i64 (jz r y.ou)]) (Is.of rfl) (Is.of rfl) (fun w' au=>hm.iV (by simp) au.keeps) ey) rfl ?_
 (refine ak (AF (.of rfl) rfl) rfl ?_;refine aT aZ rfl (fun w' au=>(Bx _ _ w')) ?_;refine dX (aA (.cons (.of rfl) (.cons (.of rfl) .nil)) rfl rfl rfl rfl) rfl rfl ?_)
 with_reducible refine df rfl fun bq mg=>?_
 skip
 refine ai bI rfl (fun w' au=>Sq (l:=[j7 x.lv y.lv,j7 (dS r x.ou) (dS r y.ou)]) (Mem.dh au (by exact .here) rfl rfl)) ?_
 refine Ja rfl<|Jn<|Je<|JT ?_
 rfl
end Go.Proofs.A1
namespace Go.Proofs.A1
open Go Go.SL Go.Shelf
theorem tE (r:Ro) (x y:Po):Ps r x y<0↔x.lv<y.lv∨(x.lv=y.lv∧dS r x.ou<dS r y.ou):=by
 unfold Ps
 generalize dS r x.ou=a
 generalize dS r y.ou=b
 simp only [aW,j7]
 repeat' split
 all_goals omega
theorem LD {α:Type} (r:Ro) (g:α→Po):Go.Sort.SWO (ltOf fun x y:α=>Ps r (g x) (g y)):=by
 constructor
 ·intro x;unfold ltOf;rw [decide_eq_false_iff_not,tE];omega
 ·intro x y z h1 h2
  unfold ltOf at *
  rw [decide_eq_true_eq,tE] at *
  omega
 ·intro x y z h1 h2
  unfold ltOf at *
  rw [decide_eq_false_iff_not,tE] at *
  omega
theorem GQ {r:Ro} {v:Value} {l:List Po} {KI bm:Nat} {w:World} {fp:List Nat} (hs:bY (hp w) [PB v l] fp) (hd:B3 r) (iD:∀ x∈l,iK (dZ r) x.ou=true) (cG:l.length≤1000000)
  (f:w.cell? ⟨KI,0,none⟩=some (.map (some bm))) (hm:Uq w bm (nO r)) (Xn:KI ∉ fp) (UY:bm ∉ fp) :
  bd Tryz.prog 317 [v,.func (.func 318) #[] #[.pointer (some ⟨KI,0,none⟩)]] w fp (fun l':List Po=>l'.Perm l∧l'.Pairwise (fun x y=>¬ Ps r y x<0)) (fun _=>.tuple #[]) (fun l'=>[PB v l']):=by
 obtain ⟨f1,f2,rfl,h1,h2⟩:=hs
 obtain rfl:f2=[]:=h2
 obtain ⟨rfl,hlen,h1⟩:=h1
 rw [List.append_nil] at *
 rcases h1 with ⟨rfl,h0⟩ | ⟨g,cap,cur,rfl,hg,jJ,jq,oe,zg⟩
 ·have me:l=[]:=List.eq_nil_of_length_eq_zero (by omega)
  subst me
  refine (AnyF.slices_SortFunc_none Tryz.Cn none 0 (.func (.func 318) #[] #[.pointer (some ⟨KI,0,none⟩)]) w).mono fun e w' ⟨he,hw⟩=>?_
  subst hw
  exact ⟨[],he,⟨.refl _,.nil⟩,.refl _ _,[],List.nodup_nil,⟨[],[],rfl,⟨rfl,hlen,.inl ⟨rfl,h0⟩⟩,rfl⟩,by simp⟩
 ·have Oi:g<w.heap.size:=(Array.getElem?_eq_some_iff.1 hg).1
  by_cases me:l=[]
  ·subst me
   refine (AnyF.slices_SortFunc_none Tryz.Cn (some ⟨g,0,none⟩) cap (.func (.func 318) #[] #[.pointer (some ⟨KI,0,none⟩)]) w).mono fun e w' ⟨he,hw⟩=>?_
   subst hw
   exact ⟨[],he,⟨.refl _,.nil⟩,.refl _ _,[g],by simp,⟨[g],[],rfl,⟨rfl,hlen,.inr ⟨g,cap,cur,rfl,hg,jJ,jq,oe,zg⟩⟩,rfl⟩,fun b hb=>.inl hb⟩
  obtain ⟨x0,PW⟩:=List.exists_mem_of_ne_nil l me
  let α:={x:Po // iK (dZ r) x.ou=true}
  let _:Inhabited α:=⟨⟨x0,iD x0 PW⟩⟩
  let enc:α→List Value:=fun x=>x.1.cells
  have mP:cur=([]++jf l++cur.toList.drop (l.length*3)).toArray:=by
   apply Array.ext'
   show cur.toList=_
   rw [← zg,Za,List.take_append_drop]
  generalize S5:cur.toList.drop (l.length*3)=post at mP
  let la:List α:=l.attach.map fun x=>⟨x.1,iD x.1 x.2⟩
  have Qn:la.map (fun x:α=>x.1)=l:=by
   show (l.attach.map fun x=>(⟨x.1,iD x.1 x.2⟩:α)).map (fun x:α=>x.1)=l
   rw [List.map_map]
   exact List.attach_map_subtype_val l
  have Ba:∀ m:List α,(m.map enc).flatten=jf (m.map fun x:α=>x.1):=fun m=>by
   rw [yK];unfold sU
   rw [List.map_map];rfl
  have CV:la.length=l.length:=by
   show (l.attach.map fun x=>(⟨x.1,iD x.1 x.2⟩:α)).length=_
   rw [Zd,List.length_attach]
  have tb:w.heap[g]? = some (.cells ([]++(la.map enc).flatten++post).toArray 188 (0,0)):=by rw [Ba,Qn,← mP];exact hg
  have key:=Ai Tryz.Cn (k:=3) Tryz.isAgg188 Tryz.sizeOf188 (enc:=enc) (fun _=>rfl)
   (fun x u hu=>by
    simp only [enc,Po.cells,List.mem_cons,List.not_mem_nil,or_false] at hu
    rcases hu with rfl | rfl | rfl <;> rfl)
   (LD r (fun x:α=>x.1)) (g:=318) (b:=g) (cap:=cap) (cb:=#[.pointer (some ⟨KI,0,none⟩)]) (l:=la) (pre:=[]) (cur:=post) (E:=188) (w:=w)
   (enters_of Tryz.func318 (by kernel_rfl) rfl) tb (by rw [CV];omega)
   (fun w' hk x y=>Pb (r:=r) (x:=x.1) (y:=y.1) hd x.2 y.2 (dM f rfl Xn hk) (hm.iV UY hk))
  rw [CV] at key
  refine Calls.mono key ?_
  rintro e w' ⟨he,l',gU,V5,hk,dy⟩
  have xC:(l'.map fun x:α=>x.1).length=l.length:=by rw [Zd,gU.length_eq,CV]
  rw [Ba] at dy
  refine ⟨l'.map fun x:α=>x.1,he,⟨?_,?_⟩,hk,[g],by simp,⟨[g],[],rfl,⟨rfl,?_,.inr ⟨g,cap,_,?_,dy,?_,jq,?_,?_⟩⟩,rfl⟩,fun b hb=>.inl hb⟩
  ·have:=gU.map (fun x:α=>x.1)
   rwa [Qn] at this
  ·rw [List.pairwise_map]
   refine V5.imp fun {x y} h=>?_
   unfold ltOf at h
   rwa [decide_eq_false_iff_not] at h
  ·exact ji _
  ·rw [xC]
  ·rw [xC];exact jJ
  ·rw [← oe]
   have:=congrArg (fun x:Array Value=>x.size) mP
   simp only [List.size_toArray,Zg,ji,List.length_nil,Nat.zero_add] at this ⊢
   rw [xC,this]
  ·show List.take _ ([]++jf _++post)=_
   rw [Za,List.take_append_of_le_length (by rw [ji];exact Nat.le_refl _),List.take_of_length_le (by rw [ji];exact Nat.le_refl _)]
end Go.Proofs.A1
namespace Go.Proofs.A1
open Go Go.SL
set_option maxHeartbeats 2000000 in
theorem yL {r:Ro} {s d t p:Value} {w:World} (h:RR w r s d t p) (cG:mY r) (V8:r.po.length≤1000000) :
  bd Tryz.prog 184 [RA r s d t p] w [] (fun _:Value×Value×Value×Value=>True) (fun x=>RA r x.1 x.2.1 x.2.2.1 x.2.2.2) (fun x=>[J1 r x.1,J2 r x.2.1,J3 r x.2.2.1,PB x.2.2.2 r.po]):=by
 have h1:=Rd.one h.sr
 have h2:=Rd.one h.de
 have h3:=Rd.one h.ti
 have h4:=Rd.one h.po
 have Ic:=h.po
 have qj:=h.po
 obtain ⟨a4,cp4,q4,o4,rfl,xF,mc,Gb,zg⟩:=qj
 rw [cN] at *
 unfold maxLen at mc
 unfold RA
 refine aQ Tryz.func184 rfl rfl ?_
 (refine Jr<|Jy rfl rfl fun _ _=>Jz rfl rfl fun _ _=>Ji<|ab (cz (.there .here)) rfl ?_;refine Jz rfl rfl fun _ _=>aq (.of rfl) (.of rfl) .here rfl rfl (iu rfl rfl h1 h2 h3 rfl) (bC rfl) an ?_;refine Jn<|Jq ?_)
 have hs0:=h.sr
 have RF:=h.de
 with_reducible refine eN 7 (by kernel_rfl) ?_
 (refine aD (fun β=>(ao (.of rfl) ae)) dx rfl ?_;refine aD (fun β=>(ag (.of rfl) (At.lit bN rfl))) dx rfl ?_)
 dsimp only [Nat.zero_add,Nat.reduceAdd]
 with_reducible apply gI (ι:=Value) (Φ:=fun _=>True) (val:=id) (own:=fun x=>[J1 r x]) (g:=id) (B:=[]) (args:=fun _=>[s])
 case hg=>exact fun x=>⟨x,rfl⟩
 case hB=>rfl
 case hr=>exact fun β=>bh (.of rfl) (.cons (.of rfl) .nil) inferInstance rfl
 case hd=>rfl
 case hc=>exact fun β w' hb=>FT (h.sr.keeps hb.mem.keeps) (by have:=cG.1;omega)
 dsimp only [id_eq,Nat.reduceAdd]
 (refine aD (fun β=>(ao (.of rfl) ae)) dx rfl ?_;refine aD (fun β=>(ag (.of rfl) (At.lit bN rfl))) dx rfl ?_)
 dsimp only [Nat.zero_add,Nat.reduceAdd]
 with_reducible apply gI (ι:=Value) (Φ:=fun _=>True) (val:=id) (own:=fun x=>[J2 r x]) (g:=id) (B:=[]) (args:=fun _=>[d])
 case hg=>exact fun x=>⟨x,rfl⟩
 case hB=>rfl
 case hr=>exact fun β=>bh (.of rfl) (.cons (.of rfl) .nil) inferInstance rfl
 case hd=>rfl
 case hc=>exact fun β w' hb=>FV (h.de.keeps hb.mem.keeps) (by have:=cG.2.1;omega)
 dsimp only [id_eq,Nat.reduceAdd]
 refine aD (fun β=>(ao (.of rfl) ae)) dx rfl ?_
 refine gE fun β=>?_
 dsimp only [fq,Za,Zb,List.append_eq,Nat.reduceAdd]
 generalize β 2=sv
 generalize β 5=dv
 clear β
 refine aY (v:=sv) (by exact .here) fun sa sc e=>?_
 subst e
 refine aY (v:=dv) (by exact Take.there .here) fun da dc e=>?_
 subst e
 refine cO (rs:=[7]) (by kernel_rfl) (by simp) (List.forall_mem_cons.2 ⟨?_,fun _ h=>absurd h List.not_mem_nil⟩)
 refine cW rfl ?_
 (refine aq (.of rfl) (.of rfl) bN rfl rfl (ed rfl) (bC rfl) an ?_;refine Jn ?_)
 refine cO (rs:=[8]) (by kernel_rfl) (by simp) (List.forall_mem_cons.2 ⟨?_,fun _ h=>absurd h List.not_mem_nil⟩)
 refine cW rfl ?_
 (refine bF rfl rfl ae ?_;refine Jn ?_)
 refine cO (rs:=[9]) (by kernel_rfl) (by simp) (List.forall_mem_cons.2 ⟨?_,fun _ h=>absurd h List.not_mem_nil⟩)
 refine cW rfl ?_
 (refine aq (.of rfl) (.of rfl) .here rfl rfl (ed rfl) (bC rfl) an ?_;refine Jn ?_)
 with_reducible refine dj (by kernel_rfl) ?_
 (refine Jt<|Jr<|bF rfl rfl ae ?_;refine JL rfl eR rfl ?_)
 refine JN bI rfl (fun w1 aS=>FQ (h.keeps aS.keeps).ti (by have:=cG.2.2;omega)) ?_
 intro tv _
 dsimp only [id_eq,Zb,Za]
 refine aY (v:=tv) (by exact .here) fun ta tc e=>?_
 subst e
 (refine bF rfl rfl ae ?_;refine aq (.of rfl) (.of rfl) (.there .here) rfl rfl (ed rfl) (bC rfl) an ?_;refine Ji<|bF rfl rfl ae ?_;refine JL rfl fg rfl<|JI rfl ?_)
 with_reducible apply bb
 case hr=>
  with_reducible apply DR
  case hx=>exact Is.of rfl
  case hy=>exact Is.of rfl
  case hl=>exact Nat.le_refl _
  case hb=>omega
  case hz=>rfl
  case hsz=>rfl
  case h63=>omega
 case hd=>rfl
 intro bg Oi
 (refine bF rfl rfl ae ?_;refine aq (.of rfl) (.of rfl) (.there .here) rfl rfl (ed rfl) (bC rfl) an ?_;refine Ji<|bF rfl rfl ae ?_;refine JL rfl .here rfl<|bF rfl rfl ae ?_;refine JL rfl qm rfl ?_)
 with_reducible apply GC
 case hx=>exact Is.of rfl
 case hy=>exact Is.of rfl
 case ht=>exact Take.there .here
 case hsrc=>exact fun w' au=>Ic.keeps au.keeps
 case h1=>exact DW r.po
 case hfit=>
  simp [Value.cells]
 case hd=>rfl
 rw [List.take_of_length_le (by rw [cN];exact Nat.le_refl _),← yK,yt _ _ (by rw [ji];simp [Value.cells])]
 refine c6 (n:=r.po.length) (xs:=jf r.po) (cap:=r.po.length) (g:=bg) (E:=188) (sz:=3) (by exact .here) (Nat.le_refl _) (by unfold maxLen;omega) ?_ (ji _) ?_
 ·rw [Zg,List.length_drop,ji];simp [Value.cells]
 (refine Ji<|ab (cz (.there .here)) rfl ?_;refine aq (.of rfl) (.of rfl) fg rfl rfl (iu rfl rfl rfl rfl rfl rfl) (bC rfl) an ?_;refine Jn<|Je ?_)
 first | with_reducible apply aM | with_reducible apply aN
 case he=>exact kq rfl inferInstance rfl .here an (by rfl)
 case hR=>
  intro w' au
  exact aB (.slice sa r.sr.length sc,.slice da r.de.length dc,.slice ta r.ti.length tc,.slice (some ⟨bg,0,none⟩) r.po.length r.po.length) trivial (by exact .cons eR (.cons eR (.cons cX (.cons (.there .here) .nil)))) au rfl
end Go.Proofs.A1
namespace Go.Proofs.A1
structure Sw (po:List Po) (D:List ByteArray) (f:Po→Bool):Prop where
 de:∀ p∈po,p.ou∈D→f p=true
 up:∀ p∈po,∀ q∈po,f q=true→q.lv=p.lv→q.ip=p.ou→f p=true
theorem Sw.start (po:List Po) (D:List ByteArray):Sw po D fun _=>true:=⟨fun _ _ _=>rfl,fun _ _ _ _ _ _ _=>rfl⟩
theorem Sw.step {po:List Po} {D:List ByteArray} {f:Po→Bool} (h:Sw po D f) {v:Int} {o:ByteArray} (hD:o ∉ D) (hu:∀ q∈po,f q=true→¬ (q.lv=v∧q.ip=o)):Sw po D fun x=>f x&&!xq v o x:=by
 refine ⟨fun p hp hd=>?_,fun p hp q hq hf e1 e2=>?_⟩
 ·have h1:=h.de p hp hd
  have h2:xq v o p=false:=by
   unfold xq
   have:¬ p.ou=o:=fun e=>hD (e ▸ hd)
   simp [this]
  simp [h1,h2]
 ·rw [Bool.and_eq_true] at hf
  have h1:=h.up p hp q hq hf.1 e1 e2
  have h2:xq v o p=false:=by
   unfold xq
   by_cases a:p.lv=v
   ·by_cases b:p.ou=o
    ·exact absurd ⟨e1.trans a,e2.trans b⟩ (hu q hq hf.1)
    ·simp [b]
   ·simp [a]
  simp [h1,h2]
theorem sJ (po:List Po) (f:Po→Bool) (v:Int) (o:ByteArray):(po.filter f).filter (fun x=>!xq v o x)=po.filter fun x=>f x&&!xq v o x:=by
 rw [List.filter_filter]
 congr 1
 funext x
 exact Bool.and_comm _ _
end Go.Proofs.A1
namespace Go.Proofs.A1
open Go Go.SL
def Ro.wp (r:Ro) (po:List Po):Ro:=⟨r.lv,r.ma,r.sr,r.de,r.ti,po⟩
theorem iR.wp {r:Ro} {q po:List Po} (h:iR r po):iR (r.wp q) po:=⟨h.qv,h.KA,h.out,h.v8,h.NQ,h.C7,h.use⟩
theorem pA.wp {r:Ro} {q:List Po} (h:pA r):pA (r.wp q):=⟨h.sd,h.st,h.dt,h.R3⟩
theorem B3.wp {r:Ro} {q:List Po} (h:B3 r):B3 (r.wp q):=⟨h.nd⟩
theorem oF.wp {r:Ro} (h:oF r) {q:List Po} (hq:iR r q):oF (r.wp q):=⟨h.lim,h.OD.wp,h.len,h.sm,h.dm,h.tm,hq.wp⟩
theorem oF.nd {r:Ro} (h:oF r):(cQ r).Nodup:=h.OD.parts.2.2.1
def vT (D:List ByteArray) (po:List Po):List Po:=po.filter fun p=>iK D p.ou||po.any fun q=>decide (q.lv=p.lv)&&decide (q.ip=p.ou)
def E1 (D:List ByteArray):Nat→List Po→List Po
 | 0,po=>po
 | n+1,po=>E1 D n (vT D po)
def Ae (D:List ByteArray) (po:List Po):List Po:=E1 D po.length po
theorem Ad {D:List ByteArray} {po:List Po} (h:vT D po=po):∀ n,E1 D n po=po
 | 0=>rfl
 | n+1=>by rw [E1,h];exact Ad h n
theorem DD {D:List ByteArray}:∀ (n:Nat) (po:List Po) (f:Po→Bool),Sw po D f→(po.filter f).length≤n →
  ∃ g:Po→Bool,Sw po D g∧E1 D n (po.filter f)=po.filter g∧vT D (po.filter g)=po.filter g
 | 0, po, f, h, hl => by
  have e:po.filter f=[]:=List.eq_nil_of_length_eq_zero (by omega)
  exact ⟨f,h,rfl,by rw [e];rfl⟩
 | n + 1, po, f, h, hl => by
  have hS:Sw po D fun p=>f p&&(iK D p.ou||(po.filter f).any fun q=>decide (q.lv=p.lv)&&decide (q.ip=p.ou)):=by
   refine ⟨fun p hp hd=>?_,fun p hp q hq hf e1 e2=>?_⟩
   ·have:=h.de p hp hd
    show (f p&&(iK D p.ou||_))=true
    rw [this,fb.2 hd];rfl
   ·rw [Bool.and_eq_true] at hf
    have h1:=h.up p hp q hq hf.1 e1 e2
    rw [h1,Bool.true_and,Bool.or_eq_true]
    right
    rw [List.any_eq_true]
    exact ⟨q,List.mem_filter.2 ⟨hq,hf.1⟩,by simp [e1,e2]⟩
  have e:vT D (po.filter f)=po.filter fun p=>f p&&(iK D p.ou||(po.filter f).any fun q=>decide (q.lv=p.lv)&&decide (q.ip=p.ou)):=by
   unfold vT
   rw [List.filter_filter]
   refine List.filter_congr fun p _=>?_
   rw [Bool.and_comm]
  by_cases WQ:vT D (po.filter f)=po.filter f
  ·exact ⟨f,h,Ad WQ _,WQ⟩
  ·have aL:(vT D (po.filter f)).length<(po.filter f).length:=by
    have hle:(vT D (po.filter f)).length≤(po.filter f).length:=List.length_filter_le _ _
    rcases Nat.lt_or_ge (vT D (po.filter f)).length (po.filter f).length with h1 | h1
    ·exact h1
    ·exact absurd (List.filter_sublist.eq_of_length (Nat.le_antisymm hle h1)) WQ
   rw [E1,e]
   exact DD n po _ hS (by rw [← e];omega)
structure YN (po:List Po) (D:List ByteArray) (f:Po→Bool):Prop where
 sw:Sw po D f
 us:∀ p∈po,f p=true→p.ou∈D∨∃ q∈po,f q=true∧q.lv=p.lv∧q.ip=p.ou
theorem DE (D:List ByteArray) (po:List Po):∃ g,YN po D g∧Ae D po=po.filter g:=by
 obtain ⟨g,h1,h2,h3⟩:=DD (D:=D) po.length po (fun _=>true) ⟨fun _ _ _=>rfl,fun _ _ _ _ _ _ _=>rfl⟩ (List.length_filter_le _ _)
 rw [List.filter_eq_self.2 fun _ _=>rfl] at h2
 refine ⟨g,⟨h1,fun p hp hg=>?_⟩,h2⟩
 have hm:p∈vT D (po.filter g):=by rw [h3];exact List.mem_filter.2 ⟨hp,hg⟩
 have:=(List.mem_filter.1 hm).2
 rw [Bool.or_eq_true,fb,List.any_eq_true] at this
 rcases this with h | ⟨q,hq,e⟩
 ·exact .inl h
 ·rw [Bool.and_eq_true,decide_eq_true_eq,decide_eq_true_eq] at e
  obtain ⟨a,b⟩:=List.mem_filter.1 hq
  exact .inr ⟨q,a,b,e.1,e.2⟩
structure Ny (r:Ro) (po:List Po):Prop where
 one:se po
 out:∀ p∈po,p.ou∈ct r∨p.ou∈cQ r
 v8:∀ p∈po,p.ip∈cm r∨p.ip∈cQ r
 C7:∀ v,¬ ∃ t∈cQ r,t∈eQ po v ((cQ r).length+1) t
theorem iR.acy {r:Ro} {po:List Po} (h:iR r po):Ny r po:=⟨iR.one h.qv,h.out,h.v8,h.C7⟩
theorem Ny.sub {r:Ro} {po:List Po} (h:Ny r po) (f:Po→Bool):Ny r (po.filter f):=by
 have hs:∀ p∈po.filter f,p∈po:=fun p hp=>(List.mem_filter.1 hp).1
 exact ⟨h.one.filter f,fun p hp=>h.out p (hs p hp),fun p hp=>h.v8 p (hs p hp),fun v ⟨t,ht,hc⟩=>h.C7 v ⟨t,ht,zw h.one hs hc⟩⟩
theorem Ny.short {r:Ro} (hn:pA r) {po:List Po} (h:Ny r po):∀ v o m,(cQ r).length+1≤m→eQ po v m o=eQ po v ((cQ r).length+1) o:=fun v o m hm=>
 oV (T:=cQ r) (iR.tie hn h.out h.v8) (h.C7 v) o hm
theorem Ny.tid {r:Ro} (hn:pA r) {po:List Po} (h:Ny r po) {f:Po→Bool} (hf:YN po (ct r) f):po.filter f=Ae (ct r) po:=by
 obtain ⟨g,hg,e⟩:=DE (ct r) po
 rw [e]
 exact LS h.one (h.short hn) hf.sw.de hf.sw.up hf.us hg.sw.de hg.sw.up hg.us
def Tk.at (t:Tk) (k:Nat):ByteArray:=t.so.getD k ⟨#[]⟩
def Tk.zero:Tk:=⟨⟨#[]⟩,[]⟩
def np (r:Ro) (t:Tk) (k:Nat):Bool:=!decide (t.at k=⟨#[]⟩)&&!decide (t.at k=jB r (k:Nat) t.de)
def nh (r:Ro) (t:Tk):Nat→List Po→List Po
 | 0,po=>po
 | k+1,po=>if np r t k then (nh r t k po).filter (fun x=>!xq (k:Nat) t.de x) else nh r t k po
def jT (r:Ro) (l:List Tk):Nat→List Po
 | 0=>r.po
 | i+1=>nh r (l.getD i Tk.zero) (l.getD i Tk.zero).so.length (jT r l i)
def dash:ByteArray:=⟨#[45]⟩
def nR (r:Ro) (t:Tk) (k:Nat):Bool:=np r t k&&!decide (t.at k=dash)
def o6 (r:Ro) (t:Tk):Nat→List Po→Option (List Po)
 | 0,po=>some po
 | k+1,po=>(o6 r t k po).bind fun q=>if nR r t k then (qn (r.wp q) (k:Nat) (t.at k) t.de).map fun p=>k9 r q (k:Nat) (t.at k) p t.de else some q
def jv (r:Ro) (l:List Tk) (po:List Po):Nat→Option (List Po)
 | 0=>some po
 | i+1=>(jv r l po i).bind (o6 r (l.getD i Tk.zero) (l.getD i Tk.zero).so.length)
theorem E5 {r:Ro} {t:Tk} {po:List Po} {k:Nat} (h:o6 r t k po=none):∀ {m},k≤m→o6 r t m po=none:=by
 intro m hm
 induction hm with
 | refl=>exact h
 | step _ ih=>rw [o6,ih];rfl
theorem wZ {r:Ro} {l:List Tk} {po:List Po} {k:Nat} (h:jv r l po k=none):∀ {m},k≤m→jv r l po m=none:=by
 intro m hm
 induction hm with
 | refl=>exact h
 | step _ ih=>rw [jv,ih];rfl
def Ha (r:Ro) (l:List Tk) (po:List Po):Nat:=((List.range l.length).find? fun i=>(jv r l po (i+1)).isNone).getD 0
theorem Lw {r:Ro} {l:List Tk} {po:List Po} {i:Nat} (hi:i<l.length) {q:List Po} (h1:jv r l po i=some q) (h2:jv r l po (i+1)=none):Ha r l po=i:=by
 unfold Ha
 have:(List.range l.length).find? (fun i=>(jv r l po (i+1)).isNone)=some i:=by
  rw [List.find?_eq_some_iff_append]
  refine ⟨by rw [h2];rfl,List.range i,(List.range (l.length-i-1)).map (fun x=>x+i+1),?_,fun j hj=>?_⟩
  ·apply List.ext_getElem
   ·simp;omega
   ·intro n a b
    rw [List.getElem_range]
    rcases Nat.lt_trichotomy n i with c | c | c
    ·rw [List.getElem_append_left (by simpa using c)];simp
    ·subst c;rw [List.getElem_append_right (by simp)];simp
    ·rw [List.getElem_append_right (by simp;omega)]
     simp only [List.length_range]
     obtain ⟨d,hd⟩:∃ d,n-i=d+1:=⟨n-i-1,by omega⟩
     simp only [hd,List.getElem_cons_succ,List.getElem_map,List.getElem_range]
     omega
  ·have hj:=List.mem_range.1 hj
   cases hn:jv r l po (j+1) with
   | some _=>rfl
   | none=>rw [wZ hn (show j+1≤i by omega)] at h1;cases h1
 rw [this];rfl
def sy (r:Ro) (l:List Tk):Int:=gK (fun t=>(r.de.getD (bu (ct r) t.de).toNat ⟨⟨#[]⟩,0,false⟩).pr) l
def Ro.nil:Ro:=⟨0,0,[],[],[],[]⟩
def lb (r:Ro) (l:List Tk):Ro×Int×Int:=
 if 0≤sy r l then (Ro.nil,sy r l,31) else
 match jv r l (Ae (ct r) (jT r l l.length)) l.length with
 | none=>(Ro.nil,(Ha r l (Ae (ct r) (jT r l l.length)):Nat),18)
 | some po=>(r.wp po,0,0)
structure Ki (r:Ro) (l:List Tk):Prop where
 de:∀ t∈l,t.de∈ct r
 nd:(l.map Tk.de).Nodup
 lv:∀ t∈l,(t.so.length:Int)=r.lv
 so:∀ t∈l,∀ s∈t.so,s=⟨#[]⟩∨s=dash∨s∈cm r
 C3:l.length≤8
theorem Ki.wp {r:Ro} {l:List Tk} (h:Ki r l) (q:List Po):Ki (r.wp q) l:=⟨h.de,h.nd,h.lv,h.so,h.C3⟩
def MV (r:Ro) (t:Tk) (k:Nat) (p:Po):Bool:=(List.range k).any fun i=>np r t i&&xq (i:Nat) t.de p
theorem mS (r:Ro) (t:Tk):∀ (k:Nat) (po:List Po),nh r t k po=po.filter fun p=>!MV r t k p
 | 0,po=>by rw [nh,List.filter_eq_self.2 fun p _=>by simp [MV]]
 | k + 1, po => by
  rw [nh,mS r t k po]
  have e:∀ p,MV r t (k+1) p=(MV r t k p||(np r t k&&xq (k:Nat) t.de p)):=fun p=>by
   unfold MV;rw [List.range_succ,List.any_append];simp
  split
  ·rename_i h
   rw [List.filter_filter]
   refine List.filter_congr fun p _=>?_
   rw [e,h,Bool.true_and,Bool.not_or,Bool.and_comm]
  ·rename_i h
   refine List.filter_congr fun p _=>?_
   rw [e,Bool.eq_false_iff.2 h,Bool.false_and,Bool.or_false]
def IL (r:Ro) (l:List Tk) (i:Nat) (p:Po):Bool:=(List.range i).any fun j=>MV r (l.getD j Tk.zero) (l.getD j Tk.zero).so.length p
theorem kr (r:Ro) (l:List Tk):∀ i,jT r l i=r.po.filter fun p=>!IL r l i p
 | 0=>by rw [jT,List.filter_eq_self.2 fun p _=>by simp [IL]]
 | i + 1 => by
  rw [jT,mS,kr r l i,List.filter_filter]
  refine List.filter_congr fun p _=>?_
  have e:IL r l (i+1) p=(IL r l i p||MV r (l.getD i Tk.zero) (l.getD i Tk.zero).so.length p):=by
   unfold IL;rw [List.range_succ,List.any_append];simp
  rw [e,Bool.not_or,Bool.and_comm]
theorem Ey {r:Ro} {t:Tk} {k:Nat} {p:Po}:MV r t k p=true↔∃ i,i<k∧np r t i=true∧p.lv=(i:Nat)∧p.ou=t.de:=by
 unfold MV xq
 simp [List.any_eq_true]
theorem MW {r:Ro} {l:List Tk} {p:Po}:IL r l l.length p=true↔∃ t∈l,∃ i,i<t.so.length∧np r t i=true∧p.lv=(i:Nat)∧p.ou=t.de:=by
 unfold IL
 rw [List.any_eq_true]
 constructor
 ·rintro ⟨j,hj,h⟩
  have hj:=List.mem_range.1 hj
  rw [List.getD_eq_getElem?_getD,Zc hj] at h
  exact ⟨l[j],Zj hj,Ey.1 h⟩
 ·rintro ⟨t,ht,h⟩
  obtain ⟨j,hj,rfl⟩:=List.getElem_of_mem ht
  refine ⟨j,List.mem_range.2 hj,?_⟩
  rw [List.getD_eq_getElem?_getD,Zc hj]
  exact Ey.2 h
end Go.Proofs.A1
