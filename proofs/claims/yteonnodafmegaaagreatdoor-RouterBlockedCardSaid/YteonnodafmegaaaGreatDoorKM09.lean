/- Parts of the proof: KN KO KP KQ KR KS KT KU KW KX KYq P5p P5q P5r. -/
import Derived.Test.YteonnodafmegaaaGreatDoorKM08
import Derived.Test.YteonnodafmegaaaGreatDoorKM04
import Derived.Test.YteonnodafmegaaaGreatDoorKM03
import Derived.Shelf.Slices.In.SortNone
import Derived.Test.YteonnodafmegaaaGreatDoorKM02
import Derived.Test.YteonnodafmegaaaGreatDoorKM05
import Derived.Test.YteonnodafmegaaaGreatDoorKM07
import Derived.Test.YteonnodafmegaaaGreatDoorKM01
set_option linter.unusedSectionVars false
set_option linter.unusedVariables false
set_option linter.unusedSimpArgs false
namespace Go.Proofs.A1
open Go Go.SL
open Tryz
open Tryz renaming prog->T_
theorem NV (l:List Int):∀ r∈ints l,r.length=1:=fun r hr=>by obtain ⟨x,_,rfl⟩:=Zw.1 hr;rfl
theorem jF {c:Cx} {hs hs':List bh} {w:World} {l:List Int} {E:TypeId} {v:Value} {n:Nat} (hm:Mem c hs w) (ht:Take hs (row E 1 v n (l.map (Value.int .i64))) hs') (hn:l.length=n):Rd w v 1 (ints l):=hm.qm ht (sV l) (NV l) (by rw [cU,hn])
set_option maxHeartbeats 1000000 in
theorem Fl {r:Ro} {s d t p:Value} (v:Int) (so:ByteArray) {w:World} (h:RR w r s d t p) (cJ:r.ti.length<=1000) (RX:so∈cz r) :
  bB T_ 152 [RA r s d t p,.q v,.string so] w [] (fun _:Value=>True) id (fun x=>[row 3 1 x (gM r v so r.ti.length).length ((gM r v so r.ti.length).map (Value.int .i64))]):=by
 obtain ⟨h1,h2,h3,h4⟩:=h.one;have hti:=h.ti;obtain ⟨a,cp,b,o',rfl,dD,cr,ha,hc⟩:=hti;have GY:=h.sr;obtain ⟨a2,l9,b2,o2,rfl,kp,fh,js,jT⟩:=GY;rw [bU] at *;rw [cy] at *;unfold maxLen at cr fh;obtain ⟨i0,uX⟩:∃ i:Nat,br (cz r) so=(i:Nat):=⟨(br (cz r) so).toNat,by have:=cF RX;omega⟩;have Eo:i0<r.sr.length:=by
  obtain ⟨hl,_⟩:=ei (l:=cz r) (s:=so) (by omega);rw [uX,Zy] at hl;unfold cz at hl;rwa [Zd] at hl
 have xT:mJ r so=(r.sr[i0]).mx:=by unfold mJ;rw [uX,Zy,Zk,Zc Eo];rfl
 have hsrc:∀ w',aH [] w w'->ao T_ 180 [.agg #[.q r.lv,.q r.ma,.slice a2 r.sr.length l9,d,.slice a r.ti.length cp,p],.string so] w' (.q (i0:Nat)):=fun w' hk=>uX ▸ mI so (h.keeps hk)
 have rX:=js (gW Eo);have eF:=(jT i0 _ (fG Eo)).2;unfold Sr.cells at eF;have PF:=eF 1 _ I;unfold RA;refine aV func152 I I ?_;refine Jr<|Jy I I fun _ _=>Ja I<|Jn<|Jq ?_;rename_i b3 uY
 with_reducible refine cS 9 (by kernel_rfl) ?_
 (refine ar k9 I<|ar (ic .here) I<|ar (cN .here) I<|ar kL I<|aZ bo I (fun w' az=>(hsrc w' (Mem.keeps az)))<|ar (aC (.of I) (.of I) rX (by omega) (by omega) bu) I<|ar k9 I<|ar (ag (.of I) (At.base PF I)) I<|eA (aB (.o I .nil) I I I I) I I ?_)
 with_reducible refine dz I fun bq lN=>?_
 rw [<- xT]
 (refine Ja I<|Jn<|Jq<|Jr<|bN I I ae<|JL I (.there .here) I<|JI I<|Jv I<|Jn<|J0 ?_)
 refine bR (g:=bq) (E:=3) (ys:=[.q (mJ r so)]) 1 1 (by exact .here) I I I ?_
 refine bd (ι:=Nat×Value) (fun x=>x.1<=r.ti.length) (fun x=>[(22,.q (x.1:Nat)),(21,.q (r.ti.length:Nat)),(20,.slice a r.ti.length cp),(7,x.2),(3,.p b3),(1,.q v),(2,.string so)])
  (fun x=>[row 3 1 x.2 (gM r v so x.1).length ((gM r v so x.1).map (Value.int .i64)),JP b3 r (.slice a2 r.sr.length l9) d (.slice a r.ti.length cp) p]) (fun x=>r.ti.length-x.1) ?_ ?_
 ·apply aJ (0,.w bq 1 1) (Zi _)
  case hs1=>exact cB
  case ht=>
   exact .h2 .nil
 rintro ⟨k,ov⟩ hk;dsimp only at hk ⊢;have XX:=B3 r v so k;by_cases aN:k<r.ti.length
 ·have c8:=ha (eV aN);have aG:=(hc k _ (ed aN)).2;unfold Ti.cells at aG;have oT:=iG aN;have uV:eY r k=(r.ti[k]).nm:=by unfold eY;rw [oT]
  have XV:gM r v so (k+1)=if xE r v so k&&!(gM r v so k).contains (r.ti[k]).to then gM r v so k++[(r.ti[k]).to] else gM r v so k:=by rw [gM,oT]
  generalize hL:gM r v so k=L at XX XV ⊢;have Et:L.length=L.length:=rfl;have wI:∀ w',aH [] w w'->ao T_ 121 [.agg #[.q r.lv,.q r.ma,.slice a2 r.sr.length l9,d,.slice a r.ti.length cp,p],.q v,.string (r.ti[k]).nm] w' (.bool (ib r.po v (r.ti[k]).nm)):=fun w' hk=>ph v _ (h.keeps hk)
  have wH:∀ w',aH [] w w'->ao T_ 126 [.agg #[.q r.lv,.q r.ma,.slice a2 r.sr.length l9,d,.slice a r.ti.length cp,p],.q v,.string (r.ti[k]).nm] w' (.string (kN r v (r.ti[k]).nm)):=fun w' hk=>mX v _ (h.keeps hk) (by omega)
  have KX:∀ (w':World),Rd w' ov 1 (ints L)->ao T_ 154 [ov,.q (r.ti[k]).to] w' (.bool (L.contains (r.ti[k]).to)):=fun w' hr=>lE _ hr
  have skip:(xE r v so k&&!L.contains (r.ti[k]).to)=false->gM r v so (k+1)=L:=fun e=>by rw [XV,e];rfl
  cases sB:ib r.po v (r.ti[k]).nm with
  | false =>
   have tW:∀ w',aH [] w w'->ao T_ 121 [.agg #[.q r.lv,.q r.ma,.slice a2 r.sr.length l9,d,.slice a r.ti.length cp,p],.q v,.string (r.ti[k]).nm] w' (.bool false):=fun w' hk=>sB ▸ wI w' hk
   have Uz:=skip (by unfold xE;rw [uV,sB];rfl)
   (refine Jr<|JA I<|Jn<|Jq<|Jd I fun aA=>Jk<|Jq<|J0<|Jr<|ab (gr c8 aA) I<|ab (iD (eO.base aG I)) I<|Jz I I fun _ _=>aq (.of I) (.of I) .here I I (fc I I I) (bF I) an<|Ji<|ab (cN bO) I<|Jv I<|bN I I ae<|JL I .here I<|aj ek I (fun w' az=>(tW w' (Mem.keeps az)))<|Jv I<|au I I (fun hg bG=>(bL (.of I) bO an (by rfl))) I<|gy I I I I<|au I I (fun hg bG=>(ai (.of I) ae)) I<|au I I (fun hg bG=>(ag (.bX bG I) (At.lit .here I))) I<|cK I I I I<|gy I I I I<|cK I I I I<|ab (bM (.of I) (.of I) (.of I) I) I<|Jv I<|gy I I I I<|au I I (fun hg bG=>(ai (.of I) ae)) I<|au I I (fun hg bG=>(ag (.bX bG I) (At.lit .here I))) I<|cK I I I I<|au I I (fun hg bG=>(fC (.bX bG I))) I<|ab (bM (.of I) (.of I) (.of I) I) I<|Jn<|bJ (.of I)<|Jw<|Jj<|Jt<|Jg<|JB I (by omega)<|Jv I<|Jn ?_)
   apply aI (k+1,ov) (show k+1<=r.ti.length by omega) (show r.ti.length-(k+1)<r.ti.length-k by omega)
   case hs1=>exact cB
   case ht=>
    rw [Uz];exact .cons (.there .here) (.cons (.there .here) .nil)
  | true =>
   have tW:∀ w',aH [] w w'->ao T_ 121 [.agg #[.q r.lv,.q r.ma,.slice a2 r.sr.length l9,d,.slice a r.ti.length cp,p],.q v,.string (r.ti[k]).nm] w' (.bool true):=fun w' hk=>sB ▸ wI w' hk
   by_cases rN:kN r v (r.ti[k]).nm=so
   ·cases G8:L.contains (r.ti[k]).to with
    | true =>
     have On:∀ (w':World),Rd w' ov 1 (ints L)->ao T_ 154 [ov,.q (r.ti[k]).to] w' (.bool true):=fun w' hr=>G8 ▸ KX w' hr
     have Uz:=skip (by rw [G8,Bool.not_true,Zbv])
     (refine Jr<|JA I<|Jn<|Jq<|Jd I fun aA=>Jk<|Jq<|J0<|Jr<|ab (gr c8 aA) I<|ab (iD (eO.base aG I)) I<|Jz I I fun _ _=>aq (.of I) (.of I) .here I I (fc I I I) (bF I) an<|Ji<|ab (cN bO) I<|Jv I<|bN I I ae<|JL I .here I<|aj ek I (fun w' az=>(tW w' (Mem.keeps az)))<|Jv I<|JK I I<|ab (cN bO) I<|JK I I<|Jv I<|JK I I<|bN I I ae<|JK I I<|JL I .here I<|JK I I<|aj ek I (fun w' az=>(wH w' (Mem.keeps az)))<|JK I I<|Jv I<|JK I I<|ab (rh (.of I) (.of I) rN) I<|ab (cP (.of I) (.of I) (.of I) I) I<|Jv I<|JK I I<|Jv I<|JK I I<|bN I I ae<|JK I I<|JL I .here I<|JK I I<|aj bo I (fun w' az=>(On w' (jF az (.there .here) Et)))<|JK I I<|JH I<|ab (bM (.of I) (.of I) (.of I) I) I<|Jn<|bJ (.of I)<|Jw<|Jj<|Jt<|Jg<|JB I (by omega)<|Jv I<|Jn ?_)
     apply aI (k+1,ov) (show k+1<=r.ti.length by omega) (show r.ti.length-(k+1)<r.ti.length-k by omega)
     case hs1=>exact cB
     case ht=>
      rw [Uz];exact .cons (.there .here) (.cons (.there .here) .nil)
    | false =>
     have On:∀ (w':World),Rd w' ov 1 (ints L)->ao T_ 154 [ov,.q (r.ti[k]).to] w' (.bool false):=fun w' hr=>G8 ▸ KX w' hr
     have nG:gM r v so (k+1)=L++[(r.ti[k]).to]:=by rw [XV,G8];unfold xE;rw [uV,sB,decide_eq_true rN];rfl
     have Of:(L.map (Value.int .i64)).length=L.length*1:=by rw [Zd,Zas]
     (refine Jr<|JA I<|Jn<|Jq<|Jd I fun aA=>Jk<|Jq<|J0<|Jr<|ab (gr c8 aA) I<|ab (iD (eO.base aG I)) I<|Jz I I fun _ _=>aq (.of I) (.of I) .here I I (fc I I I) (bF I) an<|Ji<|ab (cN bO) I<|Jv I<|bN I I ae<|JL I .here I<|aj ek I (fun w' az=>(tW w' (Mem.keeps az)))<|Jv I<|JK I I<|ab (cN bO) I<|JK I I<|Jv I<|JK I I<|bN I I ae<|JK I I<|JL I .here I<|JK I I<|aj ek I (fun w' az=>(wH w' (Mem.keeps az)))<|JK I I<|Jv I<|JK I I<|ab (rh (.of I) (.of I) rN) I<|ab (cP (.of I) (.of I) (.of I) I) I<|Jv I<|JK I I<|Jv I<|JK I I<|bN I I ae<|JK I I<|JL I .here I<|JK I I<|aj bo I (fun w' az=>(On w' (jF az (.there .here) Et)))<|JK I I<|JH I<|ab (cP (.of I) (.of I) (.of I) I) I<|Jn<|ch (.of I)<|Jg<|Jv I<|bN I I ae<|JL I .here I<|bn (aB (.o I .nil) I I I I) I fun _ _=>?_)
     refine bH (.of I) (.of I) bO .here an (by rfl) (dG I) (by rfl) (by rfl) (by rfl) eC (by rfl) ?_;intro v';refine Ja I<|Jx<|Jj<|Jt<|Jg<|JB I (by omega)<|Jv I<|Jn ?_;apply aI (k+1,v') (show k+1<=r.ti.length by omega) (show r.ti.length-(k+1)<r.ti.length-k by omega)
     case hs1=>exact cB
     case ht=>
      rw [nG,Zg,Zz];exact .h1 (.cons bO .nil)
   ·have Uz:=skip (by unfold xE;rw [uV,sB,decide_eq_false rN];rfl)
    (refine Jr<|JA I<|Jn<|Jq<|Jd I fun aA=>Jk<|Jq<|J0<|Jr<|ab (gr c8 aA) I<|ab (iD (eO.base aG I)) I<|Jz I I fun _ _=>aq (.of I) (.of I) .here I I (fc I I I) (bF I) an<|Ji<|ab (cN bO) I<|Jv I<|bN I I ae<|JL I .here I<|aj ek I (fun w' az=>(tW w' (Mem.keeps az)))<|Jv I<|JK I I<|ab (cN bO) I<|JK I I<|Jv I<|JK I I<|bN I I ae<|JK I I<|JL I .here I<|JK I I<|aj ek I (fun w' az=>(wH w' (Mem.keeps az)))<|JK I I<|Jv I<|JK I I<|ab (vA (.of I) (.of I) rN) I<|ab (bM (.of I) (.of I) (.of I) I) I<|Jv I<|gy I I I I<|au I I (fun hg bG=>(ai (.of I) ae)) I<|au I I (fun hg bG=>(ag (.bX bG I) (At.lit .here I))) I<|cK I I I I<|au I I (fun hg bG=>(fC (.bX bG I))) I<|ab (bM (.of I) (.of I) (.of I) I) I<|Jn<|bJ (.of I)<|Jw<|Jj<|Jt<|Jg<|JB I (by omega)<|Jv I<|Jn ?_)
    apply aI (k+1,ov) (show k+1<=r.ti.length by omega) (show r.ti.length-(k+1)<r.ti.length-k by omega)
    case hs1=>exact cB
    case ht=>
     rw [Uz];exact .cons (.there .here) (.cons (.there .here) .nil)
 ·obtain rfl:k=r.ti.length:=by omega
  refine Jr<|JA I<|Jn<|Jq<|Jc I fun aA=>Jp<|Jl<|Jo<|Jt<|Jr<|Jv I<|Ja I<|Jn<|Je ?_
  with_reducible first|apply aP|apply aQ
  case he=>exact dS I I
  case hR=>
   intro w' az;exact aF ov trivial (by exact .h1 .nil) az I
end Go.Proofs.A1
namespace Go.Proofs.A1
open Go Go.SL Go.Shelf Go.RowKit
open Tryz
open Tryz renaming prog->T_
def qZ (l:List Int):List Int:=l.mergeSort fun x y=>decide (x<=y)
theorem q7 (l:List Int):(qZ l).length=l.length:=List.length_mergeSort _
theorem Ic (l:List Int):List.Perm (qZ l) l:=List.mergeSort_perm _ _
theorem M6 (l:List Int):(qZ l).Pairwise (·<=·):=by
 have:=List.pairwise_mergeSort (le:=fun x y:Int=>decide (x<=y)) (fun a b c h1 h2=>by simp at *;omega) (fun a b=>by simp;omega) l
 exact this.imp fun h=>by simpa using h
theorem IM {α:Type} [Inhabited α] {enc:α->Value} {w:World} {g n:Nat} {os:Array Obj} {cur:Array Value} {e:TypeId} {fr:Nat×Nat} (d:Array α) (hb:w.heap[g]? = some (.cells cur e fr)) :
  (Go.Sort.grow (Go.Sort.putRow enc (Go.Sort.ahead w n) g 0 d) os).heap[g]? = some (.cells (Go.Sort.putCells enc 0 d cur) e fr):=by
 have hg:g<w.heap.size:=(Z0.1 hb).1;rw [Go.Sort.heap_grow_old _ _ (by simpa using hg)];simp [Go.Sort.putRow,Go.Sort.mapBlock,Go.Sort.ahead,Zbi,hb,Go.Sort.onCells]
theorem GL {α:Type} [Inhabited α] {enc:α->Value} {w:World} {g n:Nat} {os:Array Obj} (d:Array α):aH [g] w (Go.Sort.grow (Go.Sort.putRow enc (Go.Sort.ahead w n) g 0 d) os):=by
 refine ⟨I,I,I,Nat.le_add_right _ _,by simp,fun k hk hne=>?_⟩;rw [Go.Sort.heap_grow_old _ _ (by simpa using hk)];have:g≠k:=fun e=>hne (by rw [e];simp)
 simp [Go.Sort.putRow,Go.Sort.mapBlock,Go.Sort.ahead,Zbi,this]
theorem H8 {α:Type} [Inhabited α] {enc:α->Value} (cur:Array Value) (ts:List α) (h:ts.length<=cur.size):(Go.Sort.putCells enc 0 ts.toArray cur).toList.take ts.length=ts.map enc:=by
 apply Zat;intro j;by_cases hj:j<ts.length
 ·rw [List.getElem?_take_of_lt hj,ZaG];simp [Go.Sort.putCells,hj,show j<cur.size by omega]
 ·rw [List.getElem?_take_eq_none (by omega),Zaa (by simp;omega)]
variable {L L':List Int} {i:Nat} {l:List Int} {m:Int} {r:Ro} {so:ByteArray} {v:Int} {w:World}
theorem El {g:Nat} {cur:Array Value} {e:TypeId} (hb:w.heap[g]? = some (.cells cur e (0,0))) (ht:cur.toList.take l.length=l.map (Value.int .i64)):Go.Sort.Holds (Value.int .i64) w g 0 l.toArray:=by
 intro j hj;have nh:j<l.length:=by simpa using hj
 refine ⟨?_,by simp [World.frozen?,hb]⟩;have h1:(cur.toList.take l.length)[j]? = (l.map (Value.int .i64))[j]?:=by rw [ht]
 rw [List.getElem?_take_of_lt nh] at h1;simp only [World.cell?,hb,ZE];simp only [Option.isSome_none,ZaW,if_false];rw [ZaG] at h1;rw [h1];simp [nh]
theorem QJ {v:Value} {n:Nat} {fp:List Nat} (hn:n=l.length) (hl:n<=1000000) (hs:cA (hp w) [row 3 1 v n (l.map (Value.int .i64))] fp) :
  bB T_ 156 [v] w fp (fun _:Unit=>True) (fun _=>.tuple #[]) (fun _=>[row 3 1 v n ((qZ l).map (Value.int .i64))]):=by
 obtain ⟨f1,f2,rfl,h1,h2⟩:=hs;obtain rfl:f2=[]:=h2;obtain ⟨rfl,hlen,h1⟩:=h1;rw [ZQ];rcases h1 with ⟨rfl,h0⟩ | ⟨g,cap,cur,rfl,hg,kM,jT,qe,AS⟩
 ·have oo:l=[]:=Z4 (by omega);refine (Any.slices_Sort_int_none Tryz.FA none 0 w).mono fun e w' ⟨he,hw⟩=>?_;subst hw;refine ⟨(),he,trivial,.refl _ _,[],Zah,⟨[],[],I,⟨I,?_,.inl ⟨I,h0⟩⟩,I⟩,by simp⟩;rw [Zd,q7];omega
 ·rw [Zas] at qe AS;have Sh:g<w.heap.size:=(Z0.1 hg).1;subst hn;refine (slices_Sort_int g 0 cap l w (El hg AS) Sh (by omega)).mono fun e w' ⟨he,m,os,hw⟩=>?_;subst hw;refine ⟨(),he,trivial,GL _,[g],by simp,⟨[g],[],I,⟨I,?_,.inr ⟨g,cap,_,I,IM _ hg,kM,jT,?_,?_⟩⟩,I⟩,by simp [Value.ownBlock]⟩
  ·rw [Zd,q7];omega
  ·simp [Go.Sort.putCells,qe]
  ·rw [Zas];have:=H8 (enc:=Value.int .i64) cur (qZ l) (by rw [q7];omega);rw [q7] at this;exact this
def A4 (r:Ro) (v:Int) (so de:ByteArray):Int:=if kP r v so de≠0 then kP r v so de else if Hv r v so (gQ r de) then 24 else 0
def wU (r:Ro) (v:Int) (so de:ByteArray):List Int:=if kP r v so de≠0 then [] else if Hv r v so (gQ r de) then [] else o9 r v so
theorem TU (h:i<L.length) (cur:List Value):(L.map (Value.int .i64)++cur)[i*1]? = some (.q L[i]):=by
 rw [Zas,ZG (by rw [Zd];exact h),ZJ,Zc h];rfl
structure xr (r:Ro) (v:Int) (so:ByteArray) (L:List Int) (m:Int) (L':List Int) (k:Nat):Prop where
 pre:L <+: L'
 nd:L'.Nodup
 rc:∀ x∈L',(eh r r.po v so).Rc x
 dn:∀ j,j<k->∀ t,(fH r v m r.ti.length)[j]? = some t->(fM r t).to∈L'
theorem xr.Ez (dw:qX r) {v:Int} {so:ByteArray} (hs:so∈cz r) {L L':List Int} {m:Int} {k:Nat} (h:xr r v so L m L' k):L'.length<=4:=by
 have hl:=dw.lim;refine FD h.nd fun x hx=>?_;have:=rm dw hs (h.rc x hx);omega
theorem xr.stay {k t:Nat} (h:xr r v so L m L' k) (ht:(fH r v m r.ti.length)[k]? = some t) (hc:(fM r t).to∈L'):xr r v so L m L' (k+1):=by
 refine ⟨h.pre,h.nd,h.rc,fun j hj t' GW=>?_⟩;by_cases e:j=k
 ·subst e;rw [ht] at GW;cases GW;exact hc
 ·exact h.dn j (by omega) t' GW
theorem xr.add {k t:Nat} (h:xr r v so L m L' k) (hm:m∈L) (ht:(fH r v m r.ti.length)[k]? = some t) (hc:¬ (fM r t).to∈L'):xr r v so L m (L'++[(fM r t).to]) (k+1):=by
 have jS:=ZV ht;unfold fH at jS;rw [ZA,ZU,qK v so,Zm,decide_eq_true_eq] at jS;have X0:(eh r r.po v so).Rc (fM r t).to:=Wn.Rc.fe (N:=eh r r.po v so) jS.1 jS.2.2 (by rw [jS.2.1];exact h.rc m (h.pre.subset hm));have h2:xr r v so L m (L'++[(fM r t).to]) k:=by
  refine ⟨h.pre.trans (ZaL _ _),?_,fun x hx=>?_,fun j hj t' GW=>ZD _ (h.dn j hj t' GW)⟩
  ·rw [Zx];refine ⟨h.nd,by simp,fun a ha b hb e=>?_⟩;rw [ZB] at hb;subst hb;subst e;exact hc ha
  ·rcases Zq.1 hx with hx | hx
   ·exact h.rc x hx
   ·rw [ZB.1 hx];exact X0
 exact h2.stay ht (by simp)
theorem xu.next (h:xu r v so L i) (hi:L[i]? = some m) (hJ:xr r v so L m L' (fH r v m r.ti.length).length):xu r v so L' (i+1)/\i+1<=L'.length:=by
 have iY:=(Zl.1 hi).1;have Bq:=hJ.pre.length_le;refine ⟨⟨hJ.nd,hJ.rc,fun x hx=>hJ.pre.subset (h.rt x hx),fun j x hj hx t ht hf=>?_⟩,by omega⟩;have RJ:L[j]? = some x:=by
  rw [<- hx];obtain ⟨q,rfl⟩:=hJ.pre;rw [ZG (by omega)]
 by_cases e:j=i
 ·subst e;rw [hi] at RJ;cases RJ;have hm:t∈fH r v m r.ti.length:=by unfold fH;exact ZA.2 ⟨ZU.2 ht,hf⟩
  obtain ⟨q,hq,e⟩:=Zu hm;exact hJ.dn q hq t (by rw [Zc hq,e])
 ·exact hJ.pre.subset (h.dn j x (by omega) RJ t ht hf)
set_option maxHeartbeats 2000000 in
theorem Wk {s d t p:Value} (v:Int) (so de:ByteArray) {w:World} (h:RR w r s d t p) (cJ:me r):bB T_ 36 [RA r s d t p,.q v,.string so,.string de] w [] (fun _:Value=>True) (fun x=>.tuple #[x,.q (A4 r v so de)]) (fun x=>[row 3 1 x (wU r v so de).length ((wU r v so de).map (Value.int .i64))]):=by
 obtain ⟨h1,h2,h3,h4⟩:=h.one;have lp:=h.de;obtain ⟨a3,pb,b3,o3,rfl,mS,gi,sX,qe⟩:=lp;rw [bZ] at *;unfold maxLen at gi;unfold RA;refine aV func36 I I ?_
 (refine Jr<|Jy I I fun _ _=>Ja I<|Ja I<|Jn<|Jq<|Jr<|ab (cN .here) I<|Jv I<|Jv I<|Jv I ?_)
 rename_i b4 xB;refine aj uA I (fun w' az=>nL (s:=s) (d:=.slice a3 r.de.length pb) (t:=t) (p:=p) v so de (h.keeps az.keeps) cJ) ?_
 (refine Ja I<|Ji<|Jv I<|JD I<|Jn<|gR I (fun aA=>?_) fun aA=>?_;refine Jr<|Jv I<|Ja I<|Ja I<|Jn<|Ju ?_;rotate_left;refine Jk<|Jr<|ab (cN .here) I<|Jv I<|Jv I ?_;rotate_right)
 ·have e1:wU r v so de=[]:=if_pos aA;have e2:A4 r v so de=kP r v so de:=if_pos aA;rw [e1,e2];refine aR 3 1 ?_
  with_reducible first|apply aP|apply aQ
  case he=>exact gl I I I
  case hR=>
   intro w' az;exact aF (.z) trivial (by exact .h1 .nil) az I
 have e0:kP r v so de=0:=Zr.1 aA;obtain ⟨dw,hv,rO,fF⟩:=uD e0;have e1:wU r v so de=if Hv r v so (gQ r de) then [] else o9 r v so:=if_neg aA
 have e2:A4 r v so de=if Hv r v so (gQ r de) then 24 else 0:=if_neg aA
 clear aA;have ht6:=dw.len.2.2;obtain ⟨j0,wz⟩:∃ i:Nat,br (bY r) de=(i:Nat):=⟨(br (bY r) de).toNat,by have:=cF fF;omega⟩;have xW:j0<r.de.length:=by
  obtain ⟨hl,_⟩:=ei (l:=bY r) (s:=de) (by omega);rw [wz,Zy] at hl;unfold bY at hl;rwa [Zd] at hl
 have Om:gQ r de=(r.de[j0]).mx:=by unfold gQ;rw [wz,Zy,Zk,Zc xW];rfl
 have xZ:∀ w',aH [] w w'->ao T_ 155 [.agg #[.q r.lv,.q r.ma,s,.slice a3 r.de.length pb,t,p],.string de] w' (.q (j0:Nat)):=fun w' hk=>wz ▸ fw de (h.keeps hk)
 have CG:=sX (gI xW);have lq:=(qe j0 _ (fq xW)).2;unfold De.cells at lq;have ur:=lq 1 _ I;rw [e1,e2];refine JN ek I (fun w1 aY=>Fl (s:=s) (d:=.slice a3 r.de.length pb) (t:=t) (p:=p) v so (h.keeps aY.keeps) (by omega) rO) ?_;intro rv _;dsimp only [id_eq,Zb,Za];refine aT (by exact .here) fun ra rc_ e=>?_;subst e;have hC:=xu.begin (v:=v) dw rO;generalize gM r v so r.ti.length=L0 at hC ⊢
 (refine Jz I I fun _ _=>aq (.of I) (.of I) .here I I (dG I) (bF I) an<|Jn<|Jq<|Jr<|Ja I<|Jn<|J0 ?_)
 rename_i Qf Y7
 refine E2 (ι:=Nat×Value×List Int) (fun x=>xu r v so x.2.2 x.1/\x.1<=x.2.2.length) (fun x=>[(12,.q (x.1:Nat)),(11,.p Qf),(4,.p b4),(1,.q v),(2,.string so),(3,.string de)])
  (fun x=>[bA Qf (.cells #[x.2.1] 49 (0,0)),row 3 1 x.2.1 x.2.2.length (x.2.2.map (Value.int .i64)),JP b4 r s (.slice a3 r.de.length pb) t p]) (fun x=>4-x.1) ?_ ?_
 ·apply yx (0,.slice ra L0.length rc_,L0) ⟨hC,Zi _⟩
  case hs1=>exact cB
  case ht=>
   exact .h3 .nil
 rintro ⟨i,ov,L⟩ ⟨hC,hiL⟩ D;dsimp only at hC hiL ⊢;have h4L:=hC.Ez dw rO;have Et:L.length=L.length:=rfl;refine aT (by exact Take.there .here) fun oa oc e=>?_;subst e;by_cases aN:i<L.length
 ·refine Jq<|Jr<|Jv I<|JL I .here I<|JI I<|JA I<|Jn<|Jd I fun aA=>Jk<|Jq<|J0<|Jq ?_;refine dP (by exact Take.there .here) (by omega) fun g il cur e oX G1 Ei xV=>?_;cases e;have c1:=TU aN cur
  with_reducible refine eP 6 (by kernel_rfl) ?_
  (refine aM (cN bO) I ?_;refine mZ I I ?_;refine aM (ic (.there .here)) I ?_;refine mZ I I ?_;refine aM (aC (.of I) (.of I) I (by omega) aA bu) I ?_;refine aM (ag (.of I) (At.pj .here c1)) I ?_)
  with_reducible refine eU ?_
  refine dq (by exact .here) oX G1 Ei xV ?_
  with_reducible apply jt
  case hr=>exact ek
  case hd=>rfl
  case ht=>exact bK.nil
  case hc=>
   intro w1 fp aY _ hs1;obtain rfl:fp=[]:=hs1;exact sU (s:=s) (d:=.slice a3 r.de.length pb) (t:=t) (p:=p) v L[i] (h.keeps aY.keeps)
  intro y _;dsimp only [id_eq,Zb,Za];refine Jn<|J0 ?_;have CC:L[i]? = some L[i]:=Zc aN;have jS:L[i]∈L:=Zj aN;generalize L[i]=m at CC jS ⊢
  refine jn (ps:=[40,41]) (f:=240) (first:=[]) (cap:=[.pointer (some ⟨y.1,0,none⟩),.pointer (some ⟨y.2.1,0,none⟩),.pointer (some ⟨y.2.2,0,none⟩)]) (ι:=Value×List Int) (κ:=Empty)
   (rst:=[JP b4 r s (.slice a3 r.de.length pb) t p]) ?hg
   [JP y.1 r s (.slice a3 r.de.length pb) t p,bA y.2.1 (.cells #[.q m] 3 (0,0)),bA y.2.2 (.cells #[.q v] 3 (0,0))] (Mi r v m) ?hit
   (fun k x=>xr r v so L m x.2 k)
   (fun x=>[bA Qf (.cells #[x.1] 49 (0,0)),row 3 1 x.1 x.2.length (x.2.map (Value.int .i64))])
   (fun _=>False) (fun _=>[]) (fun _=>.ret) (.w g L.length oc,L) ⟨List.prefix_rfl,hC.nd,hC.rc,fun j hj=>absurd hj (ZW _)⟩ ?ht ?hlen ?hps ?round ?kn ?kj
  case hg=>exact Is.of I
  case hit=>intro w' az;exact J7 v m h RO.nil (by omega)
  case ht=>
   dsimp only [Zb,Za];exact .cons dF (.cons c6 (.h3 .nil))
  case hlen=>intro vs oS;obtain ⟨x,_,rfl⟩:=Zw.1 oS;rfl
  case hps=>intro t ht;simp only [ZO,Zo,or_false] at ht;rcases ht with rfl | rfl <;> exact Zax rfl
  case kj=>intro y;cases y
  case kn=>
   rintro ⟨Tg,L2⟩ D2 hJ;dsimp only [Zb,Za] at hJ ⊢;rw [uT] at hJ;obtain ⟨hC2,Yq⟩:=hC.next CC hJ;refine Jj<|Jj<|Jt<|Jg<|Jv I<|JB I (by omega)<|Ja I<|Jn ?_;apply BG (i+1,Tg,L2) ⟨hC2,Yq⟩ (show 4-(i+1)<4-i by omega)
   case hs1=>exact cB
   case ht=>
    exact .h2 (.cons c6 .nil)
  case round=>
   rintro l2 rc W2 VD k ⟨Tg,L2⟩ vs hsz hk hJ hB hF;dsimp only at hJ;obtain ⟨Pn,Ut,rfl,iY,WW⟩:=Ec hk;have abj:=hJ.Ez dw rO;have Et:L2.length=L2.length:=rfl;have Of:(L2.map (Value.int .i64)).length=L2.length*1:=by rw [Zd,Zas]
   have KX:∀ (w':World) (Tg:Value),Rd w' Tg 1 (ints L2)->ao T_ 154 [Tg,.q (fM r Pn).to] w' (.bool (L2.contains (fM r Pn).to)):=fun w' Tg hr=>lE _ hr
   dsimp only [Ti.cells,List.zip_cons_cons,List.zip_nil_right,ml,Zb,Za]
   (refine Jg<|Jz I I fun _ _=>aq (.of I) (.of I) .here I I (fc I I I) (bF I) an<|Jn ?_)
   with_reducible apply mF
   case ht=>exact Take.there .here
   refine aT (E:=3) (sz:=1) c6 fun va vc e=>?_;subst e
   (refine J0<|Jr<|JL I bO I<|bN I I ae<|JL I (.there .here) I ?_)
   cases G8:L2.contains (fM r Pn).to with
   | true =>
    have On:∀ (w':World),Rd w' (.slice va L2.length vc) 1 (ints L2)->ao T_ 154 [.slice va L2.length vc,.q (fM r Pn).to] w' (.bool true):=fun w' hr=>G8 ▸ KX w' _ hr
    (refine aj bo I (fun w' az=>(On w' (jF az c6 Et)))<|JH I<|Jn<|bJ (.of I)<|Jw<|Jj ?_)
    apply lU (.slice va L2.length vc,L2)
    case ht=>exact .here
    case hx=>exact hJ.stay Ut (ZaU.1 G8)
    case h2=>exact .cons (.there .here) (.cons (.there .here) .nil)
   | false =>
    have On:∀ (w':World),Rd w' (.slice va L2.length vc) 1 (ints L2)->ao T_ 154 [.slice va L2.length vc,.q (fM r Pn).to] w' (.bool false):=fun w' hr=>G8 ▸ KX w' _ hr
    (refine aj bo I (fun w' az=>(On w' (jF az c6 Et)))<|JH I<|Jn<|ch (.of I)<|Jg<|JL I bO I<|bN I I ae<|JL I (.there .here) I<|bn (aB (.o I .nil) I I I I) I fun _ _=>?_)
    refine bH (.of I) (.of I) dF .here an (by rfl) (dG I) (by rfl) (by rfl) (by rfl) eC (by rfl) ?_;intro v';refine aT (by exact .here) fun a' dL e=>?_;subst e
    (refine aq (.of I) (.of I) dF I I (dG I) (bF I) an<|Jx<|Jj ?_)
    apply lU (.slice a' (L2.length+1) dL,L2++[(fM r Pn).to])
    case ht=>exact c6
    case hx=>exact hJ.add jS Ut (fun hm=>by rw [ZaU.2 hm] at G8;cases G8)
    case h2=>
     show bK _ [bA Qf (.cells #[.slice a' (L2.length+1) dL] 49 (0,0)),row 3 1 (.slice a' (L2.length+1) dL) (L2++[(fM r Pn).to]).length ((L2++[(fM r Pn).to]).map (Value.int .i64))] _;rw [Zg,Zz];exact .h2 .nil
 ·obtain rfl:i=L.length:=by omega
  have oW:=hC.done dw rO;have hcb:L.contains (gQ r de)=Hv r v so (gQ r de):=by rw [ZaS,ZaU,oW,DY]
  have On:∀ (w':World),Rd w' (.slice oa L.length oc) 1 (ints L)->ao T_ 154 [.slice oa L.length oc,.q (r.de[j0]).mx] w' (.bool (Hv r v so (gQ r de))):=fun w' hr=>by
   rw [<- hcb,Om];exact lE _ hr
  refine Jq<|Jr<|Jv I<|JL I .here I<|JI I<|JA I<|Jn<|Jc I fun aA=>Jp<|Jl<|Jo<|Jt<|Jq<|Jq ?_
  with_reducible refine eP 10 (by kernel_rfl) ?_
  (refine aM (ic .here) I<|pZ I I ae<|aM (ic bO) I<|aM (cN bO) I<|mZ I I<|fQ bo I (fun w' az=>(xZ w' (Mem.keeps az)))<|aM (aC (.of I) (.of I) CG (by omega) (by omega) bu) I<|pZ I I ae<|aM (ag (.of I) (At.base ur I)) I<|fQ bo I (fun w' az=>(On w' (jF az (.there .here) Et))) ?_)
  with_reducible refine eU ?_
  cases hrb:Hv r v so (gQ r de) with
  | true =>
   (refine Jn<|ch (.of I)<|Jr<|Ja I<|Ja I<|Jn<|Ju ?_)
   refine aR 3 1 ?_
   with_reducible first|apply aP|apply aQ
   case he=>exact gl I I I
   case hR=>
    intro w' az;exact aF (.z) trivial (by exact .h1 .nil) az I
  | false =>
   (refine Jn<|bJ (.of I)<|Jk<|Jr<|JL I .here I ?_)
   with_reducible apply fW (As:=[row 3 1 (.slice oa L.length oc) L.length (L.map (Value.int .i64))])
   case hr=>exact bS
   case hd=>rfl
   case ht=>exact qv
   case hc=>
    intro w1 Bx aY wm hs1 Dm _;exact QJ I (by omega) hs1
   intro _ _;have N7:qZ L=o9 r v so:=Lp dw rO hC.nd oW (Ic L) (M6 L);have WM:(o9 r v so).length=L.length:=by rw [<- N7,q7]
   rw [N7];dsimp only [id_eq,Zb,Za];refine Ji<|JL I (.there .here) I<|Ja I<|Ja I<|Jn<|Je ?_
   with_reducible first|apply aP|apply aQ
   case he=>exact gl I I I
   case hR=>
    intro w' az;exact aF (.slice oa L.length oc) trivial (show bK _ [row 3 1 (.slice oa L.length oc) (o9 r v so).length ((o9 r v so).map (Value.int .i64))] _ by rw [WM];exact .h1 .nil) az I
end Go.Proofs.A1
namespace Go.Proofs.A1
open Go Go.SL
open Tryz
open Tryz renaming prog->T_
variable {L:List Int} {P:Program} {af:Array Edge} {b:Nat} {c:Cx} {cap:List Value} {cv:Value} {dst:Option Tmp} {f:FuncId} {first:List Value} {g:Option (Nat×Bool)} {hs:List bh} {k:Nat} {l:List (ByteArray×Value)} {lv:Value} {p:Int->Bool} {pos:String} {r:Ro} {sl:aD} {w:World} {x y:Operand}
theorem Ko {l:List Int} [bQ T_ f] {w:World} (h:Rd w lv 1 (ints l)) (cG:∀ x∈l,∀ w',aH [] w w'->ao T_ f (first++[.q x]++cap) w' (.bool (p x))) :
  ao T_ 247 [lv,.func (.func f) first.toArray cap.toArray] w (.q (gH p l)):=by
 obtain ⟨a,cp,b,o,rfl,dD,cr,ha,hc⟩:=h;rw [cU] at *;unfold maxLen at cr;refine ak func247 I I ?_;refine Jr<|Ja I<|Jn<|Jq<|Jr<|Jv I<|JI I<|Jv I<|Jn<|J0 ?_;refine bd (fun k:Nat=>k<=l.length/\∀ i,i<k->(l[i]?.map p).getD false=false) (fun k=>[(8,.int .i64 k),(7,.int .i64 l.length),(0,.slice a l.length cp),(1,.func (.func f) first.toArray cap.toArray)]) (fun _=>[]) (fun k=>l.length-k) ?_ ?_
 ·apply aJ 0 ⟨Zi _,fun i h=>by omega⟩
  case hs1=>exact cB
  case ht=>(try simp only [Ze,Zf,Za]);exact .nil
 rintro k ⟨hk,hf⟩;by_cases aN:k<l.length
 ·have c8:=ha (jG aN);have c0:w.cell? ⟨b,o+k*1,none⟩=some (.q l[k]):=(hc k _ (iz aN)).2 0 _ I;have iE:=cG _ (Zj aN);have hps:(l[k]?.map p).getD false=p l[k]:=by simp [aN]
  (refine Jr<|JA I<|Jn<|Jq<|Jd I fun aA=>Jk<|Jq<|J0<|Jr<|Jv I<|Ja I<|Ji<|Jv I<|Jv I<|Jv I<|ab (gr c8 aA) I<|ab (ag (.of I) (At.base c0 I)) I<|aj bS I (fun w' az=>(iE w' (Mem.keeps az)))<|Jn<|oq I (fun aA=>?_) fun aA=>?_;refine Jr<|Jv I<|Ja I<|Jn<|Je<|Jm<|Jh<|Jh<|Jm<|Jh<|JT ?_;rotate_left;refine Jw<|Jj<|Jt<|Jg<|JB I (by omega)<|Jv I<|Jn ?_;rotate_right)
  ·rw [gG hf aN aA]
  ·apply aI (k+1) ⟨by omega,fun i hi=>by
    by_cases e:i=k
    ·rw [e,hps];exact aA
    ·exact hf i (by omega)⟩ (by omega)
   case hs1=>exact cB
   case ht=>(try simp only [Ze,Zf,Za]);exact .nil
 ·obtain rfl:k=l.length:=by omega
  refine Jr<|JA I<|Jn<|Jq<|Jc I fun aA=>Jp<|Jl<|Jo<|Jt<|Jr<|Ja I<|Jn<|Je<|JT ?_;rw [fL hf]
theorem wJ {l:List Int} [bQ T_ f] {w:World} (h:Rd w lv 1 (ints l)) (cG:∀ x∈l,∀ w',aH [] w w'->ao T_ f (first++[.q x]++cap) w' (.bool (p x))) :
  ao T_ 161 [lv,.func (.func f) first.toArray cap.toArray] w (.bool (l.any p)):=by
 have iE:∀ w',aH [] w w'->ao T_ 247 [lv,.func (.func f) first.toArray cap.toArray] w' (.q (gH p l)):=fun w' hk=>
  Ko (h.keeps hk) fun x hx w2 eL=>cG x hx w2 (hk.trans eL)
 rw [<- kl];refine ak func161 I I ?_
 (refine Jr<|Ja I<|Ji<|Jv I<|Jv I<|aj bo I (fun w' az=>(iE w' (Mem.keeps az)))<|JG I<|Ja I<|Jn<|Je<|JT ?_)
 rfl
theorem wY (x:Int) {b:Nat} {w:World} (h:Rd w cv 1 (ints L)) (f1:w.cell? ⟨b,0,none⟩=some cv) :
  ao T_ 157 [.q x,.p b] w (.bool (L.contains x)):=by
 have h1:=Rd.one h;refine ak func157 I I ?_
 (refine Jr<|Ja I<|Ji<|ab (ag (.of I) (At.base f1 I)) I<|Jv I ?_)
 refine aj bo I (fun w' az=>lE x (h.keeps az.keeps)) ?_;refine Ja I<|Jn<|Je<|JT ?_
 rfl
theorem wX (x:Int) {b b2:Nat} {w:World} (h:Rd w cv 1 (ints L)) (f1:w.cell? ⟨b,0,none⟩=some cv) (f2:w.cell? ⟨b2,0,none⟩=some (.func (.func 157) #[] #[.p b])) :
  ao T_ 158 [.q x,.p b2] w (.bool (!L.contains x)):=by
 refine ak func158 I I ?_
 (refine Jr<|Ja I<|Ji<|ab (ag (.of I) (At.base f2 I)) I<|Jv I ?_)
 refine aj bS I (fun w' az=>wY x (h.keeps az.keeps) (eD f1 I (by simp) az.keeps)) ?_;refine JH I<|Ja I<|Jn<|Je<|JT ?_
 rfl
def rK (r:Ro) (v:Int) (L:List Int) (x:Ti):Bool:=L.contains x.fr&&!L.contains x.to&&!ib r.po v x.nm
theorem SS {s d t p:Value} (v:Int) {cv:Value} {L:List Int} (x:Ti) {b b2 b3 b5 b6:Nat} {w:World} (hr:RR w r s d t p) (h:Rd w cv 1 (ints L)) (f1:w.cell? ⟨b,0,none⟩=some cv) (f2:w.cell? ⟨b2,0,none⟩=some (.func (.func 157) #[] #[.p b]))
  (f3:w.cell? ⟨b3,0,none⟩=some (.func (.func 158) #[] #[.p b2])) (hA:BR w b5 (RC r s d t p)) (f6:w.cell? ⟨b6,0,none⟩=some (.q v)) :
  ao T_ 160 [.agg x.cells.toArray,.p b2,.p b3,.p b5,.p b6] w (.bool (rK r v L x)):=by
 have h1:=Rd.one hr.sr;have h2:=Rd.one hr.de;have h3:=Rd.one hr.ti;have h4:=Rd.one hr.po;have kq:∀ (j:Nat) (u:Value),[Value.int .i64 r.lv,.q r.ma,s,d,t,p][j]? = some u->w.cell? ⟨b5,0+j,none⟩=some u:=hA;unfold Ti.cells;refine ak func160 I I ?_
 (refine Jr<|Jy I I fun _ _=>Ja I<|Ji<|ab (ag (.of I) (At.base f2 I)) I<|bN I I ae<|JL I .here I ?_)
 cases kM:L.contains x.fr with
 | false =>
  have hB:rK r v L x=false:=by unfold rK;rw [kM];rfl
  rw [hB];refine aj bS I (fun w' az=>kM ▸ wY x.fr (h.keeps az.keeps) (eD f1 I (by simp) az.keeps)) ?_
  (refine Jv I<|au I I (fun hg bG=>(ag (.of I) (At.base f3 I))) I<|au I I (fun hg bG=>(ai (.of I) ae)) I<|au I I (fun hg bG=>(ag (.bX bG I) (At.lit .here I))) I<|cK I I I I<|ab (bM (.of I) (.of I) (.of I) I) I<|Jv I<|au I I (fun hg bG=>(iw (.of I) (eO.base kq I) I)) I<|au I I (fun hg bG=>(ag (.of I) (At.base f6 I))) I<|au I I (fun hg bG=>(ai (.of I) ae)) I<|au I I (fun hg bG=>(ag (.bX bG I) (At.lit .here I))) I<|cK I I I I<|au I I (fun hg bG=>(fC (.bX bG I))) I<|ab (bM (.of I) (.of I) (.of I) I) I<|Ja I<|Jn<|Je<|JT ?_)
  rfl
 | true =>
  have hB:rK r v L x=(!L.contains x.to&&!ib r.po v x.nm):=by unfold rK;rw [kM];rfl
  rw [hB];refine aj bS I (fun w' az=>kM ▸ wY x.fr (h.keeps az.keeps) (eD f1 I (by simp) az.keeps)) ?_
  (refine Jv I<|JK I I<|ab (ag (.of I) (At.base f3 I)) I<|JK I I<|bN I I ae<|JK I I<|JL I .here I<|JK I I ?_)
  cases jT:L.contains x.to with
  | true =>
   with_reducible apply aj
   case hr=>exact bS
   case hd=>rfl
   case hc=>
    intro w' az;have q:=wX x.to (h.keeps az.keeps) (eD f1 I (by simp) az.keeps) (eD f2 I (by simp) az.keeps);rw [jT] at q;exact q
   (refine ab (bM (.of I) (.of I) (.of I) I) I<|Jv I<|au I I (fun hg bG=>(iw (.of I) (eO.base kq I) I)) I<|au I I (fun hg bG=>(ag (.of I) (At.base f6 I))) I<|au I I (fun hg bG=>(ai (.of I) ae)) I<|au I I (fun hg bG=>(ag (.bX bG I) (At.lit .here I))) I<|cK I I I I<|au I I (fun hg bG=>(fC (.bX bG I))) I<|ab (bM (.of I) (.of I) (.of I) I) I<|Ja I<|Jn<|Je<|JT ?_)
   rfl
  | false =>
   with_reducible apply aj
   case hr=>exact bS
   case hd=>rfl
   case hc=>
    intro w' az;have q:=wX x.to (h.keeps az.keeps) (eD f1 I (by simp) az.keeps) (eD f2 I (by simp) az.keeps);rw [jT] at q;exact q
   (refine ab (cP (.of I) (.of I) (.of I) I) I<|Jv I<|JK I I<|ab (iD (eO.base kq I)) I<|JK I I<|ab (ag (.of I) (At.base f6 I)) I<|JK I I<|bN I I ae<|JK I I<|JL I .here I<|JK I I ?_)
   cases hb:ib r.po v x.nm with
   | true =>
    with_reducible apply aj
    case hr=>exact ek
    case hd=>rfl
    case hc=>
     intro w' az;have q:=ph v x.nm (hr.keeps az.keeps);rw [hb] at q;exact q
    (refine JK I I<|JH I<|ab (bM (.of I) (.of I) (.of I) I) I<|Ja I<|Jn<|Je<|JT ?_)
    rfl
   | false =>
    with_reducible apply aj
    case hr=>exact ek
    case hd=>rfl
    case hc=>
     intro w' az;have q:=ph v x.nm (hr.keeps az.keeps);rw [hb] at q;exact q
    (refine JK I I<|JH I<|ab (cP (.of I) (.of I) (.of I) I) I<|Ja I<|Jn<|Je<|JT ?_)
    rfl
theorem aK {α:Type} {l:List Oper} {i:Nat} {v:α}:lI l i (fun _=>v):=fun _ _ _=>rfl
def y9 (L:List Int) (k:Nat):Int:=if k=0 then -1 else L.getD (k-1) 0
theorem vU (h:k<L.length):y9 L (k+1)=L[k]:=by
 unfold y9;rw [if_neg (by omega),ZaK,Zk,Zc h];rfl
def TD (r:Ro) (L:List Int) (k:Nat):Int:=(L[k]?.map fun x=>ba [fo r x,bT (decide (x<=y9 L k)) 11]).getD 0
theorem Lv (h:k<L.length):TD r L k=ba [fo r L[k],bT (decide (L[k]<=y9 L k)) 11]:=by
 unfold TD;rw [Zc h];rfl
def TB (r:Ro) (v:Int) (so de:ByteArray) (L:List Int):Int:=ba [kP r v so de,bT (decide ((4:Int)<(L.length:Nat))) 5]
def SV (r:Ro) (L:List Int):Int:=jK (TD r L) L.length
def P9 (r:Ro) (v:Int) (so de:ByteArray) (L:List Int):Bool:=r.ti.any (rK r v L)||(gM r v so r.ti.length).any (fun x=>!L.contains x)||L.contains (gQ r de)
def SU (r:Ro) (v:Int) (so de:ByteArray) (L:List Int):Int:=if TB r v so de L≠0 then TB r v so de L else if SV r L≠0 then SV r L else bT (P9 r v so de L) 19
set_option maxHeartbeats 2000000 in
theorem xx {s d t p cv:Value} (v:Int) (so de:ByteArray) {L:List Int} {w:World} (h:RR w r s d t p) (cJ:me r) (hw:Rd w cv 1 (ints L)) :
  ao T_ 37 [RA r s d t p,.q v,.string so,.string de,cv] w (.q (SU r v so de L)):=by
 obtain ⟨h1,h2,h3,h4⟩:=h.one;have Bp:=hw;obtain ⟨aw,cw,bw,ow,rfl,KZ,wo,PO,CD⟩:=hw;rw [cU] at *;unfold maxLen at wo;have Sm:∀ w',aH [] w w'->ao T_ 151 [.agg #[.int .i64 r.lv,.int .i64 r.ma,s,d,t,p],.int .i64 v,.string so,.string de] w' (.int .i64 (kP r v so de)):=fun w' hk=>nL v so de (h.keeps hk) cJ
 unfold RA;refine ak func37 I I ?_;refine Jr<|Jy I I fun _ _=>Jy I I fun _ _=>Jy I I fun _ _=>Ja I<|Jn<|Jq<|Jq ?_
 with_reducible refine cS 10 (by kernel_rfl) ?_
 (refine ar (cN bO) I<|ar (ic (.there .here)) I<|ar kL I<|ar kL I<|aZ uA I (fun w' az=>(Sm w' (Mem.keeps az)))<|ar (ic .here) I<|ar (bz (.of I)) I<|ar (mj (.of I) (.of I)) I<|aZ bo I (fun w' az=>(dO _ 5 w'))<|eA (aB (.o I (.o I .nil)) I I I I) I I ?_)
 with_reducible refine dz I fun bq lN=>?_
 (refine aj bS I (fun w' az=>(dE (Mem.dB az .here I I) (cg.cons (cg.cons cg.nil))))<|Ja I<|Ji<|Jv I<|JD I<|Jn<|gR I (fun aA=>?_) fun aA=>?_;refine Jr<|Jv I<|Ja I<|Jn<|Ju<|JT ?_;rotate_left;refine Jk<|Jr<|Ja I<|Jn<|Jq<|Jr<|JL I (.there .here) I<|JI I<|Jv I<|Jn<|J0 ?_;rotate_right)
 ·have e1:SU r v so de L=TB r v so de L:=if_pos aA;rw [e1];rfl
 have Bw:TB r v so de L=0:=Zr.1 aA;have hX:SU r v so de L=if SV r L≠0 then SV r L else bT (P9 r v so de L) 19:=if_neg aA
 clear aA;obtain ⟨dw,hv,rO,fF⟩:=uD (bP.1 Bw _ Zp);have h6:L.length<=4:=by
  have:=(bC (by decide)).1 (bP.1 Bw (bT (decide ((4:Int)<(L.length:Nat))) 5) (by simp));simp only [decide_eq_false_iff_not] at this;omega
 have ht6:=dw.len.2.2;rename_i b5 Mu b6 hb6 b9 hb9
 refine bd (fun k:Nat=>k<=L.length/\∀ i,i<k->TD r L i=0) (fun k=>[(35,.q (k:Nat)),(34,.q (L.length:Nat)),(33,.slice aw L.length cw),(12,.q (y9 L k)),(9,.p b9),(6,.p b6),(5,.p b5),(2,.string so),(3,.string de)])
  (fun k=>[bA b9 (.cells #[.slice aw L.length cw] 49 (0,0)),bA b6 (.cells #[.q v] 3 (0,0)),JP b5 r s d t p]) (fun k=>L.length-k) ?_ ?_
 ·apply aJ 0 ⟨Zi _,fun i hi=>by omega⟩
  case hs1=>exact cB
  case ht=>(try simp only [Ze,Zf,Za]);exact .cons (.there .here) (.cons (.there .here) (.cons (.there .here) .nil))
 rintro k ⟨hk,hf⟩;by_cases aN:k<L.length
 ·have AT:=PO (jG aN);have c0:w.cell? ⟨bw,ow+k*1,none⟩=some (.q L[k]):=(CD k _ (iz aN)).2 0 _ I;have jJ:=Lv (r:=r) aN;have hhs:∀ w',aH [] w w'->ao T_ 136 [.agg #[.q r.lv,.q r.ma,s,d,t,p],.q L[k]] w' (.q (fo r L[k])):=fun w' hk=>FK (s:=s) (d:=d) (t:=t) (p:=p) L[k] h
  (refine Jr<|JA I<|Jn<|Jq<|Jd I fun aA=>Jk<|Jq<|J0<|Jr<|ab (aC (.of I) (.of I) AT (by omega) aA bu) I<|ab (ag (.of I) (At.base c0 I)) I<|Ja I<|Jn<|Jq<|Jr<|ab (cN bO) I<|Jv I<|aj bo I (fun w' az=>(hhs w' (Mem.keeps az)))<|Jv I<|Jv I<|JF I<|aj bo I (fun w' az=>(dO _ 11 w'))<|bn (aB (.o I (.o I .nil)) I I I I) I fun _ _=>aj bS I (fun w' az=>(dE (Mem.dB az .here I I) (cg.cons (cg.cons cg.nil))))<|Ja I<|Ji<|Jv I<|JD I<|Jn<|gR I (fun aA=>?_) fun aA=>?_;refine Jr<|Jv I<|Ja I<|Jn<|Ju<|Jm<|Jh<|Jh<|Jm<|Jh<|JT ?_;rotate_left;refine Jk<|Jg<|Jv I<|Ja I<|Jx<|Jj<|Jt<|Jg<|JB I (by omega)<|Jv I<|Jn ?_;rotate_right)
  ·rw [<- jJ] at aA ⊢;have hB:SV r L=TD r L k:=fj hf aN aA;rw [<- hB] at aA ⊢;rw [hX,if_pos aA]
  have hz:TD r L k=0:=by rw [jJ];exact Zr.1 aA
  have AN:=vU aN;apply aI (k+1) ⟨by omega,fun i hi=>by
   by_cases e:i=k
   ·rw [e];exact hz
   ·exact hf i (by omega)⟩ (by omega)
  case hs1=>rw [AN];exact .cons I (.cons I (.cons I (.cons I (.cons I (.cons I (.cons I (.cons I (.cons I .nil))))))))
  case ht=>exact qv
 ·obtain rfl:k=L.length:=by omega
  have SC:SV r L=0:=dC.2 hf;rw [hX,if_neg (by rw [SC];decide)]
  (refine Jr<|JA I<|Jn<|Jq<|Jc I fun aA=>Jp<|Jl<|Jo<|Jt<|Jr<|ab (bI .nil (.o I .nil)) I<|Jz I I fun _ _=>aq (.of I) (.of I) .here I I (dG I) (bF I) an<|Ji<|ab (bI .nil (.o I .nil)) I<|Jz I I fun _ _=>aq (.of I) (.of I) .here I I (dG I) (bF I) an<|Ji<|bN I I ae<|JL I dF I<|ab (bI .nil (.o I (.o I (.o I (.o I .nil))))) I ?_)
  rename_i Gb afV b17 afU
  with_reducible apply aj
  case hr=>exact bo
  case hd=>rfl
  case hc=>
   intro w' az;have hR:=h.keeps az.keeps;have f9:w'.cell? ⟨b9,0,none⟩=some (.slice aw L.length cw):=At.lit bO I w' az;have f16:w'.cell? ⟨Gb,0,none⟩=some (.func (.func 157) #[] #[.p b9]):=At.lit (by exact Take.there .here) I w' az;have f17:w'.cell? ⟨b17,0,none⟩=some (.func (.func 158) #[] #[.p Gb]):=At.lit (by exact .here) I w' az;have f6:w'.cell? ⟨b6,0,none⟩=some (.q v):=At.lit c6 I w' az;have hA:BR w' b5 [.q r.lv,.q r.ma,s,d,t,p]:=BR.of az dF;exact AU (f:=160) (p:=rK r v L) (first:=[]) (cap:=[.p Gb,.p b17,.p b5,.p b6]) hR.ti (fun x hx w2 eL=>SS v x (hR.keeps eL) (Bp.keeps (az.keeps.trans eL)) (cD f9 I eL) (cD f16 I eL) (cD f17 I eL) (hA.keeps eL) (cD f6 I eL))
  refine Ja I<|Jn<|Jq ?_;cases su:r.ti.any (rK r v L) with
  | true =>
   have hC:P9 r v so de L=true:=by unfold P9;rw [su];rfl
   rw [hC]
   with_reducible refine dy 23 (by kernel_rfl) ?_
   (refine ah (fun β=>(aL (.of I))) dJ I<|ah (fun β=>(aL (.of I))) dJ I<|a7 I (fun _=>rfl) (Or.inr I) I<|a7 I (fun _=>rfl) (Or.inr I) I<|a7 I (fun _=>rfl) (Or.inr I) I<|a7 I (fun _=>rfl) (Or.inr I) I<|a7 I (fun _=>rfl) (Or.inr I) I<|a7 I (fun _=>rfl) (Or.inr I) I<|ah (fun β=>(cP (.of I) (.of I) (.of I) I)) dJ I<|ah (fun β=>(aL (.of I))) dJ I<|a7 I (fun _=>rfl) (Or.inr I) I<|a7 I (fun _=>rfl) (Or.inr I) I<|a7 I (fun _=>rfl) (Or.inr I) I<|a7 I (fun _=>rfl) (Or.inr I) I<|a7 I (fun _=>rfl) (Or.inr I) I<|a7 I (fun _=>rfl) (Or.inr I) I<|a7 I (fun _=>rfl) (Or.inr I) I<|a7 I (fun _=>rfl) (Or.inr I) I<|a7 I (fun _=>rfl) (Or.inr I) I<|a7 I (fun _=>rfl) (Or.inr I) I<|ah (fun β=>(cP (.of I) (.of I) (.of I) I)) dJ I ?_)
   dsimp only [Nat.zero_add,Nat.reduceAdd]
   with_reducible apply cV (B:=[]) (F:=fun _=>.q (bT true 19)) (args:=fun _=>[.bool true,.q 19])
   case hB=>rfl
   case hr=>exact fun β=>a8 (.of I) (.o I (.o I .nil)) inferInstance I
   case hi=>exact aK
   case hd=>rfl
   case hc=>exact fun β w' hb=>dO _ _ _
   refine ah (fun β=>(cd (.of I))) dJ I ?_;refine eG fun β=>?_;dsimp only [dX,Za,Zb,List.append_eq,Nat.reduceAdd]
   with_reducible refine cn (by kernel_rfl) ?_
   refine Jt<|Je<|JT ?_
   rfl
  | false =>
   have hC:P9 r v so de L=((gM r v so r.ti.length).any (fun x=>!L.contains x)||L.contains (gQ r de)):=by unfold P9;rw [su];rfl
   rw [hC];obtain ⟨j0,wz⟩:∃ i:Nat,br (bY r) de=(i:Nat):=⟨(br (bY r) de).toNat,by have:=cF fF;omega⟩;have xW:j0<r.de.length:=by
    obtain ⟨hl,_⟩:=ei (l:=bY r) (s:=de) (by omega);rw [wz,Zy] at hl;unfold bY at hl;rwa [Zd] at hl
   have Om:gQ r de=(r.de[j0]).mx:=by unfold gQ;rw [wz,Zy,Zk,Zc xW];rfl
   have N8:∀ w',aH [] w w'->bB T_ 152 [.agg #[.q r.lv,.q r.ma,s,d,t,p],.q v,.string so] w' [] (fun _:Value=>True) id (fun x=>[row 3 1 x (gM r v so r.ti.length).length ((gM r v so r.ti.length).map (Value.int .i64))]):=fun w' hk=>Fl (s:=s) (d:=d) (t:=t) (p:=p) v so (h.keeps hk) (by omega) rO
   have xZ:∀ w',aH [] w w'->ao T_ 155 [.agg #[.q r.lv,.q r.ma,s,d,t,p],.string de] w' (.q (j0:Nat)):=fun w' hk=>wz ▸ fw de (h.keeps hk)
   generalize gM r v so r.ti.length=R0 at N8 ⊢;cases XW:R0.any (fun x=>!L.contains x) with
   | true =>
    rw [Bool.true_or]
    with_reducible refine dy 23 (by kernel_rfl) ?_
    (refine ah (fun β=>(aL (.of I))) dJ I<|ah (fun β=>(aL (.of I))) dJ I<|aS I (fun _=>rfl)<|ah (fun β=>(bL (.of I) dF an (by rfl))) dJ I<|aS I (fun _=>rfl)<|ah (fun β=>(ag (.of I) (At.lit c6 I))) dJ I<|aS I (fun _=>rfl)<|ah (fun β=>(aL (.of I))) dJ I ?_)
    dsimp only [Nat.zero_add,Nat.reduceAdd];refine aS I (fun _=>rfl) ?_
    with_reducible apply cZ (ι:=Value) (Φ:=fun _=>True) (val:=id) (own:=fun x=>[row 3 1 x R0.length (R0.map (Value.int .i64))]) (g:=id) (B:=[]) (args:=fun _=>[.agg #[.q r.lv,.q r.ma,s,d,t,p],.q v,.string so])
    case hg=>exact fun x=>⟨x,I⟩
    case hB=>rfl
    case hr=>exact fun β=>a8 (.of I) (.o I (.o I (.o I .nil))) inferInstance I
    case hd=>rfl
    case hc=>exact fun β w' hb=>N8 w' hb.mem.keeps
    dsimp only [id_eq,Nat.reduceAdd]
    (refine aS I (fun _=>rfl)<|ah (fun β=>(ag (.of I) (At.lit .here I))) dJ I ?_)
    dsimp only [Nat.zero_add,Nat.reduceAdd];refine aS I (fun _=>rfl) ?_
    with_reducible apply cV (B:=[5]) (F:=fun _=>.bool true) (args:=fun β=>[β 5,.func (.func 158) #[] #[.p Gb]])
    case hB=>first | rfl | kernel_rfl
    case hr=>exact fun β=>a8 (.of I) (.o I (.o I .nil)) inferInstance I
    case hi=>exact aK
    case hd=>rfl
    case hc=>
     intro β w' hb;have m5:=hb.at 5 Zp (s:=⟨fun β=>β 5,fun β=>[row 3 1 (β 5) R0.length (R0.map (Value.int .i64))]⟩) (by kernel_rfl)
     dsimp only [Zb,Za] at m5;have s1:Rd w' (β 5) 1 (ints R0):=jF m5 (by exact .here) I;have f9:w'.cell? ⟨b9,0,none⟩=some (.slice aw L.length cw):=At.lit c6 I w' m5;have f16:w'.cell? ⟨Gb,0,none⟩=some (.func (.func 157) #[] #[.p b9]):=At.lit bO I w' m5;have q:=wJ (f:=158) (p:=fun x=>!L.contains x) (first:=[]) (cap:=[.p Gb]) s1 (fun x hx w2 eL=>wX x (Bp.keeps (hb.mem.keeps.trans eL)) (cD f9 I eL) (cD f16 I eL))
     rw [XW] at q;exact q
    (refine ah (fun β=>(cP (.of I) (.of I) (.of I) I)) dJ I<|ah (fun β=>(aL (.of I))) dJ I<|a7 I (fun _=>rfl) (Or.inr I) I<|a7 I (fun _=>rfl) (Or.inr I) I<|a7 I (fun _=>rfl) (Or.inr I) I<|a7 I (fun _=>rfl) (Or.inr I) I<|a7 I (fun _=>rfl) (Or.inr I) I<|a7 I (fun _=>rfl) (Or.inr I) I<|a7 I (fun _=>rfl) (Or.inr I) I<|a7 I (fun _=>rfl) (Or.inr I) I<|a7 I (fun _=>rfl) (Or.inr I) I<|a7 I (fun _=>rfl) (Or.inr I) I<|ah (fun β=>(cP (.of I) (.of I) (.of I) I)) dJ I ?_)
    dsimp only [Nat.zero_add,Nat.reduceAdd]
    with_reducible apply cV (B:=[]) (F:=fun _=>.q (bT true 19)) (args:=fun _=>[.bool true,.q 19])
    case hB=>rfl
    case hr=>exact fun β=>a8 (.of I) (.o I (.o I .nil)) inferInstance I
    case hi=>exact aK
    case hd=>rfl
    case hc=>exact fun β w' hb=>dO _ _ _
    refine ah (fun β=>(cd (.of I))) dJ I ?_;refine eG fun β=>?_;dsimp only [dX,Za,Zb,List.append_eq,Nat.reduceAdd]
    with_reducible refine cn (by kernel_rfl) ?_
    refine Jt<|Je<|JT ?_
    rfl
   | false =>
    rw [ZbD];have lp:=h.de;obtain ⟨a3,pb,b3,o3,rfl,mS,gi,sX,qe⟩:=lp;rw [bZ] at *;unfold maxLen at gi;have CG:=sX (gI xW);have lq:=(qe j0 _ (fq xW)).2;unfold De.cells at lq;have ur:=lq 1 _ I;rw [<- Om] at ur;cases WM:L.contains (gQ r de) with
    | true =>
     with_reducible refine dy 23 (by kernel_rfl) ?_
     (refine ah (fun β=>(aL (.of I))) dJ I<|ah (fun β=>(aL (.of I))) dJ I<|aS I (fun _=>rfl)<|ah (fun β=>(bL (.of I) dF an (by rfl))) dJ I<|aS I (fun _=>rfl)<|ah (fun β=>(ag (.of I) (At.lit c6 I))) dJ I<|aS I (fun _=>rfl)<|ah (fun β=>(aL (.of I))) dJ I ?_)
     dsimp only [Nat.zero_add,Nat.reduceAdd];refine aS I (fun _=>rfl) ?_
     with_reducible apply cZ (ι:=Value) (Φ:=fun _=>True) (val:=id) (own:=fun x=>[row 3 1 x R0.length (R0.map (Value.int .i64))]) (g:=id) (B:=[]) (args:=fun _=>[.agg #[.q r.lv,.q r.ma,s,.slice a3 r.de.length pb,t,p],.q v,.string so])
     case hg=>exact fun x=>⟨x,I⟩
     case hB=>rfl
     case hr=>exact fun β=>a8 (.of I) (.o I (.o I (.o I .nil))) inferInstance I
     case hd=>rfl
     case hc=>exact fun β w' hb=>N8 w' hb.mem.keeps
     dsimp only [id_eq,Nat.reduceAdd]
     (refine aS I (fun _=>rfl)<|ah (fun β=>(ag (.of I) (At.lit .here I))) dJ I ?_)
     dsimp only [Nat.zero_add,Nat.reduceAdd];refine aS I (fun _=>rfl) ?_
     with_reducible apply cV (B:=[5]) (F:=fun _=>.bool false) (args:=fun β=>[β 5,.func (.func 158) #[] #[.p Gb]])
     case hB=>first | rfl | kernel_rfl
     case hr=>exact fun β=>a8 (.of I) (.o I (.o I .nil)) inferInstance I
     case hi=>exact aK
     case hd=>rfl
     case hc=>
      intro β w' hb;have m5:=hb.at 5 Zp (s:=⟨fun β=>β 5,fun β=>[row 3 1 (β 5) R0.length (R0.map (Value.int .i64))]⟩) (by kernel_rfl)
      dsimp only [Zb,Za] at m5;have s1:Rd w' (β 5) 1 (ints R0):=jF m5 (by exact .here) I;have f9:w'.cell? ⟨b9,0,none⟩=some (.slice aw L.length cw):=At.lit c6 I w' m5;have f16:w'.cell? ⟨Gb,0,none⟩=some (.func (.func 157) #[] #[.p b9]):=At.lit bO I w' m5;have q:=wJ (f:=158) (p:=fun x=>!L.contains x) (first:=[]) (cap:=[.p Gb]) s1 (fun x hx w2 eL=>wX x (Bp.keeps (hb.mem.keeps.trans eL)) (cD f9 I eL) (cD f16 I eL))
      rw [XW] at q;exact q
     (refine ah (fun β=>(bM (.of I) (.of I) (.of I) I)) dJ I<|ah (fun β=>(aL (.of I))) dJ I<|aS I (fun _=>rfl)<|ah (fun β=>(ag (.of I) (At.lit (.there .here) I))) dJ I<|aS I (fun _=>rfl)<|ah (fun β=>(ai (.of I) ae)) dJ I<|aS I (fun _=>rfl)<|ah (fun β=>(ag (.of I) (At.lit dF I))) dJ I<|aS I (fun _=>rfl)<|ah (fun β=>(bL (.of I) dF an (by rfl))) dJ I<|aS I (fun _=>rfl)<|ah (fun β=>(aL (.of I))) dJ I ?_)
     dsimp only [Nat.zero_add,Nat.reduceAdd];refine aS I (fun _=>rfl) ?_
     with_reducible apply cV (B:=[]) (F:=fun _=>.q (j0:Nat)) (args:=fun _=>[.agg #[.q r.lv,.q r.ma,s,.slice a3 r.de.length pb,t,p],.string de])
     case hB=>rfl
     case hr=>exact fun β=>a8 (.of I) (.o I (.o I .nil)) inferInstance I
     case hi=>exact aK
     case hd=>rfl
     case hc=>exact fun β w' hb=>xZ w' hb.mem.keeps
     (refine aS I (fun _=>rfl)<|ah (fun β=>(aC (.of I) (.of I) CG (by omega) (by omega) bu)) dJ I<|aS I (fun _=>rfl)<|ah (fun β=>(ai (.of I) ae)) dJ I<|aS I (fun _=>rfl)<|ah (fun β=>(ag (.of I) (At.base ur I))) dJ I ?_)
     dsimp only [Nat.zero_add,Nat.reduceAdd];refine aS I (fun _=>rfl) ?_
     with_reducible apply cV (B:=[]) (F:=fun _=>.bool true) (args:=fun _=>[.q (gQ r de),.p b9])
     case hB=>rfl
     case hr=>exact fun β=>a8 (Is.of I) (Ht.cons (Is.of I) Ht.nil) inferInstance gF
     case hi=>exact aK
     case hd=>rfl
     case hc=>
      intro β w' hb;have m5:=hb.mem;have f9:w'.cell? ⟨b9,0,none⟩=some (.slice aw L.length cw):=At.lit bO I w' m5;have q:=wY (gQ r de) (Bp.keeps hb.mem.keeps) f9;rw [WM] at q;exact q
     refine ah (fun β=>(cP (.of I) (.of I) (.of I) I)) dJ I ?_;dsimp only [Nat.zero_add,Nat.reduceAdd]
     with_reducible apply cV (B:=[]) (F:=fun _=>.q (bT true 19)) (args:=fun _=>[.bool true,.q 19])
     case hB=>rfl
     case hr=>exact fun β=>a8 (.of I) (.o I (.o I .nil)) inferInstance I
     case hi=>exact aK
     case hd=>rfl
     case hc=>exact fun β w' hb=>dO _ _ _
     refine ah (fun β=>(cd (.of I))) dJ I ?_;refine eG fun β=>?_;dsimp only [dX,Za,Zb,List.append_eq,Nat.reduceAdd]
     with_reducible refine cn (by kernel_rfl) ?_
     refine Jt<|Je<|JT ?_
     rfl
    | false =>
     with_reducible refine dy 23 (by kernel_rfl) ?_
     (refine ah (fun β=>(aL (.of I))) dJ I<|ah (fun β=>(aL (.of I))) dJ I<|aS I (fun _=>rfl)<|ah (fun β=>(bL (.of I) dF an (by rfl))) dJ I<|aS I (fun _=>rfl)<|ah (fun β=>(ag (.of I) (At.lit c6 I))) dJ I<|aS I (fun _=>rfl)<|ah (fun β=>(aL (.of I))) dJ I ?_)
     dsimp only [Nat.zero_add,Nat.reduceAdd];refine aS I (fun _=>rfl) ?_
     with_reducible apply cZ (ι:=Value) (Φ:=fun _=>True) (val:=id) (own:=fun x=>[row 3 1 x R0.length (R0.map (Value.int .i64))]) (g:=id) (B:=[]) (args:=fun _=>[.agg #[.q r.lv,.q r.ma,s,.slice a3 r.de.length pb,t,p],.q v,.string so])
     case hg=>exact fun x=>⟨x,I⟩
     case hB=>rfl
     case hr=>exact fun β=>a8 (.of I) (.o I (.o I (.o I .nil))) inferInstance I
     case hd=>rfl
     case hc=>exact fun β w' hb=>N8 w' hb.mem.keeps
     dsimp only [id_eq,Nat.reduceAdd]
     (refine aS I (fun _=>rfl)<|ah (fun β=>(ag (.of I) (At.lit .here I))) dJ I ?_)
     dsimp only [Nat.zero_add,Nat.reduceAdd];refine aS I (fun _=>rfl) ?_
     with_reducible apply cV (B:=[5]) (F:=fun _=>.bool false) (args:=fun β=>[β 5,.func (.func 158) #[] #[.p Gb]])
     case hB=>first | rfl | kernel_rfl
     case hr=>exact fun β=>a8 (.of I) (.o I (.o I .nil)) inferInstance I
     case hi=>exact aK
     case hd=>rfl
     case hc=>
      intro β w' hb;have m5:=hb.at 5 Zp (s:=⟨fun β=>β 5,fun β=>[row 3 1 (β 5) R0.length (R0.map (Value.int .i64))]⟩) (by kernel_rfl)
      dsimp only [Zb,Za] at m5;have s1:Rd w' (β 5) 1 (ints R0):=jF m5 (by exact .here) I;have f9:w'.cell? ⟨b9,0,none⟩=some (.slice aw L.length cw):=At.lit c6 I w' m5;have f16:w'.cell? ⟨Gb,0,none⟩=some (.func (.func 157) #[] #[.p b9]):=At.lit bO I w' m5;have q:=wJ (f:=158) (p:=fun x=>!L.contains x) (first:=[]) (cap:=[.p Gb]) s1 (fun x hx w2 eL=>wX x (Bp.keeps (hb.mem.keeps.trans eL)) (cD f9 I eL) (cD f16 I eL))
      rw [XW] at q;exact q
     (refine ah (fun β=>(bM (.of I) (.of I) (.of I) I)) dJ I<|ah (fun β=>(aL (.of I))) dJ I<|aS I (fun _=>rfl)<|ah (fun β=>(ag (.of I) (At.lit (.there .here) I))) dJ I<|aS I (fun _=>rfl)<|ah (fun β=>(ai (.of I) ae)) dJ I<|aS I (fun _=>rfl)<|ah (fun β=>(ag (.of I) (At.lit dF I))) dJ I<|aS I (fun _=>rfl)<|ah (fun β=>(bL (.of I) dF an (by rfl))) dJ I<|aS I (fun _=>rfl)<|ah (fun β=>(aL (.of I))) dJ I ?_)
     dsimp only [Nat.zero_add,Nat.reduceAdd];refine aS I (fun _=>rfl) ?_
     with_reducible apply cV (B:=[]) (F:=fun _=>.q (j0:Nat)) (args:=fun _=>[.agg #[.q r.lv,.q r.ma,s,.slice a3 r.de.length pb,t,p],.string de])
     case hB=>rfl
     case hr=>exact fun β=>a8 (.of I) (.o I (.o I .nil)) inferInstance I
     case hi=>exact aK
     case hd=>rfl
     case hc=>exact fun β w' hb=>xZ w' hb.mem.keeps
     (refine aS I (fun _=>rfl)<|ah (fun β=>(aC (.of I) (.of I) CG (by omega) (by omega) bu)) dJ I<|aS I (fun _=>rfl)<|ah (fun β=>(ai (.of I) ae)) dJ I<|aS I (fun _=>rfl)<|ah (fun β=>(ag (.of I) (At.base ur I))) dJ I ?_)
     dsimp only [Nat.zero_add,Nat.reduceAdd];refine aS I (fun _=>rfl) ?_
     with_reducible apply cV (B:=[]) (F:=fun _=>.bool false) (args:=fun _=>[.q (gQ r de),.p b9])
     case hB=>rfl
     case hr=>exact fun β=>a8 (Is.of I) (Ht.cons (Is.of I) Ht.nil) inferInstance gF
     case hi=>exact aK
     case hd=>rfl
     case hc=>
      intro β w' hb;have m5:=hb.mem;have f9:w'.cell? ⟨b9,0,none⟩=some (.slice aw L.length cw):=At.lit bO I w' m5;have q:=wY (gQ r de) (Bp.keeps hb.mem.keeps) f9;rw [WM] at q;exact q
     refine ah (fun β=>(bM (.of I) (.of I) (.of I) I)) dJ I ?_;dsimp only [Nat.zero_add,Nat.reduceAdd]
     with_reducible apply cV (B:=[]) (F:=fun _=>.q (bT false 19)) (args:=fun _=>[.bool false,.q 19])
     case hB=>rfl
     case hr=>exact fun β=>a8 (.of I) (.o I (.o I .nil)) inferInstance I
     case hi=>exact aK
     case hd=>rfl
     case hc=>exact fun β w' hb=>dO _ _ _
     refine ah (fun β=>(cd (.of I))) dJ I ?_;refine eG fun β=>?_;dsimp only [dX,Za,Zb,List.append_eq,Nat.reduceAdd]
     with_reducible refine cn (by kernel_rfl) ?_
     refine Jt<|Je<|JT ?_
     rfl
structure Tk where
 de:ByteArray
 so:List ByteArray
structure gL where
 tk:Tk
 v:Value
def gL.cells (x:gL):List Value:=[.string x.tk.de,x.v]
def jQ (l:List gL):List (List Value):=l.map gL.cells
theorem e9 (l:List gL):(jQ l).length=l.length:=by simp [jQ]
theorem kR {l:List gL} (h:k<l.length):(jQ l)[k]? = some (l[k]).cells:=by simp [jQ,h]
theorem np {l:List gL} (h:k<l.length):jQ l≠[]:=by intro e;have:=congrArg List.length e;rw [e9] at this;simp at this;subst this;simp at h
def xF (w:World) (l:List gL):Prop:=∀ x∈l,Rd w x.v 1 (ie x.tk.so)
theorem xF.keeps {w w':World} {l:List gL} (h:xF w l) (hk:aH [] w w'):xF w' l:=fun x hx=>(h x hx).keeps hk
theorem FF {l:List gL} {p:gL->Bool} [bQ T_ f] {w:World} (h:Rd w lv 2 (jQ l)) (cG:∀ x∈l,∀ w',aH [] w w'->ao T_ f (first++[.agg x.cells.toArray]++cap) w' (.bool (p x))) :
  ao T_ 252 [lv,.func (.func f) first.toArray cap.toArray] w (.q (gH p l)):=by
 obtain ⟨a,cp,b,o,rfl,dD,cr,ha,hc⟩:=h;rw [e9] at *;unfold maxLen at cr;refine ak func252 I I ?_;refine Jr<|Ja I<|Jn<|Jq<|Jr<|Jv I<|JI I<|Jv I<|Jn<|J0 ?_;refine bd (fun k:Nat=>k<=l.length/\∀ i,i<k->(l[i]?.map p).getD false=false) (fun k=>[(8,.int .i64 k),(7,.int .i64 l.length),(0,.slice a l.length cp),(1,.func (.func f) first.toArray cap.toArray)]) (fun _=>[]) (fun k=>l.length-k) ?_ ?_
 ·apply aJ 0 ⟨Zi _,fun i h=>by omega⟩
  case hs1=>exact cB
  case ht=>(try simp only [Ze,Zf,Za]);exact .nil
 rintro k ⟨hk,hf⟩;by_cases aN:k<l.length
 ·have c8:=ha (np aN);have aG:=(hc k _ (kR aN)).2;have iE:=cG _ (Zj aN);have hps:(l[k]?.map p).getD false=p l[k]:=by simp [aN]
  unfold gL.cells at aG iE
  (refine Jr<|JA I<|Jn<|Jq<|Jd I fun aA=>Jk<|Jq<|J0<|Jr<|Jv I<|Ja I<|Ji<|Jv I<|Jv I<|Jv I<|ab (gr c8 aA) I<|ab (iD (eO.base aG I)) I<|aj bS I (fun w' az=>(iE w' (Mem.keeps az)))<|Jn<|oq I (fun aA=>?_) fun aA=>?_;refine Jr<|Jv I<|Ja I<|Jn<|Je<|Jm<|Jh<|Jh<|Jm<|Jh<|JT ?_;rotate_left;refine Jw<|Jj<|Jt<|Jg<|JB I (by omega)<|Jv I<|Jn ?_;rotate_right)
  ·rw [gG hf aN aA]
  ·apply aI (k+1) ⟨by omega,fun i hi=>by
    by_cases e:i=k
    ·rw [e,hps];exact aA
    ·exact hf i (by omega)⟩ (by omega)
   case hs1=>exact cB
   case ht=>(try simp only [Ze,Zf,Za]);exact .nil
 ·obtain rfl:k=l.length:=by omega
  refine Jr<|JA I<|Jn<|Jq<|Jc I fun aA=>Jp<|Jl<|Jo<|Jt<|Jr<|Ja I<|Jn<|Je<|JT ?_;rw [fL hf]
theorem Ot {l:List gL} {p:gL->Bool} [bQ T_ f] {w:World} (h:Rd w lv 2 (jQ l)) (cG:∀ x∈l,∀ w',aH [] w w'->ao T_ f (first++[.agg x.cells.toArray]++cap) w' (.bool (p x))) :
  ao T_ 248 [lv,.func (.func f) first.toArray cap.toArray] w (.bool (l.any p)):=by
 have iE:∀ w',aH [] w w'->ao T_ 252 [lv,.func (.func f) first.toArray cap.toArray] w' (.q (gH p l)):=fun w' hk=>
  FF (h.keeps hk) fun x hx w2 eL=>cG x hx w2 (hk.trans eL)
 rw [<- kl];refine ak func248 I I ?_
 (refine Jr<|Ja I<|Ji<|Jv I<|Jv I<|aj bo I (fun w' az=>(iE w' (Mem.keeps az)))<|JG I<|Ja I<|Jn<|Je<|JT ?_)
 rfl
theorem TK {x:gL} {y:ByteArray} (f1:w.cell? ⟨b,0,none⟩=some (.string y)):ao T_ 249 [.agg x.cells.toArray,.p b] w (.bool (decide (x.tk.de=y))):=by
 unfold gL.cells;refine ak func249 I I ?_
 (refine Jr<|Jy I I fun _ _=>Ja I<|Ji<|bN I I ae<|JL I .here I<|bN I I ae<|ab (ag (.of I) (At.base f1 I)) I<|ab (eR (.of I) (.of I)) I<|Ja I<|Jn<|Je<|JT ?_)
 rfl
theorem vt {ty:TypeId} {t u:TypeId} {a b:ByteArray} (hx:Is sl x (.string a)) (hy:Is sl y (.string b)) (e:a≠b) :
  cM P c sl hs ⟨dst,.binOp .neq t x y u,ty,pos,af,g⟩ (.bool true):=by
 have:=jv (P:=P) (c:=c) (hs:=hs) (dst:=dst) (ty:=ty) (pos:=pos) (af:=af) (g:=g) (t:=t) (u:=u) hx hy;rwa [decide_eq_true e] at this
theorem B7 {ty:TypeId} {t u:TypeId} {a b:ByteArray} (hx:Is sl x (.string a)) (hy:Is sl y (.string b)) (e:a=b) :
  cM P c sl hs ⟨dst,.binOp .neq t x y u,ty,pos,af,g⟩ (.bool false):=by
 have:=jv (P:=P) (c:=c) (hs:=hs) (dst:=dst) (ty:=ty) (pos:=pos) (af:=af) (g:=g) (t:=t) (u:=u) hx hy;rwa [decide_eq_false (not_not_intro e)] at this
def mP (r:Ro) (o:ByteArray):Bool:=decide (o≠⟨#[]⟩)&&decide (o≠⟨#[45]⟩)&&decide (br (cz r) o<0)
theorem TL {s d t p:Value} (o:ByteArray) {b:Nat} {w:World} (hr:RR w r s d t p) (hA:BR w b (RC r s d t p)) :
  ao T_ 251 [.string o,.p b] w (.bool (mP r o)):=by
 have h1:=Rd.one hr.sr;have h2:=Rd.one hr.de;have h3:=Rd.one hr.ti;have h4:=Rd.one hr.po;have kq:∀ (j:Nat) (u:Value),[Value.int .i64 r.lv,.q r.ma,s,d,t,p][j]? = some u->w.cell? ⟨b,0+j,none⟩=some u:=hA;refine ak func251 I I ?_;by_cases KU:o=⟨#[]⟩
 ·have hB:mP r o=false:=by unfold mP;rw [decide_eq_false (not_not_intro KU)];rfl
  rw [hB]
  (refine Jr<|Ja I<|Ji<|Jv I<|ab (B7 (.of I) (.of I) KU) I<|Jv I<|gy I I I I<|au I I (fun hg bG=>(jv (.bX bG I) (.of I))) I<|ab (bM (.of I) (.of I) (.of I) I) I<|Jv I<|au I I (fun hg bG=>(iw (.of I) (eO.base kq I) I)) I<|gy I I I I<|cK I I I I<|cK I I I I<|ab (bM (.of I) (.of I) (.of I) I) I<|Ja I<|Jn<|Je<|JT ?_)
  rfl
 by_cases Sj:o=⟨#[45]⟩
 ·have hB:mP r o=false:=by unfold mP;rw [decide_eq_false (not_not_intro Sj),Zbv];rfl
  rw [hB]
  (refine Jr<|Ja I<|Ji<|Jv I<|ab (vt (.of I) (.of I) KU) I<|Jv I<|JK I I<|Jv I<|JK I I<|ab (B7 (.of I) (.of I) Sj) I<|ab (bM (.of I) (.of I) (.of I) I) I<|Jv I<|au I I (fun hg bG=>(iw (.of I) (eO.base kq I) I)) I<|gy I I I I<|cK I I I I<|cK I I I I<|ab (bM (.of I) (.of I) (.of I) I) I<|Ja I<|Jn<|Je<|JT ?_)
  rfl
 have hB:mP r o=decide (br (cz r) o<0):=by unfold mP;rw [decide_eq_true KU,decide_eq_true Sj];rfl
 rw [hB]
 (refine Jr<|Ja I<|Ji<|Jv I<|ab (vt (.of I) (.of I) KU) I<|Jv I<|JK I I<|Jv I<|JK I I<|ab (vt (.of I) (.of I) Sj) I<|ab (cP (.of I) (.of I) (.of I) I) I<|Jv I<|JK I I<|ab (iD (eO.base kq I)) I<|JK I I<|Jv I<|JK I I ?_)
 refine aj bo I (fun w' az=>mI o (hr.keeps az.keeps)) ?_;refine JK I I<|JA I ?_
 with_reducible apply ab (V:=Value.bool (decide (br (cz r) o<0)))
 case hr=>
  with_reducible apply cq
  case hx=>exact Is.of I
  case hy=>exact Is.of I
  case hz=>exact Is.of I
  case e=>rfl
 case hd=>rfl
 refine Ja I<|Jn<|Je<|JT ?_
 rfl
def du (l:List gL):List Tk:=l.map (·.tk)
def L9 (r:Ro) (l:List Tk) (k:Nat):Int:=(l[k]?.map fun x=>ba [ux r x.de,bT ((l.take k).any fun y=>decide (y.de=x.de)) 9,bT (decide ((x.so.length:Int)≠r.lv)) 2,bT (x.so.any (mP r)) 10]).getD 0
theorem H5 {l:List Tk} (h:k<l.length):L9 r l k=ba [ux r (l[k]).de,bT ((l.take k).any fun y=>decide (y.de=(l[k]).de)) 9,bT (decide (((l[k]).so.length:Int)≠r.lv)) 2,bT ((l[k]).so.any (mP r)) 10]:=by
 unfold L9;rw [Zc h];rfl
def Ma (l:List Tk):Int:=ba [bT (decide ((l.length:Int)=0)) 12,bT (decide ((8:Int)<(l.length:Nat))) 5]
def Bm (r:Ro) (l:List Tk):Int:=if Ma l≠0 then Ma l else jK (L9 r l) l.length
set_option maxHeartbeats 2000000 in
theorem se {s d t p kv:Value} {l:List gL} (h:RR w r s d t p) (hw:Rd w kv 2 (jQ l)) (hM:xF w l) :
  ao T_ 164 [RA r s d t p,kv] w (.q (Bm r (du l))):=by
 obtain ⟨h1,h2,h3,h4⟩:=h.one;have Bp:=hw;obtain ⟨aw,cw,bw,ow,rfl,KZ,wo,PO,CD⟩:=hw;rw [e9] at *;unfold maxLen at wo;have rS:(du l).length=l.length:=Zd _;unfold RA;refine ak func164 I I ?_
 (refine Jr<|Jy I I fun _ _=>Ja I<|Jn<|Jq<|Jr<|Jv I<|JI I<|JC I<|aj bo I (fun w' az=>(dO _ 12 w'))<|Jv I<|JI I<|JE I<|aj bo I (fun w' az=>(dO _ 5 w'))<|bn (aB (.o I (.o I .nil)) I I I I) I fun _ _=>aj bS I (fun w' az=>(dE (Mem.dB az .here I I) (cg.cons (cg.cons cg.nil))))<|Ja I<|Ji<|Jv I<|JD I<|Jn<|gR I (fun aA=>?_) fun aA=>?_;refine Jr<|Jv I<|Ja I<|Jn<|Ju<|JT ?_;rotate_left;refine Jk<|Jq<|Jr<|Jv I<|JI I<|Jv I<|Jn<|J0 ?_;rotate_right)
 ·have e1:Bm r (du l)=Ma (du l):=if_pos (by unfold Ma;rw [rS];exact aA);rw [e1];unfold Ma;rw [rS]
 have Bw:Ma (du l)=0:=by unfold Ma;rw [rS];exact Zr.1 aA
 have hX:Bm r (du l)=jK (L9 r (du l)) l.length:=by unfold Bm;rw [if_neg (by rw [Bw];decide),rS]
 clear aA;rename_i b2 tX bq lN
 refine bd (fun k:Nat=>k<=l.length/\∀ i,i<k->L9 r (du l) i=0) (fun k=>[(26,.q (k:Nat)),(25,.q (l.length:Nat)),(24,.slice aw l.length cw),(2,.p b2),(1,.slice aw l.length cw)])
  (fun k=>[JP b2 r s d t p]) (fun k=>l.length-k) ?_ ?_
 ·apply aJ 0 ⟨Zi _,fun i hi=>by omega⟩
  case hs1=>exact cB
  case ht=>(try simp only [Ze,Zf,Za]);exact .cons (.there .here) .nil
 rintro k ⟨hk,hf⟩;by_cases aN:k<l.length
 ·have AT:=PO (np aN);have aG:=(CD k _ (kR aN)).2;unfold gL.cells at aG;have hx:=hM _ (Zj aN);have jJ:=H5 (r:=r) (l:=du l) (k:=k) (by omega);have hgk:(du l)[k]'(by omega)=(l[k]).tk:=Z2 _;rw [hgk] at jJ;have ss:Rd w (Go.sliced aw 0 (k:Int).toNat cw 2) 2 (jQ (l.take k)):=by
   have:=Bp.sliced (l:=0) (m:=k) (Zi _) (by omega);rw [Zy];rwa [List.drop_zero,show (jQ l).take k=jQ (l.take k) by unfold jQ;rw [ZaN]] at this
  have Sv:(l.take k).any (fun y=>decide (y.tk.de=(l[k]).tk.de))=((du l).take k).any fun y=>decide (y.de=(l[k]).tk.de):=by
   unfold du;rw [<- ZaN,List.any_map];rfl
  generalize l[k]=x at aG hx jJ Sv ⊢;obtain ⟨⟨xd,xs⟩,xv⟩:=x;dsimp only at aG hx jJ Sv ⊢;have RI:=hx;obtain ⟨ax,cx,bx,ox,rfl,abp,UP,hax,hcx⟩:=hx;rw [cu] at *;unfold maxLen at UP;have fF:∀ w',aH [] w w'->ao T_ 112 [.agg #[.int .i64 r.lv,.int .i64 r.ma,s,d,t,p],.string xd] w' (.int .i64 (ux r xd)):=fun w' hk=>eM xd (h.keeps hk)
  (refine Jr<|JA I<|Jn<|Jq<|Jd I fun aA=>Jk<|Jq<|J0<|Jr<|Jv I<|ab (aC (.of I) (.of I) AT (by omega) aA bu) I<|ab (iD (eO.base aG I)) I<|Jz I I fun _ _=>Ja I<|aq (.of I) (.of I) .here I I (gK I I) (bF I) an<|Ji<|Jv I<|Jv I<|ab (gE (.of I) (.of I) (by omega) (by omega)) I<|ab (bI .nil (.o I .nil)) I ?_)
  rename_i b7 Ve
  with_reducible apply aj
  case hr=>exact bo
  case hd=>rfl
  case hc=>
   intro w' az;have f7:w'.cell? ⟨b7,0,none⟩=some (.string xd):=(BR.of (cs:=[.string xd,.slice ax xs.length cx]) az (by exact .here)) 0 _ I;exact Ot (f:=249) (p:=fun y=>decide (y.tk.de=xd)) (first:=[]) (cap:=[.p b7]) (ss.keeps az.keeps) (fun y hy w2 eL=>TK (cD f7 I eL))
  rw [Sv]
  (refine Ja I<|Ji<|bN I I ae<|JL I .here I<|ab (bI .nil (.o I .nil)) I ?_)
  with_reducible apply aj
  case hr=>exact bo
  case hd=>rfl
  case hc=>
   intro w' az;have hR:=h.keeps az.keeps;have hA:BR w' b2 [.q r.lv,.q r.ma,s,d,t,p]:=BR.of az (by exact Take.there .here);exact K2 (f:=251) (p:=mP r) (first:=[]) (cap:=[.p b2]) (RI.keeps az.keeps) (fun o ho w2 eL=>TL o (hR.keeps eL) (hA.keeps eL))
  refine Ja I<|Jn<|Jq ?_
  with_reducible refine cS 16 (by kernel_rfl) ?_
  (refine ar (cN (.there .here)) I<|ar k9 I<|ar (ic .here) I<|aZ bo I (fun w' az=>(fF w' (Mem.keeps az)))<|ar kL I<|aZ bo I (fun w' az=>(dO _ 9 w'))<|ar k9 I<|ar (ic .here) I<|ar (bz (.of I)) I<|ar k9 I<|ar (ic (.there .here)) I<|ar (eE (.of I) (.of I)) I<|aZ bo I (fun w' az=>(dO _ 2 w'))<|ar kL I<|aZ bo I (fun w' az=>(dO _ 10 w'))<|eA (aB (.o I (.o I (.o I (.o I .nil)))) I I I I) I I ?_)
  with_reducible refine dz I fun b55 Y4=>?_
  (refine aj bS I (fun w' az=>(dE (Mem.dB az .here I I) (cg.cons (cg.cons (cg.cons (cg.cons cg.nil))))))<|Ja I<|Ji<|Jv I<|JD I<|Jn<|gR I (fun aA=>?_) fun aA=>?_;refine Jr<|Jv I<|Ja I<|Jn<|Je<|Jm<|Jh<|Jh<|Jm<|Jh<|JT ?_;rotate_left;refine Jw<|Jj<|Jt<|Jg<|JB I (by omega)<|Jv I<|Jn ?_;rotate_right)
  ·rw [<- jJ] at aA ⊢;have hB:jK (L9 r (du l)) l.length=L9 r (du l) k:=fj hf aN aA;rw [hX,hB]
  have hz:L9 r (du l) k=0:=by rw [jJ];exact Zr.1 aA
  apply aI (k+1) ⟨by omega,fun i hi=>by
   by_cases e:i=k
   ·rw [e];exact hz
   ·exact hf i (by omega)⟩ (by omega)
  case hs1=>exact cB
  case ht=>(try simp only [Ze,Zf,Za]);exact .cons bO .nil
 ·obtain rfl:k=l.length:=by omega
  have SC:jK (L9 r (du l)) l.length=0:=dC.2 hf;rw [hX,SC];refine Jr<|JA I<|Jn<|Jq<|Jc I fun aA=>Jp<|Jl<|Jo<|Jt<|Jr<|Ja I<|Jn<|Je<|JT ?_
  rfl
def yX (v:Int) (o:ByteArray) (x:Po):Bool:=decide (x.lv=v)&&decide (x.ou=o)
theorem TH {x:Po} (v:Int) (o:ByteArray) {b1 b2:Nat} {w:World} (f1:w.cell? ⟨b1,0,none⟩=some (.q v)) (f2:w.cell? ⟨b2,0,none⟩=some (.string o)) :
  ao T_ 315 [.agg x.cells.toArray,.p b1,.p b2] w (.bool (yX v o x)):=by
 unfold Po.cells;refine ak func315 I I ?_
 (refine Jr<|Jy I I fun _ _=>Ja I<|Ji<|ab (cN .here) I<|ab (ag (.of I) (At.base f1 I)) I<|ab (ag (.of I) (At.base f2 I)) I<|bN I I ae<|JL I .here I<|ab (aX (.o I (.o I (.o I .nil))) an) I<|ab (uM (.of I) (.of I) (ka (fD (fD lZ))) I) I<|Ja I<|Jn<|Je<|JT ?_)
 simp [yX]
def RB (b:Nat) (r:Ro) (s d t p:Value):bh:=JP b r s d t p
def PB (p:Value) (l:List Po):bh:=row 188 3 p l.length (jb l)
set_option maxHeartbeats 1000000 in
theorem yq {s d t p:Value} {l:List Po} (v:Int) (o:ByteArray) {w:World} {fp:List Nat} (jX:fp.Nodup) (hs:cA (hp w) [RB b r s d t p,PB p l] fp) (cJ:l.length<=1000000) :
  bB T_ 256 [.p b,.q v,.string o] w fp (fun _:Value=>True) (fun _=>.tuple #[]) (fun p'=>[RB b r s d t p',PB p' (l.filter fun x=>!yX v o x)]):=by
 unfold RB PB at *;refine er func256 I I jX hs ?_
 (refine Jr<|Jy I I fun _ _=>Jy I I fun _ _=>Jn<|Jg<|Jv I<|Jv I<|ab (ee (.of I)) I<|bN I I ae<|JL I bO I<|ab (bI .nil (.o I (.o I .nil))) I ?_)
 rename_i b4 xB b5 Mu
 with_reducible apply fW (As:=[row 188 3 p l.length (jb l)])
 case hr=>exact bo
 case hd=>rfl
 case ht=>exact .cons c6 .nil
 case hc=>
  intro w1 Bx aY wm hs1 Dm kY;have h4:b4 ∉ Bx:=kY b4 _ _ (by exact Take.there .here);have h5:b5 ∉ Bx:=kY b5 _ _ (by exact .here);have f4:w1.cell? ⟨b4,0,none⟩=some (.q v):=At.lit (by exact Take.there .here) I w1 aY;have f5:w1.cell? ⟨b5,0,none⟩=some (.string o):=At.lit (by exact .here) I w1 aY;exact OO (f:=315) (p:=yX v o) (first:=[]) (cap:=[.p b4,.p b5]) wm hs1 I cJ (fun x _ w2 eL=>TH v o (eD f4 I h4 eL) (eD f5 I h5 eL))
 intro p' _;dsimp only [id_eq,Zb,Za];refine aT (by exact .here) fun va vc e=>?_;subst e
 (refine ab (ee (.of I)) I<|bN I I ae<|aq (.of I) (.of I) c6 I I (dG I) (bF I) an<|Jx ?_)
 with_reducible first|apply aP|apply aQ
 case he=>exact qt I
 case hR=>
  intro w' az;exact aF (.slice va (l.filter fun x=>!yX v o x).length vc) trivial (by exact .h2 .nil) az I
theorem Hn {l:List Po} (h:Rd w lv 3 (sq l)) (hl:l.length<=1000) :
  bB T_ 316 [lv] w [] (fun _:Value=>True) id (fun v=>[row 188 3 v l.length (jb l)]):=by
 have h':=h;obtain ⟨a,cp,b,o,rfl,dD,cr,ha,hc⟩:=h;refine aV func316 I I ?_;cases a with
 | none =>
  have oo:l=[]:=by
   cases l with
   | nil=>rfl
   | cons x r=>exact absurd (ha (by simp [sq])) (by simp)
  subst oo
  (refine Jr<|Ja I<|Jn<|Jq<|Jr<|Jv I<|ab (gN (.of I) (.of I)) I<|Jn<|ch (.of I)<|Jr<|Ja I<|Jn<|Ju ?_)
  refine aR 188 3 ?_
  with_reducible first|apply aP|apply aQ
  case he=>exact dS I I
  case hR=>
   intro w' az;exact aF (.z) trivial (by exact .h1 .nil) az I
 | some ad =>
  (refine Jr<|Ja I<|Jn<|Jq<|Jr<|Jv I<|ab (gN (.of I) (.of I)) I<|Jn<|bJ (.of I)<|Jk<|Jr ?_)
  with_reducible apply bn
  case hr=>exact kU
  case hd=>rfl
  intro bq lN;refine Pv I I ?_;refine bR (g:=bq) (E:=188) (ys:=[]) 0 3 (by exact .here) I I I ?_
  with_reducible apply eK
  case hx=>exact Is.of I
  case hy=>exact Is.of I
  case ht=>exact .here
  case hsrc=>exact fun w' az=>h'.keeps az.keeps
  case h1=>exact Aq l
  case hz=>exact I
  case hsz=>exact I
  case hb0=>exact I
  case hb=>rw [cO];omega
  case hd=>rfl
  intro v';rw [cO,ZE,Za,<- Ap];refine Ja I<|Jn<|Je ?_
  with_reducible first|apply aP|apply aQ
  case he=>exact dS I I
  case hR=>
   intro w' az;exact aF v' trivial (by exact .h1 .nil) az I
def We (w:World) (b:Nat) (l:List (ByteArray×Value)):Prop:=∃ es clock,w.heap[b]? = some (.map es clock)/\JX (fun s:ByteArray=>Value.string s) l es clock
theorem We.jE {w w':World} {md:List Nat} (h:We w b l) (hn:b ∉ md) (hk:aH md w w'):We w' b l:=by
 obtain ⟨es,ck,h1,h2⟩:=h;have hb:b<w.heap.size:=(Z0.1 h1).1;have:=hk.block b hb hn;exact ⟨es,ck,by rw [this,h1],h2⟩
theorem vv {ty:TypeId} {t kt et:TypeId} {k:ByteArray} {z V:Value} [hu:gJ P t (.map kt et)] [G4:gJ P kt .string] [hz:lQ P et z]
  (hx:Is sl x (.map (some b))) (hy:Is sl y (.string k)) (hl:Looks c hs b (fun s:ByteArray=>Value.string s) l) (e:(eN k l).getD z=V) :
  cM P c sl hs ⟨dst,.lookup t x y false,ty,pos,af,g⟩ V:=e ▸ GF Kg hx hy hl
def Q6 (r:Ro) (x y:Po):Int:=ba [kH x.lv y.lv,kH (dY r x.ou) (dY r y.ou)]
theorem QL {x y:Po} {b bm:Nat} (hd:Dq r) (hx:fy (cY r) x.ou=true) (hy:fy (cY r) y.ou=true) (f:w.cell? ⟨b,0,none⟩=some (.map (some bm))) (hm:We w bm (oI r)) :
  ao T_ 318 [.agg x.cells.toArray,.agg y.cells.toArray,.p b] w (.q (Q6 r x y)):=by
 have ex:(eN x.ou (oI r)).getD (lM 0 0 0)=lM (dY r x.ou) (jR r x.ou) (jH r x.ou):=by rw [qA hd,hx];rfl
 have ey:(eN y.ou (oI r)).getD (lM 0 0 0)=lM (dY r y.ou) (jR r y.ou) (jH r y.ou):=by rw [qA hd,hy];rfl
 unfold Po.cells;refine ak func318 I I ?_;refine Jr<|Jy I I fun _ _=>Jy I I fun _ _=>Ja I<|Jn<|Jq ?_
 with_reducible refine cS 17 (by kernel_rfl) ?_
 (refine ar k9 I<|ar (ic (.there .here)) I<|ar k9 I<|ar (ic .here) I<|aZ bo I (fun w' az=>(CQ _ _ w'))<|ar (ag (.of I) (At.base f I)) I<|ar k9 I<|ar (ic (.there .here)) I ?_)
 refine ar (vv (l:=oI r) (z:=lM 0 0 0) (V:=.agg #[.q (dY r x.ou),.q (jR r x.ou),.q (jH r x.ou)]) (Is.of I) (Is.of I) (fun w' az=>hm.jE (by simp) az.keeps) ex) I ?_
 (refine ar (Ca (.of I) I) I<|ar (ag (.of I) (At.base f I)) I<|ar k9 I<|ar (ic .here) I ?_)
 refine ar (vv (l:=oI r) (z:=lM 0 0 0) (V:=.agg #[.q (dY r y.ou),.q (jR r y.ou),.q (jH r y.ou)]) (Is.of I) (Is.of I) (fun w' az=>hm.jE (by simp) az.keeps) ey) I ?_
 (refine ar (Ca (.of I) I) I<|aZ bo I (fun w' az=>(CQ _ _ w'))<|eA (aB (.o I (.o I .nil)) I I I I) I I ?_)
 with_reducible refine dz I fun bq lN=>?_
 skip
 refine aj bS I (fun w' az=>T6 (l:=[kH x.lv y.lv,kH (dY r x.ou) (dY r y.ou)]) (Mem.dB az (by exact .here) I I)) ?_;refine Ja I<|Jn<|Je<|JT ?_
 rfl
end Go.Proofs.A1
namespace Go.Proofs.A1
open Go Go.SL Go.Shelf
open Tryz
open Tryz renaming prog->T_
theorem uO (r:Ro) (x y:Po):Q6 r x y<0↔x.lv<y.lv\/(x.lv=y.lv/\dY r x.ou<dY r y.ou):=by
 unfold Q6;generalize dY r x.ou=a;generalize dY r y.ou=b;simp only [ba,kH]
 repeat' split
 all_goals omega
theorem Nz {α:Type} (r:Ro) (g:α->Po):Go.Sort.SWO (ltOf fun x y:α=>Q6 r (g x) (g y)):=by
 constructor
 ·intro x;unfold ltOf;rw [decide_eq_false_iff_not,uO];omega
 ·intro x y z h1 h2;unfold ltOf at *;rw [decide_eq_true_eq,uO] at *;omega
 ·intro x y z h1 h2;unfold ltOf at *;rw [decide_eq_false_iff_not,uO] at *;omega
theorem Ih {r:Ro} {v:Value} {l:List Po} {Mx bm:Nat} {w:World} {fp:List Nat} (hs:cA (hp w) [PB v l] fp) (hd:Dq r) (iV:∀ x∈l,fy (cY r) x.ou=true) (cJ:l.length<=1000000)
  (f:w.cell? ⟨Mx,0,none⟩=some (.map (some bm))) (hm:We w bm (oI r)) (h14:Mx ∉ fp) (Mt:bm ∉ fp) :
  bB T_ 317 [v,.func (.func 318) #[] #[.p Mx]] w fp (fun l':List Po=>l'.Perm l/\l'.Pairwise (fun x y=>¬ Q6 r y x<0)) (fun _=>.tuple #[]) (fun l'=>[PB v l']):=by
 obtain ⟨f1,f2,rfl,h1,h2⟩:=hs;obtain rfl:f2=[]:=h2;obtain ⟨rfl,hlen,h1⟩:=h1;rw [ZQ] at *;rcases h1 with ⟨rfl,h0⟩ | ⟨g,cap,cur,rfl,hg,kM,jT,qe,AS⟩
 ·have oo:l=[]:=Z4 (by omega);subst oo;refine (AnyF.slices_SortFunc_none Tryz.DN none 0 (.func (.func 318) #[] #[.p Mx]) w).mono fun e w' ⟨he,hw⟩=>?_;subst hw;exact ⟨[],he,⟨.refl _,.nil⟩,.refl _ _,[],Zah,⟨[],[],I,⟨I,hlen,.inl ⟨I,h0⟩⟩,I⟩,by simp⟩
 ·have Ss:g<w.heap.size:=(Z0.1 hg).1;by_cases oo:l=[]
  ·subst oo;refine (AnyF.slices_SortFunc_none Tryz.DN (some ⟨g,0,none⟩) cap (.func (.func 318) #[] #[.p Mx]) w).mono fun e w' ⟨he,hw⟩=>?_;subst hw;exact ⟨[],he,⟨.refl _,.nil⟩,.refl _ _,[g],by simp,⟨[g],[],I,⟨I,hlen,.inr ⟨g,cap,cur,I,hg,kM,jT,qe,AS⟩⟩,I⟩,fun b hb=>.inl hb⟩
  obtain ⟨x0,RI⟩:=List.exists_mem_of_ne_nil l oo
  let α:={x:Po // fy (cY r) x.ou=true}
  let _:Inhabited α:=⟨⟨x0,iV x0 RI⟩⟩
  let enc:α->List Value:=fun x=>x.1.cells
  have nH:cur=([]++jb l++cur.toList.drop (l.length*3)).toArray:=by
   apply Array.ext';show cur.toList=_;rw [<- AS,Za,ZX]
  generalize UG:cur.toList.drop (l.length*3)=post at nH
  let la:List α:=l.attach.map fun x=>⟨x.1,iV x.1 x.2⟩
  have Se:la.map (fun x:α=>x.1)=l:=by
   show (l.attach.map fun x=>(⟨x.1,iV x.1 x.2⟩:α)).map (fun x:α=>x.1)=l
   rw [ZaI];exact List.attach_map_subtype_val l
  have CB:∀ m:List α,(m.map enc).flatten=jb (m.map fun x:α=>x.1):=fun m=>by
   rw [Ap];unfold sq;rw [ZaI];rfl
  have Em:la.length=l.length:=by
   show (l.attach.map fun x=>(⟨x.1,iV x.1 x.2⟩:α)).length=_
   rw [Zd,List.length_attach]
  have tX:w.heap[g]? = some (.cells ([]++(la.map enc).flatten++post).toArray 188 (0,0)):=by rw [CB,Se,<- nH];exact hg
  have key:=BQ Tryz.DN (k:=3) isAgg188 sizeOf188 (enc:=enc) (fun _=>rfl)
   (fun x u hu=>by
    simp only [enc,Po.cells,ZO,Zo,or_false] at hu;rcases hu with rfl | rfl | rfl <;> rfl)
   (Nz r (fun x:α=>x.1)) (g:=318) (b:=g) (cap:=cap) (cb:=#[.p Mx]) (l:=la) (pre:=[]) (cur:=post) (E:=188) (w:=w)
   (enters_of func318 (by kernel_rfl) I) tX (by rw [Em];omega)
   (fun w' hk x y=>QL (r:=r) (x:=x.1) (y:=y.1) hd x.2 y.2 (eD f I h14 hk) (hm.jE Mt hk))
  rw [Em] at key;refine Calls.mono key ?_;rintro e w' ⟨he,l',iB,X5,hk,dK⟩;have zg:(l'.map fun x:α=>x.1).length=l.length:=by rw [Zd,iB.length_eq,Em]
  rw [CB] at dK;refine ⟨l'.map fun x:α=>x.1,he,⟨?_,?_⟩,hk,[g],by simp,⟨[g],[],I,⟨I,?_,.inr ⟨g,cap,_,?_,dK,?_,jT,?_,?_⟩⟩,I⟩,fun b hb=>.inl hb⟩
  ·have:=iB.map (fun x:α=>x.1)
   rwa [Se] at this
  ·rw [Zbq];refine X5.imp fun {x y} h=>?_;unfold ltOf at h;rwa [decide_eq_false_iff_not] at h
  ·exact jz _
  ·rw [zg]
  ·rw [zg];exact kM
  ·rw [<- qe];have:=congrArg (fun x:Array Value=>x.size) nH
   simp only [Zbm,Zg,jz,Zan,ZE] at this ⊢;rw [zg,this]
  ·show List.take _ ([]++jb _++post)=_;rw [Za,Zad (by rw [jz];exact ZC _),Zal (by rw [jz];exact ZC _)]
end Go.Proofs.A1
namespace Go.Proofs.A1
open Go Go.SL
open Tryz
open Tryz renaming prog->T_
set_option maxHeartbeats 2000000 in
theorem Ar {r:Ro} {s d t p:Value} {w:World} (h:RR w r s d t p) (cJ:me r) (X9:r.po.length<=1000000) :
  bB T_ 184 [RA r s d t p] w [] (fun _:Value×Value×Value×Value=>True) (fun x=>RA r x.1 x.2.1 x.2.2.1 x.2.2.2) (fun x=>[J1 r x.1,J2 r x.2.1,J3 r x.2.2.1,PB x.2.2.2 r.po]):=by
 obtain ⟨h1,h2,h3,h4⟩:=h.one;have KE:=h.po;have om:=h.po;obtain ⟨a4,cp4,q4,o4,rfl,zj,mQ,HA,AS⟩:=om;rw [cO] at *;unfold maxLen at mQ;unfold RA;refine aV func184 I I ?_
 (refine Jr<|Jy I I fun _ _=>Jz I I fun _ _=>Ji<|ab (cN (.there .here)) I<|Jz I I fun _ _=>aq (.of I) (.of I) .here I I (hG I I h1 h2 h3 I) (bF I) an<|Jn<|Jq ?_)
 have hs0:=h.sr;have Sl:=h.de
 with_reducible refine dy 7 (by kernel_rfl) ?_
 (refine ah (fun β=>(ai (.of I) ae)) dJ I<|ah (fun β=>(ag (.of I) (At.lit bO I))) dJ I ?_)
 dsimp only [Nat.zero_add,Nat.reduceAdd]
 with_reducible apply cZ (ι:=Value) (Φ:=fun _=>True) (val:=id) (own:=fun x=>[J1 r x]) (g:=id) (B:=[]) (args:=fun _=>[s])
 case hg=>exact fun x=>⟨x,I⟩
 case hB=>rfl
 case hr=>exact fun β=>a8 (.of I) (.o I .nil) inferInstance I
 case hd=>rfl
 case hc=>exact fun β w' hb=>Hm (h.sr.keeps hb.mem.keeps) (by have:=cJ.1;omega)
 dsimp only [id_eq,Nat.reduceAdd]
 (refine ah (fun β=>(ai (.of I) ae)) dJ I<|ah (fun β=>(ag (.of I) (At.lit bO I))) dJ I ?_)
 dsimp only [Nat.zero_add,Nat.reduceAdd]
 with_reducible apply cZ (ι:=Value) (Φ:=fun _=>True) (val:=id) (own:=fun x=>[J2 r x]) (g:=id) (B:=[]) (args:=fun _=>[d])
 case hg=>exact fun x=>⟨x,I⟩
 case hB=>rfl
 case hr=>exact fun β=>a8 (.of I) (.o I .nil) inferInstance I
 case hd=>rfl
 case hc=>exact fun β w' hb=>Ho (h.de.keeps hb.mem.keeps) (by have:=cJ.2.1;omega)
 dsimp only [id_eq,Nat.reduceAdd];refine ah (fun β=>(ai (.of I) ae)) dJ I ?_;refine eG fun β=>?_;dsimp only [dX,Za,Zb,List.append_eq,Nat.reduceAdd];generalize β 2=sv;generalize β 5=dv;clear β;refine aT (v:=sv) (by exact .here) fun sa sc e=>?_;subst e;refine aT (v:=dv) (by exact Take.there .here) fun da dc e=>?_;subst e;refine cI (rs:=[7]) (by kernel_rfl) (by simp) (Zt.2 ⟨?_,fun _ h=>absurd h Zo⟩);refine cQ I ?_
 (refine aq (.of I) (.of I) bO I I (dG I) (bF I) an<|Jn ?_)
 refine cI (rs:=[8]) (by kernel_rfl) (by simp) (Zt.2 ⟨?_,fun _ h=>absurd h Zo⟩);refine cQ I ?_
 (refine bN I I ae<|Jn ?_)
 refine cI (rs:=[9]) (by kernel_rfl) (by simp) (Zt.2 ⟨?_,fun _ h=>absurd h Zo⟩);refine cQ I ?_
 (refine aq (.of I) (.of I) .here I I (dG I) (bF I) an<|Jn ?_)
 with_reducible refine cn (by kernel_rfl) ?_
 (refine Jt<|Jr<|bN I I ae<|JL I dF I ?_)
 refine JN bS I (fun w1 aY=>Hl (h.keeps aY.keeps).ti (by have:=cJ.2.2;omega)) ?_;intro tv _;dsimp only [id_eq,Zb,Za];refine aT (v:=tv) (by exact .here) fun ta tc e=>?_;subst e
 (refine bN I I ae<|aq (.of I) (.of I) (.there .here) I I (dG I) (bF I) an<|Ji<|bN I I ae<|JL I fx I<|JI I ?_)
 with_reducible apply bn
 case hr=>
  with_reducible apply Nq
  case hx=>exact Is.of I
  case hy=>exact Is.of I
  case hl=>exact ZC _
  case hb=>omega
  case hz=>rfl
  case hsz=>rfl
  case h63=>omega
 case hd=>rfl
 intro bg Ss
 (refine bN I I ae<|aq (.of I) (.of I) (.there .here) I I (dG I) (bF I) an<|Ji<|bN I I ae<|JL I .here I<|bN I I ae<|JL I qY I ?_)
 with_reducible apply H0
 case hx=>exact Is.of I
 case hy=>exact Is.of I
 case ht=>exact Take.there .here
 case hsrc=>exact fun w' az=>KE.keeps az.keeps
 case h1=>exact Aq r.po
 case hfit=>
  simp [Value.cells]
 case hd=>rfl
 rw [Zal (by rw [cO];exact ZC _),<- Ap,zZ _ _ (by rw [jz];simp [Value.cells])];refine dq (n:=r.po.length) (xs:=jb r.po) (cap:=r.po.length) (g:=bg) (E:=188) (sz:=3) (by exact .here) (ZC _) (by unfold maxLen;omega) ?_ (jz _) ?_
 ·rw [Zg,Zbe,jz];simp [Value.cells]
 (refine Ji<|ab (cN (.there .here)) I<|aq (.of I) (.of I) fx I I (hG I I I I I I) (bF I) an<|Jn<|Je ?_)
 with_reducible first|apply aP|apply aQ
 case he=>exact kd I inferInstance I .here an (by rfl)
 case hR=>
  intro w' az;exact aF (.slice sa r.sr.length sc,.slice da r.de.length dc,.slice ta r.ti.length tc,.w bg r.po.length r.po.length) trivial (by exact .cons dF (.cons dF (.cons c6 (.cons (.there .here) .nil)))) az I
end Go.Proofs.A1
namespace Go.Proofs.A1
structure Sw (po:List Po) (D:List ByteArray) (f:Po->Bool):Prop where
 de:∀ p∈po,p.ou∈D->f p=true
 up:∀ p∈po,∀ q∈po,f q=true->q.lv=p.lv->q.ip=p.ou->f p=true
theorem Sw.start (po:List Po) (D:List ByteArray):Sw po D fun _=>true:=⟨fun _ _ _=>rfl,fun _ _ _ _ _ _ _=>rfl⟩
theorem Sw.step {po:List Po} {D:List ByteArray} {f:Po->Bool} (h:Sw po D f) {v:Int} {o:ByteArray} (hD:o ∉ D) (hu:∀ q∈po,f q=true->¬ (q.lv=v/\q.ip=o)):Sw po D fun x=>f x&&!yX v o x:=by
 refine ⟨fun p hp hd=>?_,fun p hp q hq hf e1 e2=>?_⟩
 ·have h1:=h.de p hp hd;have h2:yX v o p=false:=by
   unfold yX;have:¬ p.ou=o:=fun e=>hD (e ▸ hd)
   simp [this]
  simp [h1,h2]
 ·rw [Bool.and_eq_true] at hf;have h1:=h.up p hp q hq hf.1 e1 e2;have h2:yX v o p=false:=by
   unfold yX;by_cases a:p.lv=v
   ·by_cases b:p.ou=o
    ·exact absurd ⟨e1.trans a,e2.trans b⟩ (hu q hq hf.1)
    ·simp [b]
   ·simp [a]
  simp [h1,h2]
theorem tZ (po:List Po) (f:Po->Bool) (v:Int) (o:ByteArray):(po.filter f).filter (fun x=>!yX v o x)=po.filter fun x=>f x&&!yX v o x:=by
 rw [List.filter_filter];congr 1;funext x;exact Bool.and_comm _ _
end Go.Proofs.A1
namespace Go.Proofs.A1
open Go Go.SL
def Ro.wp (r:Ro) (po:List Po):Ro:=⟨r.lv,r.ma,r.sr,r.de,r.ti,po⟩
variable {i:Nat} {j:Jb} {k:Nat} {p:Po} {po q:List Po} {r:Ro} {v:Int}
theorem gV.wp (h:gV r po):gV (r.wp q) po:=⟨h.qZ,h.Kd,h.out,h.vY,h.Mh,h.CP,h.use⟩
theorem n9.wp (h:n9 r):n9 (r.wp q):=⟨h.sd,h.st,h.dt,h.Te⟩
theorem Dq.wp (h:Dq r):Dq (r.wp q):=⟨h.nd⟩
theorem qX.wp (h:qX r) {q:List Po} (hq:gV r q):qX (r.wp q):=⟨h.lim,h.EC.wp,h.len,h.sm,h.dm,h.tm,hq.wp⟩
theorem qX.nd (h:qX r):(ct r).Nodup:=h.EC.parts.2.2.1
def xJ (D:List ByteArray) (po:List Po):List Po:=po.filter fun p=>fy D p.ou||po.any fun q=>decide (q.lv=p.lv)&&decide (q.ip=p.ou)
def Gy (D:List ByteArray):Nat->List Po->List Po
 | 0,po=>po
 | n+1,po=>Gy D n (xJ D po)
def vl (D:List ByteArray) (po:List Po):List Po:=Gy D po.length po
theorem BK {D:List ByteArray} {po:List Po} (h:xJ D po=po):∀ n,Gy D n po=po
 | 0=>rfl
 | n+1=>by rw [Gy,h];exact BK h n
theorem E6 {D:List ByteArray}:∀ (n:Nat) (po:List Po) (f:Po->Bool),Sw po D f->(po.filter f).length<=n ->
  ∃ g:Po->Bool,Sw po D g/\Gy D n (po.filter f)=po.filter g/\xJ D (po.filter g)=po.filter g
 | 0, po, f, h, hl => by
  have e:po.filter f=[]:=Z4 (by omega);exact ⟨f,h,I,by rw [e];rfl⟩
 | n + 1, po, f, h, hl => by
  have hS:Sw po D fun p=>f p&&(fy D p.ou||(po.filter f).any fun q=>decide (q.lv=p.lv)&&decide (q.ip=p.ou)):=by
   refine ⟨fun p hp hd=>?_,fun p hp q hq hf e1 e2=>?_⟩
   ·have:=h.de p hp hd;show (f p&&(fy D p.ou||_))=true;rw [this,dN.2 hd];rfl
   ·rw [Zm] at hf;have h1:=h.up p hp q hq hf.1 e1 e2;rw [h1,Zav,ZP]
    right
    rw [ZR];exact ⟨q,ZA.2 ⟨hq,hf.1⟩,by simp [e1,e2]⟩
  have e:xJ D (po.filter f)=po.filter fun p=>f p&&(fy D p.ou||(po.filter f).any fun q=>decide (q.lv=p.lv)&&decide (q.ip=p.ou)):=by
   unfold xJ;rw [ZbA];refine Zbb fun p _=>?_;rw [Bool.and_comm]
  by_cases YL:xJ D (po.filter f)=po.filter f
  ·exact ⟨f,h,BK YL _,YL⟩
  ·have aN:(xJ D (po.filter f)).length<(po.filter f).length:=by
    have hle:(xJ D (po.filter f)).length<=(po.filter f).length:=Z5 _ _;rcases Zbp (xJ D (po.filter f)).length (po.filter f).length with h1 | h1
    ·exact h1
    ·exact absurd (List.filter_sublist.eq_of_length (Nat.le_antisymm hle h1)) YL
   rw [Gy,e];exact E6 n po _ hS (by rw [<- e];omega)
structure Swd (po:List Po) (D:List ByteArray) (f:Po->Bool):Prop where
 sw:Sw po D f
 us:∀ p∈po,f p=true->p.ou∈D\/∃ q∈po,f q=true/\q.lv=p.lv/\q.ip=p.ou
theorem E7 (D:List ByteArray) (po:List Po):∃ g,Swd po D g/\vl D po=po.filter g:=by
 obtain ⟨g,h1,h2,h3⟩:=E6 (D:=D) po.length po (fun _=>true) ⟨fun _ _ _=>rfl,fun _ _ _ _ _ _ _=>rfl⟩ (Z5 _ _);rw [Zaw.2 fun _ _=>rfl] at h2
 refine ⟨g,⟨h1,fun p hp hg=>?_⟩,h2⟩;have hm:p∈xJ D (po.filter g):=by rw [h3];exact ZA.2 ⟨hp,hg⟩
 have:=(ZA.1 hm).2;rw [ZP,dN,ZR] at this;rcases this with h | ⟨q,hq,e⟩
 ·exact .inl h
 ·rw [Zm,decide_eq_true_eq,decide_eq_true_eq] at e;obtain ⟨a,b⟩:=ZA.1 hq;exact .inr ⟨q,a,b,e.1,e.2⟩
structure Pf (r:Ro) (po:List Po):Prop where
 one:tD po
 out:∀ p∈po,p.ou∈bY r\/p.ou∈ct r
 vY:∀ p∈po,p.ip∈cz r\/p.ip∈ct r
 CP:∀ v,¬ ∃ t∈ct r,t∈fk po v ((ct r).length+1) t
theorem gV.acy (h:gV r po):Pf r po:=⟨gV.one h.qZ,h.out,h.vY,h.CP⟩
theorem Pf.sub (h:Pf r po) (f:Po->Bool):Pf r (po.filter f):=by
 have hs:∀ p∈po.filter f,p∈po:=fun p hp=>(ZA.1 hp).1
 exact ⟨h.one.filter f,fun p hp=>h.out p (hs p hp),fun p hp=>h.vY p (hs p hp),fun v ⟨t,ht,hc⟩=>h.CP v ⟨t,ht,A7 h.one hs hc⟩⟩
theorem Pf.short (hn:n9 r) {po:List Po} (h:Pf r po):∀ v o m,(ct r).length+1<=m->fk po v m o=fk po v ((ct r).length+1) o:=fun v o m hm=>
 mU (T:=ct r) (gV.tie hn h.out h.vY) (h.CP v) o hm
theorem Pf.tid (hn:n9 r) {po:List Po} (h:Pf r po) {f:Po->Bool} (hf:Swd po (bY r) f):po.filter f=vl (bY r) po:=by
 obtain ⟨g,hg,e⟩:=E7 (bY r) po;rw [e];exact NL h.one (h.short hn) hf.sw.de hf.sw.up hf.us hg.sw.de hg.sw.up hg.us
def Tk.at (t:Tk) (k:Nat):ByteArray:=t.so.getD k ⟨#[]⟩
def Tk.zero:Tk:=⟨⟨#[]⟩,[]⟩
def nY (r:Ro) (t:Tk) (k:Nat):Bool:=!decide (t.at k=⟨#[]⟩)&&!decide (t.at k=kN r (k:Nat) t.de)
def nQ (r:Ro) (t:Tk):Nat->List Po->List Po
 | 0,po=>po
 | k+1,po=>if nY r t k then (nQ r t k po).filter (fun x=>!yX (k:Nat) t.de x) else nQ r t k po
def jM (r:Ro) (l:List Tk):Nat->List Po
 | 0=>r.po
 | i+1=>nQ r (l.getD i Tk.zero) (l.getD i Tk.zero).so.length (jM r l i)
def dash:ByteArray:=⟨#[45]⟩
def nX (r:Ro) (t:Tk) (k:Nat):Bool:=nY r t k&&!decide (t.at k=dash)
def ll (r:Ro) (t:Tk):Nat->List Po->Option (List Po)
 | 0,po=>some po
 | k+1,po=>(ll r t k po).bind fun q=>if nX r t k then (kO (r.wp q) (k:Nat) (t.at k) t.de).map fun p=>lL r q (k:Nat) (t.at k) p t.de else some q
def ju (r:Ro) (l:List Tk) (po:List Po):Nat->Option (List Po)
 | 0=>some po
 | i+1=>(ju r l po i).bind (ll r (l.getD i Tk.zero) (l.getD i Tk.zero).so.length)
theorem GB {t:Tk} (h:ll r t k po=none):∀ {m},k<=m->ll r t m po=none:=by
 intro m hm
 induction hm with
 | refl=>exact h
 | step _ ih=>rw [ll,ih];rfl
theorem yK {l:List Tk} (h:ju r l po k=none):∀ {m},k<=m->ju r l po m=none:=by
 intro m hm
 induction hm with
 | refl=>exact h
 | step _ ih=>rw [ju,ih];rfl
def IH (r:Ro) (l:List Tk) (po:List Po):Nat:=((List.range l.length).find? fun i=>(ju r l po (i+1)).isNone).getD 0
theorem Ns {l:List Tk} (hi:i<l.length) {q:List Po} (h1:ju r l po i=some q) (h2:ju r l po (i+1)=none):IH r l po=i:=by
 unfold IH;have:(List.range l.length).find? (fun i=>(ju r l po (i+1)).isNone)=some i:=by
  rw [List.find?_eq_some_iff_append];refine ⟨by rw [h2];rfl,List.range i,(List.range (l.length-i-1)).map (fun x=>x+i+1),?_,fun j hj=>?_⟩
  ·apply List.ext_getElem
   ·simp;omega
   ·intro n a b;rw [Zby];rcases Zao n i with c | c | c
    ·rw [Zac (by simpa using c)];simp
    ·subst c;rw [Zag (by simp)];simp
    ·rw [Zag (by simp;omega)];simp only [Zar];obtain ⟨d,hd⟩:∃ d,n-i=d+1:=⟨n-i-1,by omega⟩;simp only [hd,List.getElem_cons_succ,Z2,Zby];omega
  ·have hj:=ZU.1 hj;cases hn:ju r l po (j+1) with
   | some _=>rfl
   | none=>rw [yK hn (show j+1<=i by omega)] at h1;cases h1
 rw [this];rfl
def rI (r:Ro) (l:List Tk):Int:=gH (fun t=>(r.de.getD (br (bY r) t.de).toNat ⟨⟨#[]⟩,0,false⟩).pr) l
def Ro.nil:Ro:=⟨0,0,[],[],[],[]⟩
def kg (r:Ro) (l:List Tk):Ro×Int×Int:=
 if 0<=rI r l then (Ro.nil,rI r l,31) else
 match ju r l (vl (bY r) (jM r l l.length)) l.length with
 | none=>(Ro.nil,(IH r l (vl (bY r) (jM r l l.length)):Nat),18)
 | some po=>(r.wp po,0,0)
structure HB (r:Ro) (l:List Tk):Prop where
 de:∀ t∈l,t.de∈bY r
 nd:(l.map Tk.de).Nodup
 lv:∀ t∈l,(t.so.length:Int)=r.lv
 so:∀ t∈l,∀ s∈t.so,s=⟨#[]⟩\/s=dash\/s∈cz r
 Ez:l.length<=8
theorem HB.wp {l:List Tk} (h:HB r l) (q:List Po):HB (r.wp q) l:=⟨h.de,h.nd,h.lv,h.so,h.Ez⟩
def ON (r:Ro) (t:Tk) (k:Nat) (p:Po):Bool:=(List.range k).any fun i=>nY r t i&&yX (i:Nat) t.de p
theorem nK (r:Ro) (t:Tk):∀ (k:Nat) (po:List Po),nQ r t k po=po.filter fun p=>!ON r t k p
 | 0,po=>by rw [nQ,Zaw.2 fun p _=>by simp [ON]]
 | k + 1, po => by
  rw [nQ,nK r t k po];have e:∀ p,ON r t (k+1) p=(ON r t k p||(nY r t k&&yX (k:Nat) t.de p)):=fun p=>by
   unfold ON;rw [Zbc,List.any_append];simp
  split
  ·rename_i h;rw [ZbA];refine Zbb fun p _=>?_;rw [e,h,Zav,Bool.not_or,Bool.and_comm]
  ·rename_i h;refine Zbb fun p _=>?_;rw [e,Zau.2 h,Bool.false_and,Bool.or_false]
def Li (r:Ro) (l:List Tk) (i:Nat) (p:Po):Bool:=(List.range i).any fun j=>ON r (l.getD j Tk.zero) (l.getD j Tk.zero).so.length p
theorem jL (r:Ro) (l:List Tk):∀ i,jM r l i=r.po.filter fun p=>!Li r l i p
 | 0=>by rw [jM,Zaw.2 fun p _=>by simp [Li]]
 | i + 1 => by
  rw [jM,nK,jL r l i,ZbA];refine Zbb fun p _=>?_;have e:Li r l (i+1) p=(Li r l i p||ON r (l.getD i Tk.zero) (l.getD i Tk.zero).so.length p):=by
   unfold Li;rw [Zbc,List.any_append];simp
  rw [e,Bool.not_or,Bool.and_comm]
theorem F3 {t:Tk}:ON r t k p=true↔∃ i,i<k/\nY r t i=true/\p.lv=(i:Nat)/\p.ou=t.de:=by
 unfold ON yX;simp [ZR]
theorem F4 {l:List Tk}:Li r l l.length p=true↔∃ t∈l,∃ i,i<t.so.length/\nY r t i=true/\p.lv=(i:Nat)/\p.ou=t.de:=by
 unfold Li;rw [ZR];constructor
 ·rintro ⟨j,hj,h⟩;have hj:=ZU.1 hj;rw [Zk,Zc hj] at h;exact ⟨l[j],Zj hj,F3.1 h⟩
 ·rintro ⟨t,ht,h⟩;obtain ⟨j,hj,rfl⟩:=Zu ht;refine ⟨j,ZU.2 hj,?_⟩;rw [Zk,Zc hj];exact F3.2 h
theorem lW {r:Ro} {W:List Po->Jb->Option (List Nat)}:∀ {a b:List Jb} {po:List Po},sK r W po (a++b)=(sK r W po a).bind fun q=>sK r W q b
 | [],b,po=>rfl
 | j :: a, b, po => by
  rw [Zb,sK,sK];cases W po j with
  | none=>rfl
  | some p=>exact lW
def vX (r:Ro) (t:Tk):Nat->List Jb
 | 0=>[]
 | k+1=>vX r t k++if nX r t k then [⟨(k:Nat),t.at k,t.de⟩] else []
def vW (r:Ro) (l:List Tk):Nat->List Jb
 | 0=>[]
 | i+1=>vW r l i++vX r (l.getD i Tk.zero) (l.getD i Tk.zero).so.length
def jW (r:Ro) (po:List Po) (j:Jb):Option (List Nat):=if fy (bY r) j.d then kO (r.wp po) j.v j.s j.d else none
theorem EZ {so de:ByteArray} {p:List Nat} (h:kO r v so de=some p):(eh r r.po v so).least (gQ r de) p:=by
 unfold kO at h;split at h
 ·cases h
 ·rename_i e;cases h;exact Wn.SY e
theorem Px (r:Ro):∀ po j p,jW r po j=some p->(eh r po j.v j.s).ok p/\(eh r po j.v j.s).fin p=jR r j.d:=by
 intro po j p h;unfold jW at h;split at h
 ·rename_i hd;have hl:=EZ h;exact ⟨hl.1,hl.2.1.trans (Lj (r:=r) (dN.1 hd)).symm⟩
 ·cases h
theorem sM {r:Ro} {t:Tk} (ht:t.de∈bY r):∀ (k:Nat) (po:List Po),ll r t k po=sK r (jW r) po (vX r t k)
 | 0,po=>rfl
 | k + 1, po => by
  rw [ll,vX,lW,sM ht k po];congr 1;funext q;cases nX r t k with
  | false=>rfl
  | true =>
   rw [if_pos I,if_pos I,sK];unfold jW;rw [if_pos (dN.2 ht)];cases kO (r.wp q) (k:Nat) (t.at k) t.de with
   | none=>rfl
   | some p=>rfl
theorem sL {r:Ro} {l:List Tk} (hl:∀ t∈l,t.de∈bY r) (po:List Po):∀ i,i<=l.length->ju r l po i=sK r (jW r) po (vW r l i)
 | 0,_=>rfl
 | i + 1, hi => by
  rw [ju,vW,lW,sL hl po i (by omega)];congr 1;funext q;refine sM ?_ _ _;rw [Zk,Zc (by omega)];exact hl _ (Zj _)
theorem oP {t:Tk}:j∈vX r t k↔∃ i,i<k/\nX r t i=true/\j=⟨(i:Nat),t.at i,t.de⟩:=by
 induction k with
 | zero=>simp [vX]
 | succ k ih =>
  rw [vX,Zq,ih];constructor
  ·rintro (⟨i,h1,h2,h3⟩ | h)
   ·exact ⟨i,by omega,h2,h3⟩
   ·split at h
    ·rename_i hb;exact ⟨k,by omega,hb,ZB.1 h⟩
    ·cases h
  ·rintro ⟨i,h1,h2,h3⟩;by_cases e:i=k
   ·subst e
    right
    rw [if_pos h2,h3];exact ZB.2 I
   ·exact .inl ⟨i,by omega,h2,h3⟩
theorem oO {l:List Tk} (hi:i<=l.length):j∈vW r l i↔∃ m,∃ hm:m<i,∃ k,k<(l[m]'(by omega)).so.length/\nX r (l[m]'(by omega)) k=true/\j=⟨(k:Nat),(l[m]'(by omega)).at k,(l[m]'(by omega)).de⟩:=by
 induction i with
 | zero=>simp [vW]
 | succ i ih =>
  rw [vW,Zq,ih (by omega),Zk,Zc (show i<l.length by omega),Zam,oP];constructor
  ·rintro (⟨m,hm,h⟩ | h)
   ·exact ⟨m,by omega,h⟩
   ·exact ⟨i,by omega,h⟩
  ·rintro ⟨m,hm,h⟩;by_cases e:m=i
   ·subst e;exact .inr h
   ·exact .inl ⟨m,by omega,h⟩
def JbD (a b:Jb):Prop:=¬(b.v=a.v/\b.d=a.d)
theorem AI (r:Ro) (t:Tk):∀ k,(vX r t k).Pairwise JbD
 | 0=>.nil
 | k + 1 => by
  rw [vX,List.pairwise_append];refine ⟨AI r t k,?_,fun a ha b hb=>?_⟩
  ·split
   ·exact List.pairwise_singleton _ _
   ·exact .nil
  ·split at hb
   ·obtain ⟨i,h1,_,rfl⟩:=oP.1 ha;rw [ZB.1 hb];rintro ⟨e,_⟩;dsimp only at e;omega
   ·cases hb
theorem zp {l:List Tk} (hn:(l.map Tk.de).Nodup) {i j:Nat} (hi:i<l.length) (hj:j<l.length) (hne:i≠j):l[i].de≠l[j].de:=by
 intro e;have h:=ZY.1 hn;have hl:(l.map Tk.de).length=l.length:=Zd _;rcases Zao i j with c | c | c
 ·exact h i j (by omega) (by omega) c (by simpa using e)
 ·exact hne c
 ·exact h j i (by omega) (by omega) c (by simpa using e.symm)
theorem AH {r:Ro} {l:List Tk} (hn:(l.map Tk.de).Nodup):∀ i,i<=l.length->(vW r l i).Pairwise JbD
 | 0,_=>.nil
 | i + 1, hi => by
  rw [vW,List.pairwise_append];refine ⟨AH hn i (by omega),AI r _ _,fun a ha b hb=>?_⟩;rw [Zk,Zc (show i<l.length by omega),Zam] at hb;obtain ⟨m,hm,k,_,_,rfl⟩:=(oO (by omega)).1 ha;obtain ⟨k',_,_,rfl⟩:=oP.1 hb;rintro ⟨_,e⟩;exact zp hn (show i<l.length by omega) (show m<l.length by omega) (by omega) e
theorem lC {t:Tk}:nY r t k=true↔t.at k≠⟨#[]⟩/\t.at k≠kN r (k:Nat) t.de:=by
 unfold nY;simp
theorem lo {t:Tk}:nX r t k=true↔t.at k≠⟨#[]⟩/\t.at k≠kN r (k:Nat) t.de/\t.at k≠dash:=by
 unfold nX;rw [Zm,lC];simp [and_assoc]
theorem Tk.at_mem {t:Tk} (h:k<t.so.length):t.at k∈t.so:=by
 unfold Tk.at
 rw [Zk,Zc h];exact Zj h
def u5 (r:Ro) (l:List Tk):List Po:=vl (bY r) (jM r l l.length)
def TE (r:Ro) (l:List Tk) (v:Int) (y:ByteArray):Prop:=∃ t∈l,∃ i,i<t.so.length/\nY r t i=true/\v=(i:Nat)/\y=t.de
theorem qO (h:qX r) {l:List Tk} (hl:HB r l):gV r (u5 r l)/\(∀ v y,y∈bY r->¬ TE r l v y->eJ (u5 r l) v y=eJ r.po v y/\pV (u5 r l) v (cz r) y=pV r.po v (cz r) y)/\∀ v y,TE r l v y->eJ (u5 r l) v y=none:=by
 obtain ⟨f,hf,e⟩:=E7 (bY r) (jM r l l.length);have hg:∀ p,(!Li r l l.length p)=true↔¬ TE r l p.lv p.ou:=fun p=>by
  rw [ZaP,<- Zae];exact not_congr F4
 unfold u5;rw [e,jL] at *;obtain ⟨k1,k2,k3⟩:=OM (g:=fun p=>!Li r l l.length p) (f:=f) h.tL h.val (fun p hp ht=>(hg p).2 fun ⟨t,htl,i,_,_,_,e5⟩=>h.tL.dt _ (hl.de t htl) (e5 ▸ ht)) hf.sw.de hf.sw.up hf.us;refine ⟨k1,fun v y hy hd=>k2 v y hy fun p _ e1 e2=>(hg p).2 (by rw [e1,e2];exact hd),fun v y hd=>k3 v y fun p _ e1 e2=>?_⟩;have:¬ (!Li r l l.length p)=true:=fun q=>(hg p).1 q (by rw [e1,e2];exact hd)
 exact Zae _ ▸ this
theorem AG (h:qX r) {l:List Tk} (hl:HB r l) {t:Tk} (ht:t∈l) {k:Nat} (hk:k<t.so.length) (hj:nX r t k=true):(0<=((k:Nat):Int)/\((k:Nat):Int)<r.lv)/\t.at k∈cz r/\t.de∈bY r/\eJ (u5 r l) (k:Nat) t.de=none:=by
 have h1:=hl.lv t ht;obtain ⟨j1,j2,j3⟩:=lo.1 hj;refine ⟨by omega,?_,hl.de t ht,(qO h hl).2.2 _ _ ⟨t,ht,k,hk,lC.2 ⟨j1,j2⟩,I,I⟩⟩;rcases hl.so t ht _ (Tk.at_mem hk) with e | e | e
 ·exact absurd e j1
 ·exact absurd e j3
 ·exact e
theorem Ru (h:qX r) {l:List Tk} (hl:HB r l) {i:Nat} (hi:i<l.length) {k:Nat} (hk:k<=l[i].so.length) {q0 q:List Po} (h0:ju r l (u5 r l) i=some q0) (h1:ll r l[i] k q0=some q) :
  gV r q/\∀ m,k<=m->m<l[i].so.length->nY r l[i] m=true->eJ q (m:Nat) l[i].de=none:=by
 have lp:=hl.de l[i] (Zj hi);rw [sL hl.de _ i (by omega)] at h0;rw [sM lp] at h1;have h2:sK r (jW r) (u5 r l) (vW r l i++vX r l[i] k)=some q:=by rw [lW,h0];exact h1
 have zh:∀ j∈vW r l i++vX r l[i] k,∃ m,∃ hm:m<l.length,∃ n,n<l[m].so.length/\nX r l[m] n=true/\j=⟨(n:Nat),l[m].at n,l[m].de⟩/\(m=i->n<k):=by
  intro j hj;rcases Zq.1 hj with hj | hj
  ·obtain ⟨m,hm,n,e1,e2,e3⟩:=(oO (by omega)).1 hj;exact ⟨m,by omega,n,e1,e2,e3,fun e=>by omega⟩
  ·obtain ⟨n,e1,e2,e3⟩:=oP.1 hj;exact ⟨i,hi,n,by omega,e2,e3,fun _=>e1⟩
 obtain ⟨k1,_,k3⟩:=Aa h.tL h.nd (Px r) _ _ _ (qO h hl).1 (fun j hj=>by
   obtain ⟨m,hm,n,e1,e2,rfl,_⟩:=zh j hj;exact AG h hl (Zj hm) e1 e2) (List.pairwise_append.2 ⟨AH hl.nd i (by omega),AI r _ _,fun a ha b hb=>by
   obtain ⟨m,hm,n,_,_,rfl⟩:=(oO (by omega)).1 ha;obtain ⟨n',_,_,rfl⟩:=oP.1 hb;rintro ⟨_,e⟩;exact zp hl.nd hi (show m<l.length by omega) (by omega) e⟩) h2
 refine ⟨k1,fun m aY mr Es=>?_⟩;rw [(k3 (m:Nat) l[i].de lp fun j hj ⟨e1,e2⟩=>by
  obtain ⟨x,hx,n,_,_,rfl,e5⟩:=zh j hj;by_cases c:x=i
  ·subst c;have:=e5 I;dsimp only at e1;omega
  ·exact zp hl.nd hx hi c e2.symm).2]
 exact (qO h hl).2.2 _ _ ⟨l[i],Zj hi,m,mr,Es,I,I⟩
theorem QM (h:qX r) {l:List Tk} (hl:HB r l) {q:List Po} (h0:ju r l (u5 r l) l.length=some q) :
  gV r q/\(∀ v y,y∈bY r->¬ TE r l v y->pV q v (cz r) y=pV r.po v (cz r) y) /\
  ∀ t∈l,∀ k,k<t.so.length->nY r t k=true->pV q (k:Nat) (cz r) t.de=if t.at k=dash then ⟨#[]⟩ else t.at k:=by
 rw [sL hl.de _ _ (ZC _)] at h0;have zh:∀ j∈vW r l l.length,∃ t∈l,∃ n,n<t.so.length/\nX r t n=true/\j=⟨(n:Nat),t.at n,t.de⟩:=by
  intro j hj;obtain ⟨m,hm,n,e1,e2,e3⟩:=(oO (ZC _)).1 hj;exact ⟨_,Zj hm,n,e1,e2,e3⟩
 obtain ⟨k1,k2,k3⟩:=Aa h.tL h.nd (Px r) _ _ _ (qO h hl).1 (fun j hj=>by
   obtain ⟨t,ht,n,e1,e2,rfl⟩:=zh j hj;exact AG h hl ht e1 e2) (AH hl.nd _ (ZC _)) h0
 have hDr:∀ t∈l,∀ n,n<t.so.length->nX r t n=true->TE r l (n:Nat) t.de:=fun t ht n hn hj=>by
  obtain ⟨j1,j2,_⟩:=lo.1 hj;exact ⟨t,ht,n,hn,lC.2 ⟨j1,j2⟩,I,I⟩
 refine ⟨k1,fun v y hy hd=>?_,fun t ht k hk Es=>?_⟩
 ·rw [(k3 v y hy fun j hj ⟨e1,e2⟩=>by
   obtain ⟨t,ht,n,a1,a2,rfl⟩:=zh j hj;exact hd (by rw [e1,e2];exact hDr t ht n a1 a2)).1]
  exact ((qO h hl).2.1 v y hy hd).2
 ·by_cases U7:t.at k=dash
  ·rw [if_pos U7,(k3 (k:Nat) t.de (hl.de t ht) fun j hj ⟨e1,e2⟩=>by
    obtain ⟨t',GW,n,a1,a2,rfl⟩:=zh j hj;dsimp only at e1 e2;obtain ⟨x,hx,rfl⟩:=Zu ht;obtain ⟨x',RJ,rfl⟩:=Zu GW;have e:x=x':=Classical.byContradiction fun c=>zp hl.nd hx RJ c e2
    subst e;have e3:k=n:=by omega
    subst e3;exact (lo.1 a2).2.2 U7).1]
   exact zr (fun hs=>h.tL.sd _ hs (hl.de t ht)) ((qO h hl).2.2 _ _ ⟨t,ht,k,hk,Es,I,I⟩)
  ·rw [if_neg U7];obtain ⟨d1,d2⟩:=lC.1 Es;have hj:nX r t k=true:=lo.2 ⟨d1,d2,U7⟩;obtain ⟨x,hx,rfl⟩:=Zu ht;exact k2 ⟨(k:Nat),l[x].at k,l[x].de⟩ ((oO (ZC _)).2 ⟨x,hx,k,hk,hj,I⟩)
theorem zM {o:ByteArray}:nS po v o=true↔∃ p∈po,p.lv=v/\p.ip=o:=by
 unfold nS AK;rw [ZR];exact ⟨fun ⟨p,hp,h⟩=>⟨p,hp,by simpa using h⟩,fun ⟨p,hp,h⟩=>⟨p,hp,by simpa using h⟩⟩
end Go.Proofs.A1
