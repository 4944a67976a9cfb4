/- Parts of the proof: LE LF LG LH TryzShelf GkDraws LI. -/
import Derived.Test.YteonnodafmegaaaGreatDoorPM10
import Derived.Test.YteonnodafmegaaaGreatDoorPM04
import Derived.Test.YteonnodafmegaaaGreatDoorPM06
import Derived.Shelf.Strings.OnBuilder
import Derived.Shelf.Strconv.Itoa3
import Derived.Ground.NamesProg
import Derived.Ground.Names2Prog
import Derived.Test.YteonnodafmegaaaGreatDoorProg
import Derived.Calls
import Derived.RunT
import Derived.Lib.AppendIntMem
set_option linter.unusedSectionVars false
set_option linter.unusedVariables false
set_option linter.unusedSimpArgs false
namespace Go.Proofs.A1
open Go Go.SL
open Tryz
open Tryz renaming prog->T_
def ue (r:Ro) (o:ByteArray):Int:=aY [fm r,mF r o]
def qZ (r:Ro) (o:ByteArray) (q:Bool):Ro:=if ue r o≠0 then Ro.nil else r.uL o q
theorem oI (l:List De):(gm l).length=l.length*3:=by unfold gm;rw [fU (E8 l),bY]
theorem Mq (l:List De) (cur:List Value) {k:Nat} (h:k<l.length) (q:Bool):setCells (gm l++cur) (k*3+2) [.bool q]=gm (l.modify k fun x=>⟨x.nm,x.mx,q⟩)++cur:=by
 rw [kN _ _ _ (by rw [Zg,oI];omega),Zbr _ _ (by rw [oI];omega)];congr 1;have e:l=l.take k++l[k]::l.drop (k+1):=by rw [<- Zt h,ZX]
 have hm:l.modify k (fun x=>⟨x.nm,x.mx,q⟩)=l.take k++⟨l[k].nm,l[k].mx,q⟩::l.drop (k+1):=by
  rw [List.modify_eq_take_cons_drop h]
 have ht:(gm (l.take k)).length=k*3:=by rw [oI,Zs,Zbf (by omega)]
 have hs:∀ (a:List De) (x:De) (b:List De),gm (a++x::b)=gm a++(x.cells++gm b):=fun a x b=>by unfold gm vG;simp
 rw [hm,hs]
 conv=>lhs;rw [e,hs]
 rw [Zbm _ _ (by omega),ht,Zbd]
 rfl
variable {k:Nat} {l:List Od} {r:Ro} {w:World}
set_option maxHeartbeats 1000000 in
theorem uJ {s d t p:Value} (o:ByteArray) (q:Bool) {w:World} (h:RR w r s d t p) (c6:mX r) :
  a8 T_ 78 [RA r s d t p,.string o,.bool q] w [] (fun _:Value×Value×Value×Value=>True) (fun x=>.tuple #[RA (qZ r o q) x.1 x.2.1 x.2.2.1 x.2.2.2,.q (ue r o)]) (fun x=>nV (qZ r o q) x):=by
 obtain ⟨h1,h2,h3,h4⟩:=h.one;have fP:∀ w',aI [] w w'->an T_ 34 [.agg #[.int .i64 r.lv,.int .i64 r.ma,s,d,t,p]] w' (.int .i64 (fm r)):=fun w' hk=>ei (h.keeps hk) c6
 have kz:∀ w',aI [] w w'->an T_ 112 [.agg #[.q r.lv,.q r.ma,s,d,t,p],.string o] w' (.q (mF r o)):=fun w' hk=>eA o (h.keeps hk)
 unfold RA;refine aS func78 I I ?_;refine Jr<|Jy I I fun _ _=>Jz I I fun _ _=>Ja I<|Jn<|Jq<|Jq ?_;rename_i b3 rz b6 Vk
 with_reducible refine db 6 (by kernel_rfl) ?_
 (refine az (bU (.there .here)) I<|aZ bJ I (fun w' aB=>(fP w' (Mem.keeps aB)))<|az (bU (.there .here)) I<|az mw I<|aZ bn I (fun w' aB=>(kz w' (Mem.keeps aB)))<|eM (aD (.o I (.o I .nil)) I I I I) I I ?_)
 with_reducible refine dI I fun bq mV=>?_
 (refine ah bJ I (fun w' aB=>(dV (Mem.dy aB .here I I) (cr.cons (cr.cons cr.nil))))<|Ja I<|Ji<|Jv I<|JD I<|Jn<|gL I (fun aA=>?_) fun aA=>?_;refine Jr<|ab (aU .nil ai) I<|Jv I<|ak (.of I) (.of I) (.there .here) I I (dO I I I I I I) (br I) ai<|Ja I<|Jn<|Ju ?_;rotate_left;refine Jk<|Jr<|ab (bU bE) I ?_;rotate_right)
 ·have e1:qZ r o q=Ro.nil:=if_pos aA;have e2:ue r o=aY [fm r,mF r o]:=rfl;rw [e1,e2];refine aJ 186 2<|aJ 90 3<|aJ 187 3<|aJ 188 3 ?_
  with_reducible first|apply aO|apply aP
  case he=>exact kl I inferInstance I c7 ai (by rfl) (by rfl)
  case hR=>
   intro w' aB;exact aC (.z,.z,.z,.z) trivial (by exact .cons cI (.cons bE (.cons (.there .here) (.h1 .nil)))) aB I
 have e0:aY [fm r,mF r o]=0:=Zq.1 aA;have e1:qZ r o q=r.uL o q:=if_neg aA;have e2:ue r o=0:=e0;have B0:fm r=0:=bX.1 e0 _ Zr;have Dm:o∈cu r:=by
  have:=(bO (by decide)).1 (bX.1 e0 (mF r o) (by simp));rwa [decide_eq_false_iff_not,cJ,Classical.not_not] at this
 have dP:=yn B0;have hf:=j5 dP dP.val;rw [e1,e2];refine JN bJ I (fun w1 aT=>vm (h.keeps aT.keeps) c6 (by omega)) ?_;intro y _;dsimp only [id_eq,Zb,Za];obtain ⟨s1,d1,t1,p1⟩:=y;dsimp only;unfold RA PB;refine dF (r:=r) (s:=s1) (d:=d1) (t:=t1) (p:=p1) (by unfold nV PB;exact .h4 .nil) fun k1 k2 k3 k4=>?_
 (refine Jz I I fun _ _=>ak (.of I) (.of I) .here I I (dO I I k1 k2 k3 k4) (br I) ai<|Jn<|Jq ?_)
 rename_i b9 hb9;obtain ⟨j0,rO⟩:∃ i:Nat,bB (cu r) o=(i:Nat):=⟨(bB (cu r) o).toNat,by have:=dK Dm;omega⟩;have Bf:j0<r.de.length:=by
  obtain ⟨hl,_⟩:=fk (l:=cu r) (s:=o) (by omega);rw [rO,ZE] at hl;unfold cu at hl;rwa [Zd] at hl
 have hdd:∀ w',aI [] w w'->an T_ 155 [.agg #[.q r.lv,.q r.ma,s,d,t,p],.string o] w' (.q (j0:Nat)):=fun w' hk=>rO ▸ gH o (h.keeps hk)
 refine cm (E:=90) (sz:=3) (v:=d1) bE (by omega) fun gd cap cur e yw sF ru Nx=>?_;subst e;have p0:=Mq r.de cur Bf q;have hle:j0*3+2+1<=(gm r.de++cur).length:=by rw [Zg,oI];omega
 with_reducible refine cz 8 (by kernel_rfl) ?_
 (refine jH I I ae<|aq (gn (.there .here)) I<|aq (bU tV) I<|fw I I<|cW bn I (fun w' aB=>(hdd w' (Mem.keeps aB)))<|fw I I<|aq (ao (.of I) (.of I) I (by omega) (by omega) aW) I<|jH I I ae ?_)
 with_reducible refine cC ?_
 (refine ak (.of I) (.of I) .here I I (dE I) hle p0<|Ji<|ab (bU (.there .here)) I<|ak (.of I) (.of I) nR I I (dO I I k1 I k3 k4) (br I) ai<|Ja I<|Jn<|Je ?_)
 have hpr:r.uL o q=⟨r.lv,r.ma,r.sr,r.de.modify j0 fun x=>⟨x.nm,x.mx,q⟩,r.ti,r.po⟩:=by unfold Ro.uL;rw [rO,ZE]
 have mS:(r.de.modify j0 fun x=>(⟨x.nm,x.mx,q⟩:De)).length=r.de.length:=List.length_modify _ _ _
 rw [hpr];generalize (r.de.modify j0 fun x=>(⟨x.nm,x.mx,q⟩:De))=D' at *
 have oE:(gm D'++cur).length=cap*3:=by rw [Zg,oI] at ru ⊢;rw [mS];exact ru
 refine ct (n:=r.de.length) (xs:=gm D') (cap:=cap) (g:=gd) (E:=90) (sz:=3) (by exact Take.there .here) yw sF oE (by rw [oI,mS]) ?_
 with_reducible first|apply aO|apply aP
 case he=>exact kl I inferInstance I (.there .here) ai (by rfl) (by rfl)
 case hR=>
  intro w' aB;exact aC (s1,.w gd r.de.length cap,t1,p1) trivial (show bj _ [J1 r s1,row 90 3 (.w gd r.de.length cap) D'.length (gm D'),J3 r t1,J4 r p1] _ by rw [mS];exact .cons cI (.h1 (.cons bE (.cons bE .nil)))) aB I
structure qS where
 fr:Int
 tk:List gW
 v:Value
def qS.cells (x:qS):List Value:=[.q x.fr,x.v]
def ug (l:List qS):List (List Value):=l.map qS.cells
theorem l9 (l:List qS):(ug l).length=l.length:=by simp [ug]
theorem AX {l:List qS} (h:k<l.length):(ug l)[k]? = some (l[k]).cells:=by simp [ug,h]
theorem EE {l:List qS} (h:k<l.length):ug l≠[]:=by intro e;have:=congrArg List.length e;rw [l9] at this;simp at this;subst this;simp at h
def IK (w:World) (l:List qS):Prop:=∀ x∈l,Rd w x.v 2 (jP x.tk)/\vK w x.tk
theorem IK.keeps {w w':World} {l:List qS} (h:IK w l) (hk:aI [] w w'):IK w' l:=fun x hx=>⟨(h x hx).1.keeps hk,(h x hx).2.keeps hk⟩
def eT (l:List qS):List Od:=l.map fun x=>⟨x.fr,cU x.tk⟩
theorem vn (l:List qS):(eT l).length=l.length:=Zd _
theorem CW {l:List qS} (h:k<l.length):(eT l).getD k Od.zero=⟨l[k].fr,cU l[k].tk⟩:=by
 unfold eT;rw [Zk,ZG,Zc h];rfl
theorem Ps {lv:Value} {l:List qS} {p:qS->Bool} {f:FuncId} {first cap:List Value} [bN T_ f] {w:World} (h:Rd w lv 2 (ug l)) (cV:∀ x∈l,∀ w',aI [] w w'->an T_ f (first++[.agg x.cells.toArray]++cap) w' (.bool (p x))) :
  an T_ 173 [lv,.func (.func f) first.toArray cap.toArray] w (.q (iN p l)):=by
 obtain ⟨a,cp,b,o,rfl,dC,ch,ha,hc⟩:=h;rw [l9] at *;unfold maxLen at ch;refine aj func173 I I ?_;refine Jr<|Ja I<|Jn<|Jq<|Jr<|Jv I<|JI I<|Jv I<|Jn<|J0 ?_;refine aV (fun k:Nat=>k<=l.length/\∀ i,i<k->(l[i]?.map p).getD false=false) (fun k=>[(8,.int .i64 k),(7,.int .i64 l.length),(0,.slice a l.length cp),(1,.func (.func f) first.toArray cap.toArray)]) (fun _=>[]) (fun k=>l.length-k) ?_ ?_
 ·apply aH 0 ⟨Zi _,fun i h=>by omega⟩
  case hs1=>exact bT
  case ht=>(try simp only [Ze,Zf,Za]);exact .nil
 rintro k ⟨hk,hf⟩;by_cases aL:k<l.length
 ·have cY:=ha (EE aL);have aF:=(hc k _ (AX aL)).2;have iZ:=cV _ (Zj aL);have hps:(l[k]?.map p).getD false=p l[k]:=by simp [aL]
  unfold qS.cells at aF iZ
  (refine Jr<|JA I<|Jn<|Jq<|Jd I fun aA=>Jk<|Jq<|J0<|Jr<|Jv I<|Ja I<|Ji<|Jv I<|Jv I<|Jv I<|ab (gE cY aA) I<|ab (ja (fo.base aF I)) I<|ah bJ I (fun w' aB=>(iZ w' (Mem.keeps aB)))<|Jn<|oK I (fun aA=>?_) fun aA=>?_;refine Jr<|Jv I<|Ja I<|Jn<|Je<|Jm<|Jh<|Jh<|Jm<|Jh<|JT ?_;rotate_left;refine Jw<|Jj<|Jt<|Jg<|JB I (by omega)<|Jv I<|Jn ?_;rotate_right)
  ·rw [gN hf aL aA]
  ·apply aG (k+1) ⟨by omega,fun i hi=>by
    by_cases e:i=k
    ·rw [e,hps];exact aA
    ·exact hf i (by omega)⟩ (by omega)
   case hs1=>exact bT
   case ht=>(try simp only [Ze,Zf,Za]);exact .nil
 ·obtain rfl:k=l.length:=by omega
  refine Jr<|JA I<|Jn<|Jq<|Jc I fun aA=>Jp<|Jl<|Jo<|Jt<|Jr<|Ja I<|Jn<|Je<|JT ?_;rw [fO hf]
theorem On {x:qS} {f:Int} {b:Nat} (f1:w.cell? ⟨b,0,none⟩=some (.q f)):an T_ 174 [.agg x.cells.toArray,.p b] w (.bool (decide (f<x.fr))):=by
 unfold qS.cells;refine aj func174 I I ?_
 (refine Jr<|Jy I I fun _ _=>Ja I<|Ji<|bD I I ae<|JL I .here I<|ab (ag (.of I) (At.base f1 I)) I<|JE I<|Ja I<|Jn<|Je<|JT ?_)
 rfl
def OW (r:Ro) (l:List Od):Int:=if fm r≠0 then fm r else Ys r l
def U2 (r:Ro) (l:List Od):Int:=aY [fm r,bL (decide ((16:Int)<(l.length:Nat))) 5]
theorem S8 (r:Ro) (l:List Od):OW r l=if U2 r l≠0 then U2 r l else kA (No r l) l.length:=by
 unfold OW U2 Ys;by_cases h1:fm r=0
 ·rw [if_neg (not_not_intro h1)];by_cases h2:(16:Int)<(l.length:Nat)
  ·rw [if_pos h2,if_pos (by rw [h1,decide_eq_true h2];decide),h1,decide_eq_true h2];rfl
  ·rw [if_neg h2,if_neg (by rw [h1,decide_eq_false h2];decide)]
 ·have:aY [fm r,bL (decide ((16:Int)<(l.length:Nat))) 5]=fm r:=by unfold aY;rw [if_pos h1]
  rw [if_pos h1,this,if_pos h1]
def Lc (l:List qS) (k:Nat):Int:=if k=0 then -1 else ((eT l).getD (k-1) Od.zero).fr
theorem Te {l:List qS} (h:k<l.length):No r (eT l) k=aY [gX l[k].fr 0 10000000,bL (decide (l[k].fr<=Lc l k)) 11,Ck r (cU l[k].tk)]:=by
 unfold No Lc;have:(eT l)[k]? = some ⟨l[k].fr,cU l[k].tk⟩:=by unfold eT;rw [ZG,Zc h];rfl
 rw [this];rfl
theorem HA {l:List qS} (h:k<l.length):Lc l (k+1)=l[k].fr:=by
 unfold Lc;rw [if_neg (by omega),Zay,CW h]
set_option maxHeartbeats 1000000 in
theorem yH {s d t p kv:Value} {l:List qS} (h:RR w r s d t p) (c6:mX r) (hw:Rd w kv 2 (ug l)) (hM:IK w l) :
  an T_ 171 [RA r s d t p,kv] w (.q (OW r (eT l))):=by
 obtain ⟨h1,h2,h3,h4⟩:=h.one;obtain ⟨aw,cw,bw,ow,rfl,Rw,Dg,Xi,LW⟩:=hw;rw [l9] at *;unfold maxLen at Dg;have vw:=vn l;have fP:∀ w',aI [] w w'->an T_ 34 [.agg #[.int .i64 r.lv,.int .i64 r.ma,s,d,t,p]] w' (.int .i64 (fm r)):=fun w' hk=>ei (h.keeps hk) c6
 have hX:=S8 r (eT l);have hA:U2 r (eT l)=aY [fm r,bL (decide ((16:Int)<(l.length:Nat))) 5]:=by unfold U2;rw [vw]
 unfold RA;refine aj func171 I I ?_
 (refine Jr<|Jy I I fun _ _=>Ja I<|Jn<|Jq<|Jr<|ab (bU .here) I<|ah bJ I (fun w' aB=>(fP w' (Mem.keeps aB)))<|Jv I<|JI I<|JE I<|ah bn I (fun w' aB=>(ef _ 5 w'))<|bh (aD (.o I (.o I .nil)) I I I I) I fun _ _=>ah bJ I (fun w' aB=>(dV (Mem.dy aB .here I I) (cr.cons (cr.cons cr.nil))))<|Ja I<|Ji<|Jv I<|JD I<|Jn<|gL I (fun aA=>?_) fun aA=>?_;refine Jr<|Jv I<|Ja I<|Jn<|Ju<|JT ?_;rotate_left;refine Jk<|Jr<|Ja I<|Jn<|Jq<|Jr<|Jv I<|JI I<|Jv I<|Jn<|J0 ?_;rotate_right)
 ·rw [hX,hA,if_pos aA]
 have PZ:U2 r (eT l)=0:=by rw [hA];exact Zq.1 aA
 rw [if_neg (not_not_intro PZ),vw] at hX;clear aA;rename_i b2 sJ bq mV
 refine aV (fun k:Nat=>k<=l.length/\∀ i,i<k->No r (eT l) i=0) (fun k=>[(23,.q (k:Nat)),(22,.q (l.length:Nat)),(21,.slice aw l.length cw),(6,.q (Lc l k)),(2,.p b2)])
  (fun k=>[JP b2 r s d t p]) (fun k=>l.length-k) ?_ ?_
 ·apply aH 0 ⟨Zi _,fun i hi=>by omega⟩
  case hs1=>exact bT
  case ht=>(try simp only [Ze,Zf,Za]);exact .cons (.there .here) .nil
 rintro k ⟨hk,hf⟩;by_cases aL:k<l.length
 ·have LZ:=Xi (EE aL);have aF:=(LW k _ (AX aL)).2;unfold qS.cells at aF;have hx:=hM _ (Zj aL);have fZ:=Te (r:=r) aL;have vz:=HA aL;generalize l[k]=x at aF hx fZ vz ⊢;obtain ⟨xf,xt,xv⟩:=x;dsimp only at aF hx fZ vz ⊢;have iO:=Rd.one hx.1;have htk:∀ w',aI [] w w'->an T_ 164 [.agg #[.int .i64 r.lv,.int .i64 r.ma,s,d,t,p],xv] w' (.int .i64 (Ck r (cU xt))):=fun w' hk=>sR (h.keeps hk) (hx.1.keeps hk) (hx.2.keeps hk)
  (refine Jr<|JA I<|Jn<|Jq<|Jd I fun aA=>Jk<|Jq<|J0<|Jr<|ab (ao (.of I) (.of I) LZ (by omega) aA aW) I<|ab (ja (fo.base aF I)) I<|Jz I I fun _ _=>ak (.of I) (.of I) .here I I (ix I iO) (br I) ai<|Jn<|Jq<|Jq ?_)
  with_reducible refine db 13 (by kernel_rfl) ?_
  (refine az lP I<|az (gn .here) I<|aZ dU I (fun w' aB=>(nw xf 0 10000000 w'))<|az lP I<|az (gn .here) I<|az mw I<|az (nh (.of I) (.of I)) I<|aZ bn I (fun w' aB=>(ef _ 11 w'))<|az (bU (.there .here)) I<|az lP I<|az (gn .here) I<|aZ bn I (fun w' aB=>(htk w' (Mem.keeps aB)))<|eM (aD (.o I (.o I (.o I .nil))) I I I I) I I ?_)
  with_reducible refine dI I fun b55 abT=>?_
  (refine ah bJ I (fun w' aB=>(dV (Mem.dy aB .here I I) (cr.cons (cr.cons (cr.cons cr.nil)))))<|Ja I<|Ji<|Jv I<|JD I<|Jn<|gL I (fun aA=>?_) fun aA=>?_;refine Jr<|Jv I<|Ja I<|Jn<|Ju<|Jm<|Jh<|Jh<|Jm<|Jh<|JT ?_;rotate_left;refine Jk<|Jg<|bD I I ae<|JL I (.there .here) I<|Ja I<|Jx<|Jj<|Jt<|Jg<|JB I (by omega)<|Jv I<|Jn ?_;rotate_right)
  ·rw [<- fZ] at aA ⊢;have hB:kA (No r (eT l)) l.length=No r (eT l) k:=fV hf aL aA;rw [hX,hB]
  have hz:No r (eT l) k=0:=by rw [fZ];exact Zq.1 aA
  rw [<- vz];apply aG (k+1) ⟨by omega,fun i hi=>by
   by_cases e:i=k
   ·rw [e];exact hz
   ·exact hf i (by omega)⟩ (by omega)
  case hs1=>exact bT
  case ht=>(try simp only [Ze,Zf,Za]);exact .cons bE .nil
 ·obtain rfl:k=l.length:=by omega
  have Xw:kA (No r (eT l)) l.length=0:=eK.2 hf;refine Jr<|JA I<|Jn<|Jq<|Jc I fun aA=>Jp<|Jl<|Jo<|Jt<|Jr<|Ja I<|Jn<|Je<|JT ?_;rw [hX,Xw]
set_option maxHeartbeats 2000000 in
theorem QV {s d t p kv:Value} {l:List qS} (h:RR w r s d t p) (B0:fm r=0) (hw:Rd w kv 2 (ug l)) (hM:IK w l) (hO:QF r (eT l)) :
  a8 T_ 172 [RA r s d t p,kv] w [] (fun _:Value×Value×Value×Value=>True) (fun x=>.tuple #[RA (jq r (eT l)).1 x.1 x.2.1 x.2.2.1 x.2.2.2,.q (jq r (eT l)).2.1,.q (jq r (eT l)).2.2]) (fun x=>nV (jq r (eT l)).1 x):=by
 have dP:=yn B0;have tb:=dP.lim;have vz:=dP.len;have c6:mX r:=by unfold mX;omega
 have YR:=j5 dP dP.val;have hlf:=hO.B2;rw [vn] at hlf;have vw:=vn l;obtain ⟨h1,h2,h3,h4⟩:=h.one;obtain ⟨a,cp,b,o,rfl,dC,ch,ha,hc⟩:=hw;rw [l9] at *;unfold maxLen at ch;have hX:jq r (eT l)=if kA (CU r (eT l)) l.length=0 then (QQ r (eT l) l.length,0,0) else (Ro.nil,((QA (CU r (eT l)) l.length:Nat):Int),kA (CU r (eT l)) l.length):=by unfold jq;rw [vw]
 unfold RA;refine aS func172 I I ?_;refine Jr<|Jy I I fun _ _=>Jz I I fun _ _=>Ja I<|Ja I<|Ji<|ab (bU (.there .here)) I ?_;rename_i b2 sJ b4 sH;refine JN bJ I (fun w1 aT=>vm (h.keeps aT.keeps) c6 (by omega)) ?_;intro y _;dsimp only [id_eq,Zb,Za];obtain ⟨s1,d1,t1,p1⟩:=y;dsimp only;unfold RA PB;refine dF (r:=r) (s:=s1) (d:=d1) (t:=t1) (p:=p1) (by unfold nV PB;exact .h4 .nil) fun k1 k2 k3 k4=>?_
 (refine Jz I I fun _ _=>ak (.of I) (.of I) .here I I (dO I I k1 k2 k3 k4) (br I) ai<|Jn<|Jq<|Jr<|Jv I<|JI I<|Jv I<|Jn<|J0 ?_)
 rename_i b7 Ud
 refine aV (ι:=Nat×(Value×Value×Value×Value)×List Po) (fun y=>y.1<=l.length/\M8 r (eT l) y.1 y.2.2/\(∀ j,j<y.1->CU r (eT l) j=0)/\y.2.1.1.oneCell'=true/\y.2.1.2.1.oneCell'=true/\y.2.1.2.2.1.oneCell'=true/\y.2.1.2.2.2.oneCell'=true) (fun y=>[(17,.q (y.1:Nat)),(16,.q (l.length:Nat)),(15,.slice a l.length cp),(7,.p b7),(4,.p b4)])
  (fun y=>[JP b7 r (y.2.1.1) (y.2.1.2.1) (y.2.1.2.2.1) (y.2.1.2.2.2),J1 r y.2.1.1,J2 r y.2.1.2.1,J3 r y.2.1.2.2.1,row 188 3 y.2.1.2.2.2 y.2.2.length (eF y.2.2),bu b4 (.cells #[.q 0,.q 0,.z,.z,.z,.z] 41 (0,0))]) (fun y=>l.length-y.1) ?_ ?_
 ·apply aH (0,(s1,d1,t1,p1),r.po) ⟨Zi _,⟨I,dP.val⟩,fun j hj=>absurd hj (ZV j),k1,k2,k3,k4⟩
  case hs1=>exact bT
  case ht=>exact jv
 clear k1 k2 k3 k4 s1 d1 t1 p1;rintro ⟨i,⟨s1,d1,t1,p1⟩,q⟩ ⟨hi,Uj,PT,k1,k2,k3,k4⟩;dsimp only at hi Uj PT k1 k2 k3 k4 ⊢;have hqf:=j5 dP Uj.val;by_cases aL:i<l.length
 ·have cY:=ha (EE aL);have aF:=(hc i _ (AX aL)).2;have iP:=Zj aL;have hx:=hM _ iP;have ke:i<(eT l).length:=by omega
  have IC:=CW aL;have hti:=hO.tk i ke;have Vg:(eT l)[i].tk=cU l[i].tk:=by
   rw [Zk,Zc ke,Zaq] at IC;rw [IC]
  rw [Vg] at hti;have LH:CU r (eT l) i=(fX (r.wp q) (cU l[i].tk)).2.2:=by unfold CU;rw [Uj.eq,IC]
  have bb:QQ r (eT l) (i+1)=(fX (r.wp q) (cU l[i].tk)).1:=by rw [QQ,Uj.eq,IC]
  have gS:=fun h0=>Uj.next B0 hO ke h0
  unfold qS.cells at aF;generalize l[i]=x at *;obtain ⟨xf,xt,xv⟩:=x;dsimp only at *;have iO:=Rd.one hx.1
  (refine Jr<|JA I<|Jn<|Jq<|Jd I fun aA=>Jk<|Jq<|J0<|Jr<|Jv I<|ab (gE cY aA) I<|ab (ja (fo.base aF I)) I<|Jz I I fun _ _=>Ja I<|ak (.of I) (.of I) .here I I (ix I iO) (br I) ai<|Ji<|ab (bU (.there .here)) I<|bD I I ae<|JL I .here I ?_)
  refine JN bn I (fun w1 aT=>Ao (r:=r.wp q) (RR.wp (cF aT bE I) (cH aT cI I) (cE aT c7 I) (cq aT ek I)) (dP.wp Uj.val) (by show q.length<=500;omega) (hx.1.keeps aT.keeps) (hx.2.keeps aT.keeps) (hti.wp q)) ?_;have pL:∀ q',fX (r.wp q) (cU xt)=(r.wp q',0,0)->True:=fun _ _=>trivial
  generalize fX (r.wp q) (cU xt)=R at *;obtain ⟨R,at_,e_⟩:=R;rintro ⟨s2,d2,t2,p2⟩ _;dsimp only at LH bb ⊢;unfold RA;refine dF (r:=R) (s:=s2) (d:=d2) (t:=t2) (p:=p2) (bo _ _) fun m1 m2 m3 m4=>?_;clear pL
  (refine Jv I<|JJ I I<|JJ I I<|JJ I I<|Jz I I fun _ _=>ak (.of I) (.of I) .here I I (dO I I m1 m2 m3 m4) (br I) ai<|Ja I<|Ja I<|Jn<|Jq<|Jr<|Jv I<|JD I<|Jn<|gL I (fun aA=>?_) fun aA=>?_;refine Jr<|ab (aU .nil ai) I<|Jv I<|Jv I<|ak (.of I) (.of I) tW I I (dO I I I I I I) (br I) ai<|Ja I<|Ja I<|Jn<|Ju<|Jm<|Jh<|Jh<|Jm<|Jh ?_;rotate_left;refine Jk<|Jg<|ab (bU .here) I<|ak (.of I) (.of I) nR I I (dO I I m1 m2 m3 m4) (br I) ai<|Jx<|Jj<|Jt<|Jg<|JB I (by omega)<|Jv I<|Jn ?_;rotate_right)
  ·have hne:CU r (eT l) i≠0:=by rw [LH];exact aA
   have hE:kA (CU r (eT l)) l.length=e_:=(fV PT aL hne).trans LH;have e4:jq r (eT l)=(Ro.nil,((i:Nat):Int),e_):=by rw [hX,hE,if_neg aA,Qz PT aL hne]
   rw [e4];dsimp only;refine aJ 186 2<|aJ 90 3<|aJ 187 3<|aJ 188 3 ?_
   with_reducible first|apply aO|apply aP
   case he=>exact ki I inferInstance I c7 ai (by rfl) (by rfl) (by rfl)
   case hR=>
    intro w' aB;exact aC (.z,.z,.z,.z) trivial (by exact .cons cI (.cons bE (.cons (.there .here) (.h1 .nil)))) aB I
  have hz:e_=0:=Zq.1 aA;have ho0:CU r (eT l) i=0:=LH.trans hz;obtain ⟨q',ux,_⟩:=gS ho0;have Xq:R=r.wp q':=bb.symm.trans ux.eq;subst Xq;apply aG (i+1,(s2,d2,t2,p2),q') ⟨by show i+1<=_;omega,ux,fun j hj=>by
   by_cases e:j=i
   ·rw [e];exact ho0
   ·exact PT j (by have:j<i+1:=hj;omega),m1,m2,m3,m4⟩ (by show l.length-(i+1)<l.length-i;omega)
  case hs1=>exact bT
  case ht=>
   dsimp only;have w1:(r.wp q').lv=r.lv:=rfl;have w2:(r.wp q').ma=r.ma:=rfl;have w3:(r.wp q').sr=r.sr:=rfl;have w4:(r.wp q').de=r.de:=rfl;have w5:(r.wp q').ti=r.ti:=rfl;have w6:(r.wp q').po=q':=rfl
   try unfold J1 J2 J3
   try unfold J4
   rw [w1,w2,w3,w4,w5,w6];exact .h1 (.cons (.there .here) (.cons (.there .here) (.cons (.there .here) (.cons (.there .here) (.cons nR .nil)))))
 ·have e:i=l.length:=by omega
  subst e
  (refine Jr<|JA I<|Jn<|Jq<|Jc I fun aA=>Jp<|Jl<|Jo<|Jt<|Jr<|ab (bU .here) I<|ak (.of I) (.of I) ek I I (dO I I k1 k2 k3 k4) (br I) ai<|Ja I<|Ja I<|Jn<|Je ?_)
  have hE:kA (CU r (eT l)) l.length=0:=eK.2 PT;have e4:jq r (eT l)=(r.wp q,0,0):=by rw [hX,hE,if_pos I,Uj.eq]
  rw [e4];dsimp only
  with_reducible first|apply aO|apply aP
  case he=>exact ki I inferInstance I .here ai (by rfl) (by rfl) (by rfl)
  case hR=>
   intro w' aB;exact aC (s1,d1,t1,p1) trivial (by exact .cons bE (.cons bE (.cons bE (.cons bE .nil)))) aB I
theorem S7 (h:OW r l=0):fm r=0/\QF r l:=by
 unfold OW at h;by_cases c:fm r=0
 ·rw [if_neg (not_not_intro c)] at h;exact ⟨c,ods h⟩
 ·rw [if_pos c] at h;exact absurd h c
def g4:Value->Value×Value×Value×Value
 | .agg a=>(a.getD 0 (.slice none 0 0),a.getD 1 (.slice none 0 0),a.getD 2 (.slice none 0 0),a.getD 3 (.slice none 0 0))
 | _=>(.slice none 0 0,.slice none 0 0,.slice none 0 0,.slice none 0 0)
theorem mh (x:Value×Value×Value×Value):∃ v,g4 v=x:=⟨.agg #[x.1,x.2.1,x.2.2.1,x.2.2.2],I⟩
def Km (r:Ro) (o:ByteArray) (f:Int):Int:=aY [mF r o,gX f 0 10000000]
def rX (r:Ro) (l:List Od) (o:ByteArray) (f:Int):Int:=if OW r l≠0 then OW r l else if Km r o f≠0 then Km r o f else (jq r (l.take (jc l f))).2.2
def uK (r:Ro) (l:List Od) (o:ByteArray) (f:Int):List ByteArray:=if rX r l o f≠0 then [] else cZ (jq r (l.take (jc l f))).1 o
theorem Pq (l:List qS) (f:Int):iN (fun x:qS=>decide (f<x.fr)) l=if jc (eT l) f<l.length then ((jc (eT l) f:Nat):Int) else -1:=by
 have hn:jc (eT l) f=l.findIdx fun x=>decide (f<x.fr):=by
  unfold jc eT;rw [List.findIdx_map];rfl
 rw [hn];by_cases c:(l.findIdx fun x=>decide (f<x.fr))<l.length
 ·rw [if_pos c];refine gN (fun i hi=>?_) c (List.findIdx_getElem (w:=c));have:=List.not_of_lt_findIdx hi;rw [Zc (by omega)];simpa using this
 ·rw [if_neg c];refine fO fun i hi=>?_;have:=List.not_of_lt_findIdx (p:=fun x:qS=>decide (f<x.fr)) (xs:=l) (i:=i) (by omega)
  rw [Zc hi];simpa using this
theorem QF.take (h:QF r l) (n:Nat):QF r (l.take n):=by
 refine ⟨by rw [Zs];have:=h.B2;omega,fun k hk=>?_,fun i j hi hj zB=>?_,fun k hk=>?_⟩
 ·rw [Zs] at hk;rw [ZaP];exact h.fr k (by omega)
 ·rw [Zs] at hi hj;rw [ZaP,ZaP];exact h.inc i j (by omega) (by omega) zB
 ·rw [Zs] at hk;rw [ZaP];exact h.tk k (by omega)
theorem FX (hc:fm r=0) (hO:QF r l) (h:(jq r l).2.2=0):∃ q,jy r q/\(jq r l).1=r.wp q:=by
 unfold jq at h ⊢;by_cases c:kA (CU r l) l.length=0
 ·rw [if_pos c];obtain ⟨q,hq⟩:=Kv hc hO l.length (Zv _) (eK.1 c);exact ⟨q,hq.val,hq.eq⟩
 ·rw [if_neg c] at h;exact absurd h c
set_option maxHeartbeats 2000000 in
theorem UP {s d t p kv:Value} {l:List qS} (o:ByteArray) (f:Int) {w:World} (h:RR w r s d t p) (c6:mX r) (hw:Rd w kv 2 (ug l)) (hM:IK w l) :
  a8 T_ 64 [RA r s d t p,kv,.string o,.q f] w [] (fun _:Value=>True) (fun v=>.tuple #[v,.q (rX r (eT l) o f)]) (fun v=>[row 9 1 v (uK r (eT l) o f).length (aR (uK r (eT l) o f))]):=by
 obtain ⟨h1,h2,h3,h4⟩:=h.one;have DX:=hw;obtain ⟨a,cp,b,ow,rfl,dC,ch,ha,hc⟩:=hw;rw [l9] at *;unfold maxLen at ch;have vw:=vn l;have LH:∀ w',aI [] w w'->an T_ 171 [.agg #[.int .i64 r.lv,.int .i64 r.ma,s,d,t,p],.slice a l.length cp] w' (.int .i64 (OW r (eT l))):=fun w' hk=>yH (h.keeps hk) c6 (DX.keeps hk) (hM.keeps hk)
 have kz:∀ w',aI [] w w'->an T_ 112 [.agg #[.q r.lv,.q r.ma,s,d,t,p],.string o] w' (.q (mF r o)):=fun w' hk=>eA o (h.keeps hk)
 unfold RA;refine aS func64 I I ?_
 (refine Jr<|Jy I I fun _ _=>Jy I I fun _ _=>Ja I<|Ja I<|Jn<|Jq<|Jr<|ab (bU (.there .here)) I<|Jv I<|ah bn I (fun w' aB=>(LH w' (Mem.keeps aB)))<|Ja I<|Ji<|Jv I<|JD I<|Jn<|gL I (fun aA=>?_) fun aA=>?_;refine Jr<|Jv I<|Ja I<|Ja I<|Jn<|Ju ?_;rotate_left;refine Jk<|Jq<|Jq ?_;rotate_right)
 ·have e1:rX r (eT l) o f=OW r (eT l):=if_pos aA;have e2:uK r (eT l) o f=[]:=if_pos (by rw [e1];exact aA);rw [e1,e2];refine aJ 9 1 ?_
  with_reducible first|apply aO|apply aP
  case he=>exact gD I I I
  case hR=>
   intro w' aB;exact aC (.z) trivial (by exact .h1 .nil) aB I
 have Vs:rX r (eT l) o f=if Km r o f≠0 then Km r o f else (jq r ((eT l).take (jc (eT l) f))).2.2:=if_neg aA
 obtain ⟨B0,hO⟩:=S7 (Zq.1 aA);clear aA;rename_i b4 sH b7 Ud
 with_reducible refine db 6 (by kernel_rfl) ?_
 (refine az (bU (.there .here)) I<|az mw I<|aZ bn I (fun w' aB=>(kz w' (Mem.keeps aB)))<|az (gn .here) I<|aZ dU I (fun w' aB=>(nw f 0 10000000 w'))<|eM (aD (.o I (.o I .nil)) I I I I) I I ?_)
 with_reducible refine dI I fun bq mV=>?_
 (refine ah bJ I (fun w' aB=>(dV (Mem.dy aB .here I I) (cr.cons (cr.cons cr.nil))))<|Ja I<|Ji<|Jv I<|JD I<|Jn<|gL I (fun aA=>?_) fun aA=>?_;refine Jr<|Jv I<|Ja I<|Ja I<|Jn<|Ju ?_;rotate_left;refine Jk<|Jr<|Jv I<|ab (bC .nil (.o I .nil)) I ?_;rotate_right)
 ·have e1:rX r (eT l) o f=Km r o f:=by rw [Vs];exact if_pos aA
  have e2:uK r (eT l) o f=[]:=if_pos (by rw [e1];exact aA);rw [e1,e2];refine aJ 9 1 ?_
  with_reducible first|apply aO|apply aP
  case he=>exact gD I I I
  case hR=>
   intro w' aB;exact aC (.z) trivial (by exact .h1 .nil) aB I
 have eq2:rX r (eT l) o f=(jq r ((eT l).take (jc (eT l) f))).2.2:=by rw [Vs];exact if_neg aA
 clear Vs;have Vs:=eq2;have hsd:o∈cu r:=by
  have:=(bO (by decide)).1 (bX.1 (Zq.1 aA) (mF r o) (by simp));rwa [decide_eq_false_iff_not,cJ,Classical.not_not] at this
 clear aA eq2
 with_reducible apply ah
 case hr=>exact bn
 case hd=>rfl
 case hc=>
  intro w' aB;have f7:w'.cell? ⟨b7,0,none⟩=some (.q f):=At.lit (by exact Take.there .here) I w' aB;exact Ps (f:=174) (p:=fun x:qS=>decide (f<x.fr)) (first:=[]) (cap:=[.p b7]) (DX.keeps aB.keeps) (fun x _ w2 fg=>On (cK f7 I fg))
 rw [Pq];have TE:=Sl (eT l) f;rw [vw] at TE;by_cases kT:jc (eT l) f<l.length
 ·rw [if_pos kT];have TC:jc (eT l) f<=l.length:=TE;have TD:jc (eT l) f=jc (eT l) f:=rfl;refine Ja I<|Jn<|Jq<|Jr<|Jv I<|JA I<|Jn<|Jc I fun aA=>Jk<|Jq ?_;have w7:rX r (eT l) o f=(jq r ((eT l).take (jc (eT l) f))).2.2/\uK r (eT l) o f=if (jq r ((eT l).take (jc (eT l) f))).2.2≠0 then [] else cZ (jq r ((eT l).take (jc (eT l) f))).1 o:=by
   have x1:rX r (eT l) o f=(jq r ((eT l).take (jc (eT l) f))).2.2:=by rw [Vs,TD]
   refine ⟨x1,?_⟩;unfold uK;rw [x1,TD]
  have Uk:=hO.take (jc (eT l) f);have rN:(eT l).take (jc (eT l) f)=eT (l.take (jc (eT l) f)):=by unfold eT;rw [ZaN]
  rw [rN] at w7 Uk;have w8:=FX B0 Uk;have uv:Rd w (Go.sliced a 0 (((jc (eT l) f):Nat):Int).toNat cp 2) 2 (ug (l.take (jc (eT l) f))):=by
   have:=DX.sliced (l:=0) (m:=(jc (eT l) f)) (Zi _) TC;rw [ZE];rwa [List.drop_zero,show (ug l).take (jc (eT l) f)=ug (l.take (jc (eT l) f)) by unfold ug;rw [ZaN]] at this
  have hMn:IK w (l.take (jc (eT l) f)):=fun x hx=>hM x (Zax hx)
  rw [w7.1,w7.2];have sB:∀ w',aI [] w w'->a8 T_ 172 [.agg #[.q r.lv,.q r.ma,s,d,t,p],Go.sliced a 0 (((jc (eT l) f):Nat):Int).toNat cp 2] w' [] (fun _:Value×Value×Value×Value=>True) (fun x=>.tuple #[RA (jq r (eT (l.take (jc (eT l) f)))).1 x.1 x.2.1 x.2.2.1 x.2.2.2,.q (jq r (eT (l.take (jc (eT l) f)))).2.1,.q (jq r (eT (l.take (jc (eT l) f)))).2.2]) (fun x=>nV (jq r (eT (l.take (jc (eT l) f)))).1 x):=fun w' hk=>QV (h.keeps hk) B0 (uv.keeps hk) (hMn.keeps hk) Uk
  generalize jq r (eT (l.take (jc (eT l) f)))=R at w8 sB ⊢;obtain ⟨R,at_,e_⟩:=R;dsimp only at w8 sB ⊢
  with_reducible refine kF 10 [7,8] (by kernel_rfl) (Zp.2 ⟨lG I (by kernel_rfl) (by kernel_rfl),Zp.2 ⟨lG I (by kernel_rfl) (by kernel_rfl),fun _ h=>absurd h Zo⟩⟩) ?_
  (refine au (fun β=>(bQ (.of I) bE ai (by rfl))) dH I<|au (fun β=>(aQ (.of I))) dH I<|au (fun β=>(aQ (.of I))) dH I<|au (fun β=>(hY (.of I) (.of I) (by omega) (by omega))) dH I ?_)
  dsimp only [Nat.zero_add,Nat.reduceAdd]
  with_reducible apply dZ (ι:=Value×Value×Value×Value) (Φ:=fun _=>True) (val:=fun x=>.tuple #[.agg #[.q R.lv,.q R.ma,x.1,x.2.1,x.2.2.1,x.2.2.2],.q at_,.q e_]) (own:=fun x=>[J1 R x.1,J2 R x.2.1,J3 R x.2.2.1,J4 R x.2.2.2]) (g:=g4) (B:=[]) (args:=fun _=>[.agg #[.q r.lv,.q r.ma,s,d,t,p],Go.sliced a 0 (((jc (eT l) f):Nat):Int).toNat cp 2])
  case hg=>exact mh
  case hB=>rfl
  case hr=>exact fun β=>a7 (.of I) (.o I (.o I .nil)) inferInstance I
  case hd=>rfl
  case hc=>exact fun β w' hb=>sB w' hb.mem.keeps
  dsimp only [Nat.reduceAdd]
  with_reducible apply au
  case hr=>(intro β;exact aQ (.of I))
  case hi=>exact fun β β' h=>by simp only [h 4 (by kernel_rfl)]
  case hd=>rfl
  dsimp only [Nat.reduceAdd]
  with_reducible apply au
  case hr=>(intro β;exact dG (.of I) I)
  case hi=>exact fun β β' h=>by simp only [h 4 (by kernel_rfl)]
  case hd=>rfl
  dsimp only [Nat.reduceAdd]
  (refine au (fun β=>(dG (.of I) I)) dH I<|au (fun β=>(dG (.of I) I)) dH I ?_)
  refine iG (fun β=>(kY I)) (fun _ _ _=>rfl) I ?_;refine eN fun β=>?_;dsimp only [dW,Za,Zb,List.append_eq,Nat.reduceAdd];generalize eu (β 9)=RZ;generalize g4 (β 4)=y;obtain ⟨s1,d1,t1,p1⟩:=y;clear β;dsimp only;refine dF (r:=R) (s:=s1) (d:=d1) (t:=t1) (p:=p1) (by unfold nV PB;exact .h4 .nil) fun m1 m2 m3 m4=>?_;refine bF (rs:=[10]) (by kernel_rfl) (by simp) (Zp.2 ⟨?_,fun _ h=>absurd h Zo⟩);refine bK I ?_
  (refine ak (.of I) (.of I) c7 I I (dO I I m1 m2 m3 m4) (br I) ai<|Jn ?_)
  refine bF (rs:=[11]) (by kernel_rfl) (by simp) (Zp.2 ⟨?_,fun _ h=>absurd h Zo⟩);refine bK I ?_;refine Ja I<|Jn ?_;refine bF (rs:=[12]) (by kernel_rfl) (by simp) (Zp.2 ⟨?_,fun _ h=>absurd h Zo⟩);refine bK I ?_;refine Ja I<|Jn ?_
  with_reducible refine cn (by kernel_rfl) ?_
  clear sB;by_cases BZ:e_=0
  ·obtain ⟨q,hVq,Xq⟩:=w8 BZ;clear w8;rw [if_neg (not_not_intro BZ)];subst Xq;subst BZ;have WI:=(yn B0).wp hVq;have tb:=WI.lim;have vz:=WI.len
   (refine Jt<|Jq<|Jr<|Jv I<|JD I<|Jn<|Jc I fun aA=>Jk<|Jr<|ab (bU .here) I<|Jv I ?_)
   have hnh:(cZ (r.wp q) o).length=(r.wp q).lv.toNat:=by unfold cZ;simp
   rw [hnh];generalize r.wp q=R at *;refine JN bn I (fun w1 aT=>xe (r:=R) o ⟨cF aT (by exact Take.there .here) I,cH aT bE I,cE aT cI I,cq aT c7 I⟩ (by omega) (by omega)) ?_;intro hv _;dsimp only [id_eq,Zb,Za];refine aK (E:=9) (sz:=1) (v:=hv) (by exact .here) fun va vc e=>?_;subst e;refine Ja I<|Ja I<|Jn<|Je ?_
   with_reducible first|apply aO|apply aP
   case he=>exact gD I I I
   case hR=>
    intro w' aB;exact aC (.slice va R.lv.toNat vc) trivial (by exact .h1 .nil) aB I
  ·clear w8;rw [if_pos BZ];refine Jt<|Jq<|Jr<|Jv I<|JD I<|Jn<|Jd I fun aA=>Jr<|Jv I<|Ja I<|Ja I<|Jn<|Ju ?_;refine aJ 9 1 ?_
   with_reducible first|apply aO|apply aP
   case he=>exact gD I I I
   case hR=>
    intro w' aB;exact aC (.z) trivial (by exact .h1 .nil) aB I
 ·rw [if_neg kT];have TC:l.length<=l.length:=Zv _;have TD:jc (eT l) f=l.length:=by omega
  refine Ja I<|Jn<|Jq<|Jr<|Jv I<|JA I<|Jn<|Jd I fun aA=>Jg<|Jv I<|JI I<|Ja I<|Jn<|Jq ?_;have w7:rX r (eT l) o f=(jq r ((eT l).take l.length)).2.2/\uK r (eT l) o f=if (jq r ((eT l).take l.length)).2.2≠0 then [] else cZ (jq r ((eT l).take l.length)).1 o:=by
   have x1:rX r (eT l) o f=(jq r ((eT l).take l.length)).2.2:=by rw [Vs,TD]
   refine ⟨x1,?_⟩;unfold uK;rw [x1,TD]
  have Uk:=hO.take l.length;have rN:(eT l).take l.length=eT (l.take l.length):=by unfold eT;rw [ZaN]
  rw [rN] at w7 Uk;have w8:=FX B0 Uk;have uv:Rd w (Go.sliced a 0 ((l.length:Nat):Int).toNat cp 2) 2 (ug (l.take l.length)):=by
   have:=DX.sliced (l:=0) (m:=l.length) (Zi _) TC;rw [ZE];rwa [List.drop_zero,show (ug l).take l.length=ug (l.take l.length) by unfold ug;rw [ZaN]] at this
  have hMn:IK w (l.take l.length):=fun x hx=>hM x (Zax hx)
  rw [w7.1,w7.2];have sB:∀ w',aI [] w w'->a8 T_ 172 [.agg #[.q r.lv,.q r.ma,s,d,t,p],Go.sliced a 0 ((l.length:Nat):Int).toNat cp 2] w' [] (fun _:Value×Value×Value×Value=>True) (fun x=>.tuple #[RA (jq r (eT (l.take l.length))).1 x.1 x.2.1 x.2.2.1 x.2.2.2,.q (jq r (eT (l.take l.length))).2.1,.q (jq r (eT (l.take l.length))).2.2]) (fun x=>nV (jq r (eT (l.take l.length))).1 x):=fun w' hk=>QV (h.keeps hk) B0 (uv.keeps hk) (hMn.keeps hk) Uk
  generalize jq r (eT (l.take l.length))=R at w8 sB ⊢;obtain ⟨R,at_,e_⟩:=R;dsimp only at w8 sB ⊢
  with_reducible refine kF 10 [7,8] (by kernel_rfl) (Zp.2 ⟨lG I (by kernel_rfl) (by kernel_rfl),Zp.2 ⟨lG I (by kernel_rfl) (by kernel_rfl),fun _ h=>absurd h Zo⟩⟩) ?_
  (refine au (fun β=>(bQ (.of I) bE ai (by rfl))) dH I<|au (fun β=>(aQ (.of I))) dH I<|au (fun β=>(aQ (.of I))) dH I<|au (fun β=>(hY (.of I) (.of I) (by omega) (by omega))) dH I ?_)
  dsimp only [Nat.zero_add,Nat.reduceAdd]
  with_reducible apply dZ (ι:=Value×Value×Value×Value) (Φ:=fun _=>True) (val:=fun x=>.tuple #[.agg #[.q R.lv,.q R.ma,x.1,x.2.1,x.2.2.1,x.2.2.2],.q at_,.q e_]) (own:=fun x=>[J1 R x.1,J2 R x.2.1,J3 R x.2.2.1,J4 R x.2.2.2]) (g:=g4) (B:=[]) (args:=fun _=>[.agg #[.q r.lv,.q r.ma,s,d,t,p],Go.sliced a 0 ((l.length:Nat):Int).toNat cp 2])
  case hg=>exact mh
  case hB=>rfl
  case hr=>exact fun β=>a7 (.of I) (.o I (.o I .nil)) inferInstance I
  case hd=>rfl
  case hc=>exact fun β w' hb=>sB w' hb.mem.keeps
  dsimp only [Nat.reduceAdd]
  with_reducible apply au
  case hr=>(intro β;exact aQ (.of I))
  case hi=>exact fun β β' h=>by simp only [h 4 (by kernel_rfl)]
  case hd=>rfl
  dsimp only [Nat.reduceAdd]
  with_reducible apply au
  case hr=>(intro β;exact dG (.of I) I)
  case hi=>exact fun β β' h=>by simp only [h 4 (by kernel_rfl)]
  case hd=>rfl
  dsimp only [Nat.reduceAdd]
  (refine au (fun β=>(dG (.of I) I)) dH I<|au (fun β=>(dG (.of I) I)) dH I ?_)
  refine iG (fun β=>(kY I)) (fun _ _ _=>rfl) I ?_;refine eN fun β=>?_;dsimp only [dW,Za,Zb,List.append_eq,Nat.reduceAdd];generalize eu (β 9)=RZ;generalize g4 (β 4)=y;obtain ⟨s1,d1,t1,p1⟩:=y;clear β;dsimp only;refine dF (r:=R) (s:=s1) (d:=d1) (t:=t1) (p:=p1) (by unfold nV PB;exact .h4 .nil) fun m1 m2 m3 m4=>?_;refine bF (rs:=[10]) (by kernel_rfl) (by simp) (Zp.2 ⟨?_,fun _ h=>absurd h Zo⟩);refine bK I ?_
  (refine ak (.of I) (.of I) c7 I I (dO I I m1 m2 m3 m4) (br I) ai<|Jn ?_)
  refine bF (rs:=[11]) (by kernel_rfl) (by simp) (Zp.2 ⟨?_,fun _ h=>absurd h Zo⟩);refine bK I ?_;refine Ja I<|Jn ?_;refine bF (rs:=[12]) (by kernel_rfl) (by simp) (Zp.2 ⟨?_,fun _ h=>absurd h Zo⟩);refine bK I ?_;refine Ja I<|Jn ?_
  with_reducible refine cn (by kernel_rfl) ?_
  clear sB;by_cases BZ:e_=0
  ·obtain ⟨q,hVq,Xq⟩:=w8 BZ;clear w8;rw [if_neg (not_not_intro BZ)];subst Xq;subst BZ;have WI:=(yn B0).wp hVq;have tb:=WI.lim;have vz:=WI.len
   (refine Jt<|Jq<|Jr<|Jv I<|JD I<|Jn<|Jc I fun aA=>Jk<|Jr<|ab (bU .here) I<|Jv I ?_)
   have hnh:(cZ (r.wp q) o).length=(r.wp q).lv.toNat:=by unfold cZ;simp
   rw [hnh];generalize r.wp q=R at *;refine JN bn I (fun w1 aT=>xe (r:=R) o ⟨cF aT (by exact Take.there .here) I,cH aT bE I,cE aT cI I,cq aT c7 I⟩ (by omega) (by omega)) ?_;intro hv _;dsimp only [id_eq,Zb,Za];refine aK (E:=9) (sz:=1) (v:=hv) (by exact .here) fun va vc e=>?_;subst e;refine Ja I<|Ja I<|Jn<|Je ?_
   with_reducible first|apply aO|apply aP
   case he=>exact gD I I I
   case hR=>
    intro w' aB;exact aC (.slice va R.lv.toNat vc) trivial (by exact .h1 .nil) aB I
  ·clear w8;rw [if_pos BZ];refine Jt<|Jq<|Jr<|Jv I<|JD I<|Jn<|Jd I fun aA=>Jr<|Jv I<|Ja I<|Ja I<|Jn<|Ju ?_;refine aJ 9 1 ?_
   with_reducible first|apply aO|apply aP
   case he=>exact gD I I I
   case hR=>
    intro w' aB;exact aC (.z) trivial (by exact .h1 .nil) aB I
end Go.Proofs.A1
namespace Go.Proofs
open Go.Shelf
def Tryz.um:Go.Shelf.Ren:=⟨fun | 156=>278 | 165=>326 | 166=>327 | 169=>328 | 240=>357 | 241=>358 | 276=>379 | 277=>380 | n=>n,fun | 31=>32 | 9=>9 | 3=>3 | 4=>4 | 0=>0 | 20=>20 | 72=>397 | 76=>401 | 70=>395 | 37=>351 | 75=>400 | 127=>421 | 164=>437 | 5=>5 | 80=>197 | n=>n,fun | n=>n⟩
theorem Tryz.Gg:Go.Proofs.Lays.n156 Tryz.prog Tryz.um:={
 mixed:=by kernel_rfl
 f156:=Tryz.func278.trans (congrArg some (by kernel_rfl))
 f165:=Tryz.func326.trans (congrArg some (by kernel_rfl))
 f166:=Tryz.func327.trans (congrArg some (by kernel_rfl))
 f169:=Tryz.func328.trans (congrArg some (by kernel_rfl))
 f240:=Tryz.func357.trans (congrArg some (by kernel_rfl))
 f241:=Tryz.func358.trans (congrArg some (by kernel_rfl))
 f276:=Tryz.func379.trans (congrArg some (by kernel_rfl))
 f277:=Tryz.func380.trans (congrArg some (by kernel_rfl))
 t0:=Tryz.underlying0
 a0:=Tryz.isAgg0
 z0:=Tryz.sizeOf0
 v0:=Tryz.zeroValue0
 t3:=Tryz.underlying3
 a3:=Tryz.isAgg3
 z3:=Tryz.sizeOf3
 v3:=Tryz.zeroValue3
 t4:=Tryz.underlying4
 a4:=Tryz.isAgg4
 z4:=Tryz.sizeOf4
 v4:=Tryz.zeroValue4
 t9:=Tryz.underlying9
 a9:=Tryz.isAgg9
 z9:=Tryz.sizeOf9
 v9:=Tryz.zeroValue9
 t20:=Tryz.underlying20
 a20:=Tryz.isAgg20
 z20:=Tryz.sizeOf20
 v20:=Tryz.zeroValue20
 t31:=Tryz.underlying32
 a31:=Tryz.isAgg32
 z31:=Tryz.sizeOf32
 v31:=Tryz.zeroValue32
 t37:=Tryz.underlying351
 a37:=Tryz.isAgg351
 z37:=Tryz.sizeOf351
 v37:=Tryz.zeroValue351
 t70:=Tryz.underlying395
 a70:=Tryz.isAgg395
 z70:=Tryz.sizeOf395
 v70:=Tryz.zeroValue395
 t72:=Tryz.underlying397
 a72:=Tryz.isAgg397
 z72:=Tryz.sizeOf397
 v72:=Tryz.zeroValue397
 t75:=Tryz.underlying400
 a75:=Tryz.isAgg400
 z75:=Tryz.sizeOf400
 v75:=Tryz.zeroValue400
 t76:=Tryz.underlying401
 a76:=Tryz.isAgg401
 z76:=Tryz.sizeOf401
 v76:=Tryz.zeroValue401
 t127:=Tryz.underlying421
 a127:=Tryz.isAgg421
 z127:=Tryz.sizeOf421
 v127:=Tryz.zeroValue421
 t164:=Tryz.underlying437
 a164:=Tryz.isAgg437
 z164:=Tryz.sizeOf437
 v164:=Tryz.zeroValue437 }
theorem Tryz.mY:Builder.Extra Tryz.prog Tryz.um:={
 sizeBuilder:=by kernel_rfl
 liesBuilder:=by kernel_rfl
 t5:=Tryz.underlying5
 a5:=Tryz.isAgg5
 z5:=Tryz.sizeOf5
 v5:=Tryz.zeroValue5
 infoByte:=by kernel_rfl
 cellsByte:=by kernel_rfl
 sizeByte:=by kernel_rfl
 neB5:=by decide }
open Go.RowKit in
theorem Tryz.strings_Join_none (a:Option Addr) (c:Nat) (sep:ByteArray) (w:World) :
  Calls Tryz.prog 278 #[.slice a 0 c,.string sep] w fun e w'=>e=.returned (.string ⟨#[]⟩)/\w'=w:=Any.strings_Join_none Tryz.Gg Tryz.mY a c sep w
open Go.RowKit in
theorem Tryz.strings_Join (bk o c:Nat) (xs:List ByteArray) (sep:ByteArray) (w:World) (T9:∀ (j:Nat) x,xs[j]? = some x->w.cell? ⟨bk,o+j,none⟩=some (.string x)) (hbk:bk<w.heap.size) (hN:xs.length<=140737488355328) (dC:xs.length<=c) (hlen:(Lib.join (xs.map (·.data.toList)) sep.data.toList).length<=140737488355328) :
  Calls Tryz.prog 278 #[.slice (some ⟨bk,o,none⟩) xs.length c,.string sep] w fun e w'=>e=.returned (.string ⟨(Lib.join (xs.map (·.data.toList)) sep.data.toList).toArray⟩)/\Below w.heap.size w w':=Any.strings_Join Tryz.Gg Tryz.mY bk o c xs sep w T9 hbk hN dC hlen
def Tryz.C3:Go.Shelf.Ren:=⟨fun | 243=>279 | 246=>329 | 283=>359 | 284=>360 | 285=>361 | 286=>362 | 129=>313 | 317=>381 | 318=>382 | 319=>383 | 320=>384 | 337=>393 | 338=>394 | n=>n,fun | 3=>3 | 9=>9 | 2=>2 | 4=>4 | 171=>422 | 0=>0 | 53=>383 | 37=>351 | 5=>5 | 173=>424 | 212=>441 | 51=>381 | 20=>20 | 213=>442 | 46=>318 | 232=>449 | 233=>450 | n=>n,fun | 17=>1 | 18=>3 | 19=>4 | n=>n⟩
theorem Tryz.Pb:Go.Proofs.Lays.n243 Tryz.prog Tryz.C3:={
 mixed:=by kernel_rfl
 f129:=Tryz.func313.trans (congrArg some (by kernel_rfl))
 f243:=Tryz.func279.trans (congrArg some (by kernel_rfl))
 f246:=Tryz.func329.trans (congrArg some (by kernel_rfl))
 f283:=Tryz.func359.trans (congrArg some (by kernel_rfl))
 f284:=Tryz.func360.trans (congrArg some (by kernel_rfl))
 f285:=Tryz.func361.trans (congrArg some (by kernel_rfl))
 f286:=Tryz.func362.trans (congrArg some (by kernel_rfl))
 f317:=Tryz.func381.trans (congrArg some (by kernel_rfl))
 f318:=Tryz.func382.trans (congrArg some (by kernel_rfl))
 f319:=Tryz.func383.trans (congrArg some (by kernel_rfl))
 f320:=Tryz.func384.trans (congrArg some (by kernel_rfl))
 f337:=Tryz.func393.trans (congrArg some (by kernel_rfl))
 f338:=Tryz.func394.trans (congrArg some (by kernel_rfl))
 t0:=Tryz.underlying0
 a0:=Tryz.isAgg0
 z0:=Tryz.sizeOf0
 v0:=Tryz.zeroValue0
 t2:=Tryz.underlying2
 a2:=Tryz.isAgg2
 z2:=Tryz.sizeOf2
 v2:=Tryz.zeroValue2
 t3:=Tryz.underlying3
 a3:=Tryz.isAgg3
 z3:=Tryz.sizeOf3
 v3:=Tryz.zeroValue3
 t4:=Tryz.underlying4
 a4:=Tryz.isAgg4
 z4:=Tryz.sizeOf4
 v4:=Tryz.zeroValue4
 t5:=Tryz.underlying5
 a5:=Tryz.isAgg5
 z5:=Tryz.sizeOf5
 v5:=Tryz.zeroValue5
 t9:=Tryz.underlying9
 a9:=Tryz.isAgg9
 z9:=Tryz.sizeOf9
 v9:=Tryz.zeroValue9
 t20:=Tryz.underlying20
 a20:=Tryz.isAgg20
 z20:=Tryz.sizeOf20
 v20:=Tryz.zeroValue20
 t37:=Tryz.underlying351
 a37:=Tryz.isAgg351
 z37:=Tryz.sizeOf351
 v37:=Tryz.zeroValue351
 t46:=Tryz.underlying318
 a46:=Tryz.isAgg318
 z46:=Tryz.sizeOf318
 v46:=Tryz.zeroValue318
 t51:=Tryz.underlying381
 a51:=Tryz.isAgg381
 z51:=Tryz.sizeOf381
 v51:=Tryz.zeroValue381
 t53:=Tryz.underlying383
 a53:=Tryz.isAgg383
 z53:=Tryz.sizeOf383
 v53:=Tryz.zeroValue383
 t171:=Tryz.underlying422
 a171:=Tryz.isAgg422
 z171:=Tryz.sizeOf422
 v171:=Tryz.zeroValue422
 t173:=Tryz.underlying424
 a173:=Tryz.isAgg424
 z173:=Tryz.sizeOf424
 v173:=Tryz.zeroValue424
 t212:=Tryz.underlying441
 a212:=Tryz.isAgg441
 z212:=Tryz.sizeOf441
 v212:=Tryz.zeroValue441
 t213:=Tryz.underlying442
 a213:=Tryz.isAgg442
 z213:=Tryz.sizeOf442
 t232:=Tryz.underlying449
 a232:=Tryz.isAgg449
 z232:=Tryz.sizeOf449
 v232:=Tryz.zeroValue449
 t233:=Tryz.underlying450
 a233:=Tryz.isAgg450
 z233:=Tryz.sizeOf450
 v233:=Tryz.zeroValue450
 g17:=by kernel_rfl
 g18:=by kernel_rfl
 g19:=by kernel_rfl }
open Go.RowKit Go.Sort Go.Lib in
theorem Tryz.internal_strconv_Itoa_small (i:Nat) (hi:i<100) (w:World) :
  Calls Tryz.prog 279 #[.q i] w fun e w'=>e=.returned (.string ⟨(Lib.decDigits i).toArray⟩)/\w'=w:=Any.internal_strconv_Itoa_small Tryz.Pb i hi w
end Go.Proofs
namespace Go
def Result.up {α:Type} (w:World):Result α->Prop
  | .ok _ w'=>w.drawn<=w'.drawn
  | .halt _ w'=>w.drawn<=w'.drawn
variable {a:Halt} {atomic:Bool} {es:Array Event} {m:Machine} {p:Program} {r:World×List Addr} {v:Value} {var:Addr} {w w':World}
theorem Result.dR {α:Type} (h:w.drawn<=w'.drawn) {r:Result α} (k:r.up w'):r.up w:=by
  cases r <;> exact Nat.le_trans h k
theorem UO {α:Type} (a:Ask α):∀ w:World,w.drawn<=(w.ask a).2.drawn:=by
  induction a with
  | done a=>intro w;exact Nat.le_refl _
  | ask VC range k ih =>
    intro w;unfold World.ask;dsimp only;split
    · exact ih _ w
    · exact Nat.le_trans (Nat.le_succ _) (ih _ { w with drawn:=w.drawn+1 })
theorem Sy (w:World) (c:Sys):w.drawn<=(w.sys c).2.drawn:=by
  unfold World.sys;have h:=UO (Kernel.perform c w.os) w;generalize w.ask (Kernel.perform c w.os)=r at h;obtain ⟨⟨x,os⟩,w'⟩:=r;cases x <;> first | exact Nat.le_refl _ | exact h
theorem Aa {at_:Addr} {u:TypeId} {k:Addr}
    (h:w.viewStore p at_ u k v atomic=.ok r):r.1.drawn=w.drawn:=by
  unfold World.viewStore at h;simp only [bind,Except.bind,pure,Except.pure,throw,throwThe,MonadExceptOf.throw] at h
  repeat' split at h
  all_goals first | (cases h;rfl) | (injection h with h;rw [<- h]) | nomatch h
theorem Dw {a:Addr}
    (h:w.farStore p a v atomic=.ok r):r.1.drawn=w.drawn:=by
  unfold World.farStore at h;split at h
  · split at h
    · next e=>injection h with h;rw [<- h];exact Aa e
    · nomatch h
  · nomatch h
theorem HW (w:World) (a:Addr) (n:Nat):(w.freeze a n).drawn=w.drawn:=by
  unfold World.freeze;split <;> rfl
theorem Ay {α:Type} (p:Program) (s:Sem α):∀ w:World,(s.run p w).up w:=by
  induction s with
  | pure a=>intro w;exact Nat.le_refl _
  | load m a k ih =>
    intro w;unfold Sem.run;split
    · exact ih _ w
    · split
      · exact ih _ w
      · exact Nat.le_refl _
  | store m a v k ih =>
    intro w
    cases v <;> first
      | exact Nat.le_refl _
      | (simp only [Sem.run]
         split
         · split
           · exact Nat.le_refl _
           · exact ih (w.setCell _ _)
         · split
           · next hf=>exact Result.dR (Nat.le_of_eq (Dw hf).symm) (ih _)
           · exact Nat.le_refl _)
  | new o k ih=>intro w;exact ih _ _
  | shape r k ih=>intro w;exact ih _ w
  | freeze a n k ih=>intro w;exact Result.dR (Nat.le_of_eq (HW w a n).symm) (ih (w.freeze a n))
  | frozen a k ih=>intro w;exact ih _ w
  | getObj r k ih =>
    intro w;unfold Sem.run;split
    · exact Nat.le_refl _
    · exact ih _ w
    · exact Nat.le_refl _
  | setObj r o k ih =>
    intro w;unfold Sem.run;split
    · exact Nat.le_refl _
    · exact ih _
    · exact Nat.le_refl _
  | choose q k ih =>
    intro w;unfold Sem.run;split
    · exact ih _ w
    · exact Result.dR (Nat.le_succ w.drawn) (ih _ { w with drawn:=w.drawn+1 })
  | sys c k ih=>intro w;exact Result.dR (Sy w c) (ih _ _)
  | program k ih=>intro w;exact ih _ w
  | mark m k ih=>intro w;exact ih w
  | halt h=>intro w;exact Nat.le_refl _
theorem rY {α:Type} (p:Program) (s:Sem α) (w:World) (es:Array Event):(s.runT p w es).1.up w:=by
  rw [Sem.runT_fst];exact Ay p s w
theorem iH {α:Type} {s:Sem α} {a:α} (h:s.run p w=.ok a w'):w.drawn<=w'.drawn:=by
  have k:=Ay p s w;rw [h] at k;exact k
theorem PX {α:Type} {s:Sem α} (h:s.run p w=.halt a w'):w.drawn<=w'.drawn:=by
  have k:=Ay p s w;rw [h] at k;exact k
theorem Td {α:Type} {s:Sem α} {es P8:Array Event} {a:α} (h:s.runT p w es=(.ok a w',P8)):w.drawn<=w'.drawn:=by
  have k:=rY p s w es;rw [h] at k;exact k
theorem L6 {α:Type} {s:Sem α} {es P8:Array Event} (h:s.runT p w es=(.halt a w',P8)):w.drawn<=w'.drawn:=by
  have k:=rY p s w es;rw [h] at k;exact k
theorem j9 {α:Type} {s:Sem α} {a:α} (h:(s.runT p w es).1=.ok a w'):w.drawn<=w'.drawn:=by
  have k:=rY p s w es;rw [h] at k;exact k
theorem lU {α:Type} {s:Sem α} (h:(s.runT p w es).1=.halt a w'):w.drawn<=w'.drawn:=by
  have k:=rY p s w es;rw [h] at k;exact k
def GStep.up (w:World):GStep->Prop
  | .go _ w' _=>w.drawn<=w'.drawn
  | .comm _ _ _ _ w' _=>w.drawn<=w'.drawn
  | .spawn _ _ w' _=>w.drawn<=w'.drawn
  | .count _ w' _=>w.drawn<=w'.drawn
  | .timer _ _ w' _=>w.drawn<=w'.drawn
  | .alone _ _ w' _=>w.drawn<=w'.drawn
  | .newcoro _ _ _ w' _=>w.drawn<=w'.drawn
  | .coroswitch _ _ _ w' _=>w.drawn<=w'.drawn
  | .collect _ w' _=>w.drawn<=w'.drawn
  | .watch _ w' _=>w.drawn<=w'.drawn
  | .ended _ _ _=>True
theorem GStep.dR (h:w.drawn<=w'.drawn) {s:GStep} (k:s.up w'):s.up w:=by
  cases s <;> first | trivial | exact Nat.le_trans h k
theorem GStep.Ag {c:Prop} [Decidable c] {s t:GStep} (h:s.up w) (k:t.up w):(if c then s else t).up w:=by
  split
  · exact h
  · exact k
theorem GStep.jz (es:Array Event) {s:GStep} (k:s.up w):(s.after es).up w:=by
  cases s <;> exact k
theorem pW (fr:Frame) (m:String) (w:World):(endThrow fr m w).up w:=Nat.le_refl _
theorem E7 (w0 w:World) (fd:Nat) (text:ByteArray) (o:Outcome):(endWith w fd text o).up w0:=by
  unfold endWith;dsimp only;split
  · split <;> trivial
  · trivial
  · trivial
theorem pX (p:Program) (fr:Frame) (v:Value) (w:World):(endPrinting p fr v w).up w:=by
  unfold endPrinting;dsimp only;split
  · exact pW _ _ _
  · trivial
theorem uF (p:Program) (fr:Frame) (callers:List Frame) (dying:Option Dying) (m:String) (w:World):(endFatal p fr callers dying m w).up w:=by
  unfold endFatal;dsimp only;split
  · next h=>exact iH h
  · trivial
  · trivial
theorem D4 (p:Program) (fr:Frame) (d:Dying) (f:Fatal) (w:World):(writeOn p fr d f w).up w:=by
  unfold writeOn;dsimp only;split
  · trivial
  · split
    · next h=>exact Td h
    · next h=>exact L6 h
    · trivial
    · trivial
theorem Uz (p:Program) (fr:Frame) (d:Dying) (w:World):(die p fr d w).up w:=by
  unfold die;dsimp only;split
  · exact D4 _ _ _ _ _
  · split
    · split
      · exact Nat.le_refl _
      · exact E7 _ _ _ _ _
    · split
      · exact Nat.le_refl _
      · split
        · next h=>exact iH h
        · trivial
      · apply GStep.jz
        split
        · next h=>exact j9 h
        · next h=>exact j9 h
        · trivial
        · next h=>exact GStep.dR (lU h) (pX _ _ _ _)
        · trivial
      · trivial
theorem lk (p:Program) (main:Bool) (fr:Frame) (callers:List Frame) (dying:Option Dying) (v:Value) (w:World) :
    (doReturn p main fr callers dying v w).up w:=by
  unfold doReturn;dsimp only
  repeat' split
  all_goals first | trivial | exact Nat.le_refl _
theorem uT (p:Program) (fr:Frame) (callers:List Frame) (dying:Option Dying) (d:Deferred) (w:World) :
    (callDeferred p fr callers dying d w).up w:=by
  unfold callDeferred;dsimp only;apply GStep.Ag
  · trivial
  · apply GStep.jz
    repeat' split
    all_goals first
      | trivial
      | exact j9 (by assumption)
      | exact lU (by assumption)
      | exact GStep.dR (lU (by assumption)) (uF _ _ _ _ _ _)
      | exact GStep.dR (lU (by assumption)) (pW _ _ _)
theorem G2 (p:Program) (main:Bool) (fr:Frame) (callers:List Frame) (dying:Option Dying) (w:World) :
    (unwind p main fr callers dying w).up w:=by
  unfold unwind;dsimp only;split
  · apply GStep.jz
    split
    · next h=>exact j9 h
    · trivial
  · exact uT _ _ _ _ _ _
  · split
    · trivial
    · split
      · trivial
      · split
        · exact Nat.le_refl _
        · split
          · split
            · exact Nat.le_refl _
            · split
              · next h=>exact iH h
              · trivial
              · trivial
          · split
            · exact pX _ _ _ _
            · trivial
    · split
      · exact lk _ _ _ _ _ _ _
      · apply GStep.jz
        split
        · next h=>exact GStep.dR (j9 h) (lk _ _ _ _ _ _ _)
        · trivial
        · trivial
theorem Mk (p:Program) (fr:Frame) (callers:List Frame) (dying:Option Dying) (g:Nat) (w:World) :
    (early p fr callers dying g w).up w:=by
  unfold early;dsimp only
  repeat' split
  all_goals first
    | trivial
    | exact Nat.le_refl _
    | (next h _=>have k:=iH h;exact k)
    | (next h _ _=>have k:=iH h;exact k)
    | (next h=>have k:=iH h;exact k)
    | (next h _ _ _=>have k:=iH h;exact k)
    | (next h _ _ _ _=>have k:=iH h;exact k)
theorem sT (p:Program) (listen:Bool) (fr:Frame) (callers:List Frame) (dying:Option Dying) (s:Sem Next) (w:World) :
    (stepG.apply p listen fr callers dying s w).up w:=by
  unfold stepG.apply;dsimp only;apply GStep.jz;have hr:∃ r:Result Next×Array Event,(if listen=true then s.runT p w #[] else (s.run p w,#[]))=r/\r.1.up w:=by
    refine ⟨_,rfl,?_⟩;split
    · exact rY p s w #[]
    · exact Ay p s w
  obtain ⟨r,hr,hu⟩:=hr;rw [hr];generalize r.1=r1 at hu ⊢
  repeat' split
  all_goals first
    | trivial
    | exact VF hu (by assumption)
    | exact NR hu (by assumption)
    | exact hu
    | (refine GStep.dR ?_ (pW _ _ _);first | exact hu | exact VF hu (by assumption) | exact NR hu (by assumption))
    | (refine GStep.dR ?_ (uF _ _ _ _ _ _);exact hu)
    | (refine GStep.dR ?_ (Mk _ _ _ _ _ _);exact hu)
theorem F7 (p:Program) (listen:Bool) (fr:Frame) (callers:List Frame) (dying:Option Dying) (w:World) :
    (stepG.oper p listen fr callers dying w).up w:=by
  unfold stepG.oper
  repeat' split
  all_goals first | trivial | exact sT _ _ _ _ _ _ _
theorem P6 (p:Program) (main listen:Bool) (fr:Frame) (callers:List Frame) (dying:Option Dying) (w:World) :
    (stepG.exec p main listen fr callers dying w).up w:=by
  unfold stepG.exec;dsimp only;split
  all_goals first
    | trivial
    | exact Nat.le_refl _
    | (split
       · first | exact Nat.le_refl _ | (apply GStep.Ag <;> first | exact Nat.le_refl _ | trivial) | trivial
       · apply GStep.jz
         split
         · next h=>exact GStep.dR (j9 h) (lk _ _ _ _ _ _ _)
         · trivial)
    | (split <;> first | exact Nat.le_refl _ | trivial)
    | (generalize exitTo _ _ = o; cases o with
       | none =>
         split
         · first | exact Nat.le_refl _ | (apply GStep.Ag <;> first | exact Nat.le_refl _ | trivial) | trivial
         · apply GStep.jz
           split
           · next h=>exact GStep.dR (j9 h) (lk _ _ _ _ _ _ _)
           · trivial
       | some k=>exact Nat.le_refl _)
    | (generalize gotoIn _ _ = o; cases o with
       | none =>
         split
         · first | exact Nat.le_refl _ | (apply GStep.Ag <;> first | exact Nat.le_refl _ | trivial) | trivial
         · apply GStep.jz
           split
           · next h=>exact GStep.dR (j9 h) (lk _ _ _ _ _ _ _)
           · trivial
       | some k=>exact Nat.le_refl _)
    | (apply GStep.jz
       split
       · next h=>first | (have k:=j9 h;exact k) | exact GStep.dR (j9 h) (sT _ _ _ _ _ _ _)
       · first | trivial | (next h=>have k:=lU h;exact k)
       done)
    | (apply GStep.jz
       split
       · next h=>(have k:=j9 h;exact k)
       · next h=>(have k:=lU h;exact k)
       · trivial)
    | exact sT _ _ _ _ _ _ _
    | exact F7 _ _ _ _ _ _
    | (generalize Extern.next _ = o; cases o with
       | none=>trivial
       | some e=>exact sT _ _ _ _ _ _ _)
    | (split
       · exact Nat.le_refl _
       · split
         · next h=>have k:=iH h;exact k
         · trivial)
    | (split
       · exact F7 _ _ _ _ _ _
       · exact Nat.le_refl _)
    | skip
theorem Kg (p:Program) (main:Bool) (g:Goroutine) (w:World) (listen:Bool):(stepG p main g w listen).up w:=by
  unfold stepG;split;split
  · exact Uz _ _ _ _
  · exact P6 _ _ _ _ _ _ _
  · exact G2 _ _ _ _ _ _
def Stepped.up (w:World):Stepped->Prop
  | .next m=>w.drawn<=m.world.drawn
  | .ended _ _=>True
theorem Stepped.dR (h:w.drawn<=w'.drawn) {s:Stepped} (k:s.up w'):s.up w:=by
  cases s <;> first | trivial | exact Nat.le_trans h k
theorem AZ (p:Program) (gs:Array Goroutine) (rest:Rest) (w:World):(look p gs rest w).up w:=by
  unfold look;dsimp only;split
  · split
    · trivial
    · split
      · trivial
      · split
        · next h=>have k:=iH h;exact k
        · trivial
        · trivial
  · trivial
theorem z7 {rest:Rest} {cases:Array CommCase} (h:waitingAt rest cases w=some w'):w.drawn<=w'.drawn:=by
  unfold waitingAt at h;split at h
  · split at h
    · injection h with h;rw [<- h];exact Nat.le_refl _
    · nomatch h
  · injection h with h;rw [<- h];exact Nat.le_refl _
theorem xz (p:Program) (rest:Rest) (gs:Array Goroutine) (i:Nat) (g:Goroutine) (cases:Array CommCase) (DJ:Bool)
    (shape:CommShape) (w:World):(communicate p rest gs i g cases DJ shape w).1.up w:=by
  unfold communicate;dsimp only;split
  · trivial
  · split
    · split
      · split
        · next h=>exact z7 h
        · trivial
      · exact Nat.le_refl _
    · split
      · trivial
      · next h=>
        have k:=iH h;split
        · split
          · next h2=>
            have k2:=PX h2;exact Nat.le_trans k k2
          · trivial
        · exact k
        · exact k
        · split
          · exact k
          · split
            · next h3=>have k3:=iH h3;exact Nat.le_trans k k3
            · trivial
        · exact k
        · exact k
        · trivial
theorem Ml (w:World) (c:Nat):(drain w c).2.drawn=w.drawn:=by
  unfold drain;split <;> rfl
theorem zh (m:Machine) (k:Nat) (t:Timer) (when period:Nat):(retime m k t when period).2.world.drawn=m.world.drawn:=by
  unfold retime;dsimp only;split
  · exact Ml _ _
  · rfl
theorem C0 {f:Nat->Timer->Value×Machine} {n:Nat} (hf:∀ k t,(f k t).2.world.drawn=n) {r:Value×Machine}
    (h:timerOp.named m var f=.ok r):r.2.world.drawn=n:=by
  unfold timerOp.named at h;split at h
  · injection h with h;rw [<- h];exact hf _ _
  · nomatch h
theorem Hw {m m':Machine} (h:timerOp.opened m var=some m'):m'.world.drawn=m.world.drawn:=by
  unfold timerOp.opened at h;split at h
  · split at h
    · injection h with h;rw [<- h]
    · nomatch h
  · injection h with h;rw [<- h]
theorem Ee {op:TimerOp} {r:Value×Machine} (h:timerOp m op=.ok r):r.2.world.drawn=m.world.drawn:=by
  unfold timerOp at h;split at h
  · split at h
    · injection h with h;rw [<- h];rfl
    · split at h
      · split at h
        · nomatch h
        · injection h with h;rw [<- h]
      · nomatch h
  · exact C0 (fun k t=>zh m k t 0 t.period) h
  · split at h
    · next ho=>exact (C0 (fun k t=>zh _ k t _ _) h).trans (Hw ho)
    · nomatch h
  · injection h with h;rw [<- h];rfl
theorem Kr (p:Program) (m:Machine) (k:Nat):(serve p m k).up m.world:=by
  unfold serve;dsimp only;split
  · trivial
  · exact Nat.le_refl _
  · split
    · trivial
    · exact Nat.le_refl _
def Move.up (w:World):Move->Prop
  | .goroutine m _=>w.drawn<=m.world.drawn
  | .machine s _=>s.up w
theorem xI (p:Program) (m:Machine):(askOn p m).up m.world:=by
  unfold askOn;dsimp only;split
  · trivial
  · next h=>
    have k:=iH h;split
    · exact Stepped.dR k (Kr _ _ _)
    · split
      · split
        · exact k
        · split
          · exact k
          · split
            · trivial
            · trivial
      · split
        · split
          · trivial
          · next h0=>
            have k0:=iH h0;split
            · exact Nat.le_trans k k0
            · split
              · trivial
              · next h3=>have k3:=iH h3;exact Nat.le_trans k (Nat.le_trans k0 k3)
        · split
          · trivial
          · next h2=>
            have k2:=iH h2;split
            · trivial
            · next h0=>
              have k0:=iH h0;split
              · exact Nat.le_trans (Nat.le_trans k k2) k0
              · split
                · trivial
                · next h3=>have k3:=iH h3;exact Nat.le_trans (Nat.le_trans k k2) (Nat.le_trans k0 k3)
          · next h2=>have k2:=iH h2;exact Nat.le_trans k k2
          · next h2=>
            have k2:=iH h2;split
            · trivial
            · next h0=>
              have k0:=iH h0;split
              · exact Nat.le_trans (Nat.le_trans k k2) k0
              · split
                · trivial
                · next h3=>have k3:=iH h3;exact Nat.le_trans (Nat.le_trans k k2) (Nat.le_trans k0 k3)
theorem Move.dR (h:w.drawn<=w'.drawn) {s:Move} (k:s.up w'):s.up w:=by
  cases s with
  | goroutine m i=>exact Nat.le_trans h k
  | machine s ops=>exact Stepped.dR h k
theorem GR (p:Program) (m:Machine):(Go.ask p m).up m.world:=by
  unfold Go.ask;split
  · split
    · trivial
    · next h=>
      have k:=iH h;split
      · next hl=>
        have k2:=AZ p m.gs m.rest ‹World›;rw [hl] at k2;exact Move.dR (Nat.le_trans k k2) (xI _ _)
      · exact Stepped.dR k (AZ _ _ _ _)
    · next h=>have k:=iH h;exact Move.dR k (xI _ _)
  · exact xI _ _
theorem O2 (p:Program) (m:Machine):(move p m).up m.world:=by
  unfold move;split
  · split
    · exact Nat.le_refl _
    · trivial
  · split
    · split
      · exact Nat.le_refl _
      · exact GR p { m with rest:=_ }
    · exact GR p m
theorem Az (p:Program) (m:Machine) (i:Nat) (listen:Bool):(Go.runT p m i listen).1.up m.world:=by
  unfold Go.runT;dsimp only;have h:=Kg p (i==0) (m.gs.swapAt! i { (default:Goroutine) with status:=.finished }).1 m.world listen
  generalize stepG p (i==0) (m.gs.swapAt! i { (default:Goroutine) with status:=.finished }).1 m.world listen=s at h ⊢
  cases s with
  | ended o w es=>trivial
  | comm g cases DJ shape w es=>exact Stepped.dR h (xz _ _ _ _ _ _ _ _ _)
  | go g w es=>exact h
  | spawn g child w es=>exact h
  | count g w es =>
    dsimp only;split
    · trivial
    · exact h
  | alone g on w es=>exact h
  | collect g w es=>exact Stepped.dR h (AZ _ _ _ _)
  | watch g w es=>exact h
  | newcoro g c d w es=>exact h
  | coroswitch g c exit w es =>
    dsimp only;split
    · exact h
    · exact h
    · trivial
  | timer g op w es =>
    dsimp only;split
    · next ht=>have k:=Ee ht;exact Nat.le_trans h (Nat.le_of_eq k.symm)
    · exact h
    · trivial
    · trivial
theorem Of (p:Program) (m:Machine):(step p m).up m.world:=by
  unfold step stepT;have h:=O2 p m;generalize move p m=v at h ⊢;cases v with
  | goroutine m' i=>exact Stepped.dR h (Az p m' i true)
  | machine s ops=>exact h
theorem Oz (p:Program) (n:Nat):∀ m:Machine,(runN p n m).up m.world:=by
  induction n with
  | zero=>intro m;exact Nat.le_refl _
  | succ n ih =>
    intro m;have h:=Of p m;unfold runN;generalize step p m=s at h ⊢;cases s with
    | next m'=>exact Stepped.dR h (ih m')
    | ended o w=>trivial
theorem Steps.up {P:Program} {m m':Machine} (h:Steps P m m'):m.world.drawn<=m'.world.drawn:=by
  obtain ⟨n,hn⟩:=h;have k:=Oz P n m;rw [hn] at k;exact k
theorem Calls.up {P:Program} {f:FuncId} {args:Array Value} {w:World} {v:Value} {R:World->Prop}
    (h:Calls P f args w fun e w'=>e=.returned v/\R w'):Calls P f args w fun e w'=>e=.returned v/\R w'/\w.drawn<=w'.drawn:=by
  intro cs;obtain ⟨e,w',fr,⟨rfl,hR⟩,hc,hf,hl⟩:=h cs;exact ⟨_,w',fr,⟨rfl,hR,Steps.up hc⟩,hc,hf,hl⟩
end Go
namespace Go.Proofs.A1
open Go Go.SL
open Tryz
open Tryz renaming prog->T_
def o7 (n:Int):ByteArray:=⟨#[UInt8.ofNat (48+n.toNat)]⟩
theorem XO:∀ i,i<=9->(⟨(Lib.decDigits i).toArray⟩:ByteArray)=⟨#[UInt8.ofNat (48+i)]⟩:=by
 intro i h
 match i,h with
 | 0,_=>simp [Lib.decDigits]
 | 1,_=>simp [Lib.decDigits]
 | 2,_=>simp [Lib.decDigits]
 | 3,_=>simp [Lib.decDigits]
 | 4,_=>simp [Lib.decDigits]
 | 5,_=>simp [Lib.decDigits]
 | 6,_=>simp [Lib.decDigits]
 | 7,_=>simp [Lib.decDigits]
 | 8,_=>simp [Lib.decDigits]
 | 9,_=>simp [Lib.decDigits]
theorem Pd (n:Int) (h0:0<=n) (h1:n<=9) (w:World):an T_ 279 [.q n] w (.string (o7 n)):=by
 obtain ⟨i,rfl⟩:∃ i:Nat,n=(i:Nat):=⟨n.toNat,by omega⟩;refine Calls.mono (internal_strconv_Itoa_small i (by omega) w) fun e w' ⟨he,hw⟩=>⟨?_,by rw [hw];exact .refl _ _⟩;rw [he,XO i (by omega)];unfold o7;rw [ZE]
theorem pI (n:Int) (h0:0<=n) (h1:n<=9) (w:World):an T_ 193 [.q n] w (.string (o7 n)):=by
 refine aj func193 I I ?_
 (refine Jr<|Ja I<|Ji<|Jv I<|ah bJ I (fun w' aB=>(Pd n h0 h1 w'))<|Ja I<|Jn<|Je<|JT ?_)
 rfl
theorem Ln (n:Int):(o7 n).size=1:=rfl
def zu (l:List ByteArray) (sep:ByteArray):ByteArray:=⟨(Lib.join (l.map (·.data.toList)) sep.data.toList).toArray⟩
variable {a:ByteArray} {k:Nat} {l:List ByteArray} {r:Ro} {w:World}
theorem To {lv:Value} (sep:ByteArray) {w:World} (h:Rd w lv 1 (fN l)) (hl:l.length<=1000) (hlen:(Lib.join (l.map (·.data.toList)) sep.data.toList).length<=140737488355328) :
  an T_ 278 [lv,.string sep] w (.string (zu l sep)):=by
 obtain ⟨a,cap,b,o,rfl,dC,ch,ha,hc⟩:=h;rw [bG] at *;cases l with
 | nil=>exact Calls.mono (strings_Join_none a cap sep w) fun e w' ⟨he,hw⟩=>⟨he,by rw [hw];exact .refl _ _⟩
 | cons x r =>
  have:=ha (by simp [fN]);subst this;have aF:∀ (j:Nat) y,(x::r)[j]? = some y->w.cell? ⟨b,o+j,none⟩=some (.string y):=fun j y hj=>by
   have:=(hc j [.string y] (by unfold fN;rw [ZG,hj];rfl)).2 0 _ I;simpa using this
  refine Calls.mono (Calls.up (strings_Join b o cap (x::r) sep w aF ?_ (by omega) dC hlen)) fun e w' ⟨he,hw,hd⟩=>⟨he,aI.K3 hw hd⟩;exact World.block_lt_of_cell? w _ (aF 0 x I)
theorem Lm (l:List (List UInt8)) (sep:List UInt8) (n:Nat) (h:∀ x∈l,x.length<=n):(Lib.join l sep).length<=l.length*(n+sep.length):=by
 cases l with
 | nil=>simp [Lib.join]
 | cons x r =>
  have key:∀ (r:List (List UInt8)),(∀ y∈r,y.length<=n)->(Lib.joinTail sep r).length<=r.length*(n+sep.length):=by
   intro r
   induction r with
   | nil=>intro _;simp [Lib.joinTail]
   | cons y r ih =>
    intro hy;have h1:=hy y (by simp);have h2:=ih fun z hz=>hy z (by simp [hz])
    simp only [Lib.joinTail,Z4,Zak,Zg,ZB,Zac] at h2 ⊢;omega
  rw [Lib.join_cons,Zg,ZB,Zac];have h1:=h x (by simp);have h2:=key r fun z hz=>h z (by simp [hz])
  omega
def Q9 (l:List ByteArray):ByteArray:=zu l ⟨#[32]⟩++⟨#[10]⟩
theorem zt (h4:l.length<=4) (h:∀ x∈l,x.size<=24):(Lib.join (l.map (·.data.toList)) [32]).length<=100:=by
 have:=Lm (l.map (·.data.toList)) [32] 24 (by
  intro x hx;obtain ⟨y,hy,rfl⟩:=Zw.1 hx;have:=h y hy;rw [ZaR];exact this)
 rw [Zd] at this;have h2:([32]:List UInt8).length=1:=rfl;rw [h2] at this;omega
theorem wW (h4:l.length<=4) (h:∀ x∈l,x.size<=24):(zu l ⟨#[32]⟩).size<=100:=by
 have:=zt h4 h;unfold zu;show Array.size _<=100;rw [Zbq];exact this
theorem ir (h4:l.length<=4) (h:∀ x∈l,x.size<=24):(Q9 l).size<=101:=by
 have:=wW h4 h;unfold Q9;rw [ByteArray.size_append];have:ByteArray.size ⟨#[10]⟩=1:=rfl;omega
theorem tD {v:Value} (h:Rd w v 1 (fN l)) (h4:l.length<=4) (hs:∀ x∈l,x.size<=24):an T_ 192 [v] w (.string (Q9 l)):=by
 have hj:∀ w',aI [] w w'->an T_ 278 [v,.string ⟨#[32]⟩] w' (.string (zu l ⟨#[32]⟩)):=fun w' hk=>To (l:=l) ⟨#[32]⟩ (h.keeps hk) (by omega) (ZP (zt h4 hs) (by decide))
 have hz:=wW h4 hs;have h1:ByteArray.size ⟨#[10]⟩=1:=rfl;have hb:(zu l ⟨#[32]⟩).size+ByteArray.size ⟨#[10]⟩<=9223372036854775807:=by omega
 refine aj func192 I I ?_
 (refine Jr<|Ja I<|Ji<|Jv I<|ah bn I (fun w' aB=>(hj w' (Mem.keeps aB)))<|ab (tx (.of I) (.of I) hb) I<|Ja I<|Jn<|Je<|JT ?_)
 rfl
def EZ:List Value:=[.string ⟨#[114,111,117,116,101,114]⟩,.func (.func 271) #[] #[],.string ⟨#[115,111,117,114,99,101]⟩,.func (.func 273) #[] #[],.string ⟨#[100,101,115,116,105,110,97,116,105,111,110]⟩,.func (.func 275) #[] #[],.string ⟨#[116,105,101]⟩,.func (.func 276) #[] #[],.string ⟨#[112,111,105,110,116]⟩,.func (.func 277) #[] #[]]
theorem P3 (w:World):an T_ 191 [] w (.agg EZ.toArray):=by
 unfold EZ;refine aj func191 I I ?_
 (refine Jr<|Jz I I fun _ _=>Ji<|ab (aU (.o I (.o I .nil)) ai) I<|ab (aU (.o I (.o I .nil)) ai) I<|ab (aU (.o I (.o I .nil)) ai) I<|ab (aU (.o I (.o I .nil)) ai) I<|ab (aU (.o I (.o I .nil)) ai) I<|ab (aU (.o I (.o I (.o I (.o I (.o I .nil))))) ai) I<|ak (.of I) (.of I) .here I I (bR I (bR I (Yb I I I I I I I I))) (br I) ai<|Jn<|Je<|qk I (ig I inferInstance I .here ai (by rfl)) ?_)
 rfl
def wR:ByteArray:=⟨#[114,111,117,116,101,114]⟩
def wS:ByteArray:=⟨#[115,111,117,114,99,101]⟩
def wD:ByteArray:=⟨#[100,101,115,116,105,110,97,116,105,111,110]⟩
def wT:ByteArray:=⟨#[116,105,101]⟩
def wP:ByteArray:=⟨#[112,111,105,110,116]⟩
def IY:ByteArray:=⟨#[102,114,101,101]⟩
def IX:ByteArray:=⟨#[112,114,111,116,101,99,116,101,100]⟩
def Yt (r:Ro):ByteArray:=Q9 [wR,o7 r.lv,o7 r.ma]
def O8 (x:Sr):ByteArray:=Q9 [wS,x.nm,o7 x.mx]
def stD (b:Bool):ByteArray:=if b=true then IX else IY
def Nq (x:De):ByteArray:=Q9 [wD,x.nm,o7 x.mx,stD x.pr]
def O7 (x:Ti):ByteArray:=Q9 [wT,x.nm,o7 x.fr,o7 x.to]
def U4 (x:Po):ByteArray:=Q9 [wP,o7 x.lv,x.ou,x.ip]
def nN (a:ByteArray) (l:List ByteArray):ByteArray:=l.foldl (fun a b=>a++b) a
theorem qH {α:Type} {f:α->ByteArray} {l:List α} (h:k<l.length):nN a ((l.take (k+1)).map f)=nN a ((l.take k).map f)++f l[k]:=by
 unfold nN;rw [Zm h,Zy,List.foldl_append];rfl
theorem nM {n:Nat}:∀ {l:List ByteArray} {a:ByteArray},(∀ x∈l,x.size<=n)->(nN a l).size<=a.size+n*l.length
 | [],a,_=>Zv _
 | x :: l, a, h => by
  have:=nM (l:=l) (a:=a++x) fun y hy=>h y (ZM _ hy)
  rw [ByteArray.size_append] at this;have h1:=h x Zr;show (nN (a++x) l).size<=_;rw [ZB,Nat.mul_succ];omega
theorem qI {n:Nat} {α:Type} {f:α->ByteArray} {l:List α} (hn:∀ x∈l,(f x).size<=n):(nN a ((l.take k).map f)).size<=a.size+n*l.length:=by
 have:=nM (n:=n) (a:=a) (l:=(l.take k).map f) (by
  intro x hx;obtain ⟨y,hy,rfl⟩:=Zw.1 hx;exact hn y (Zax hy))
 rw [Zd,Zs] at this;have:n*min k l.length<=n*l.length:=Zbg _ (ZbC _ _);omega
def prB (r:Ro):ByteArray:=nN (nN (nN (nN (Yt r) (r.sr.map O8)) (r.de.map Nq)) (r.ti.map O7)) (r.po.map U4)
def KJ (r:Ro):ByteArray:=if fm r=0 then prB r else ⟨#[]⟩
theorem O0 {s:ByteArray} (h:jm s=true):s.size<=24:=by
 unfold jm at h;simp only [Zn,decide_eq_true_eq] at h;exact h.1.1.2
structure Prn (r:Ro):Prop where
 n0:(0<=r.lv/\r.lv<=9)/\0<=r.ma/\r.ma<=9
 sr:∀ x∈r.sr,x.nm.size<=24/\0<=x.mx/\x.mx<=9
 de:∀ x∈r.de,x.nm.size<=24/\0<=x.mx/\x.mx<=9
 ti:∀ x∈r.ti,x.nm.size<=24/\(0<=x.fr/\x.fr<=9)/\0<=x.to/\x.to<=9
 po:∀ x∈r.po,(x.ou.size<=24/\x.ip.size<=24)/\0<=x.lv/\x.lv<=9
 len:(r.sr.length<=8/\r.de.length<=8/\r.ti.length<=6)/\r.po.length<=42
theorem prn (h:fm r=0):Prn r:=by
 have ho:=yn h;have hp:=prt (tQ h).2.1;have hl:=ho.lim;have na:∀ s∈dh r,s.size<=24:=fun s hs=>O0 (hp.nm s hs)
 have n1:∀ s∈cN r,s.size<=24:=fun s hs=>na s (ZH _ (ZH _ hs))
 have n2:∀ s∈cu r,s.size<=24:=fun s hs=>na s (ZH _ (ZT _ hs))
 have n3:∀ s∈cQ r,s.size<=24:=fun s hs=>na s (ZT _ hs)
 refine ⟨by omega,fun x hx=>?_,fun x hx=>?_,fun x hx=>?_,fun x hx=>?_,hp.len,j5 ho ho.val⟩
 ·have:=ho.sm x hx;exact ⟨n1 _ (Zaa hx),by omega,by omega⟩
 ·have:=ho.dm x hx;exact ⟨n2 _ (Zaa hx),by omega,by omega⟩
 ·have:=ho.tm x hx;exact ⟨n3 _ (Zaa hx),by omega,by omega⟩
 ·have:=ho.val.Li x hx;exact ⟨⟨(ho.val.out x hx).elim (n2 _) (n3 _),(ho.val.xU x hx).elim (n1 _) (n3 _)⟩,by omega,by omega⟩
theorem tC {a b c:ByteArray} (ha:a.size<=24) (hb:b.size<=24) (hc:c.size<=24):∀ x∈[a,b,c],x.size<=24:=by
 intro x hx;simp only [ZQ,Zo,or_false] at hx;rcases hx with rfl | rfl | rfl <;> assumption
theorem jJ {a b c d:ByteArray} (ha:a.size<=24) (hb:b.size<=24) (hc:c.size<=24) (hd:d.size<=24):∀ x∈[a,b,c,d],x.size<=24:=by
 intro x hx;simp only [ZQ,Zo,or_false] at hx;rcases hx with rfl | rfl | rfl | rfl <;> assumption
theorem fK (n:Int):(o7 n).size<=24:=by rw [Ln];decide
theorem Eh (b:Bool):(stD b).size<=24:=by cases b <;> decide
theorem QE {s d t p:Value} (h:RR w r s d t p) (c6:mX r):an T_ 85 [RA r s d t p] w (.tuple #[.string (KJ r),.q (fm r)]):=by
 obtain ⟨h1,h2,h3,h4⟩:=h.one;have fP:∀ w',aI [] w w'->an T_ 34 [.agg #[.int .i64 r.lv,.int .i64 r.ma,s,d,t,p]] w' (.int .i64 (fm r)):=fun w' hk=>ei (h.keeps hk) c6
 have Db:=h.sr;have Dl:=h.de;have yq:=h.ti;have EP:=h.po;obtain ⟨a1,ew,II,Iz,rfl,oO,iu,mz,kT⟩:=Db;obtain ⟨a2,c8,IH,Iy,rfl,jS,eV,jU,kg⟩:=Dl;obtain ⟨a3,dX,GP,F6,rfl,mU,gB,rP,pb⟩:=yq;obtain ⟨a4,eW,NB,Ix,rfl,q7,jF,zD,tI⟩:=EP;rw [cG] at *;rw [bY] at *;rw [bS] at *;rw [cT] at *;unfold maxLen at iu eV gB jF;unfold RA;refine aj func85 I I ?_
 (refine Jr<|Jy I I fun _ _=>Ja I<|Ja I<|Jn<|Jq<|Jr<|ab (bU .here) I<|ah bJ I (fun w' aB=>(fP w' (Mem.keeps aB)))<|Ja I<|Ji<|Jv I<|JD I<|Jn<|gL I (fun aA=>?_) fun aA=>?_;refine Jr<|Jv I<|Ja I<|Ja I<|Jn<|Ju<|qk I (gD I I I) ?_;rotate_left;refine Jk<|Jr<|ah nq I (fun w' aB=>(P3 w'))<|Jz I I fun _ _=>ak (.of I) (.of I) .here I I (bR I (bR I (Yb I I I I I I I I))) (br I) ai<|Jn<|Jq ?_;rotate_right)
 ·unfold KJ;rw [if_neg aA]
 have h0:fm r=0:=Zq.1 aA;have hN:=prn h0;have e0:KJ r=prB r:=if_pos h0;rw [e0,h0];unfold EZ
 skip
 try simp only [setCells,List.set_cons_zero,List.set_cons_succ]
 have q1:=hN.n0
 with_reducible refine dL 12 (by kernel_rfl) ?_
 (refine au (fun β=>(iA (.of I) (.of I) (by omega) (by omega) aW)) ba I<|au (fun β=>(ar (.of I) ae)) ba I<|au (fun β=>(ag (.of I) (At.lit .here I))) ba I<|au (fun β=>(ar (.of I) ae)) ba I<|au (fun β=>(ag (.of I) (At.lit (.there .here) I))) ba I ?_)
 dsimp only [Nat.zero_add,Nat.reduceAdd]
 with_reducible apply cj (B:=[]) (F:=fun _=>.string (o7 r.lv)) (args:=fun _=>[.q r.lv])
 case hB=>rfl
 case hr=>exact fun β=>a7 (.of I) (.o I .nil) inferInstance I
 case hi=>exact ba
 case hd=>rfl
 case hc=>exact fun β w' dQ=>pI _ (by omega) (by omega) _
 dsimp only [Nat.reduceAdd]
 (refine au (fun β=>(ar (.of I) ae)) ba I<|au (fun β=>(ag (.of I) (At.lit (.there .here) I))) ba I ?_)
 dsimp only [Nat.zero_add,Nat.reduceAdd]
 with_reducible apply cj (B:=[]) (F:=fun _=>.string (o7 r.ma)) (args:=fun _=>[.q r.ma])
 case hB=>rfl
 case hr=>exact fun β=>a7 (.of I) (.o I .nil) inferInstance I
 case hi=>exact ba
 case hd=>rfl
 case hc=>exact fun β w' dQ=>pI _ (by omega) (by omega) _
 dsimp only [Nat.reduceAdd]
 skip
 refine iG (fun β=>(aD (.o I (.o I (.o I .nil))) I I I I)) (fun _ _ _=>rfl) I ?_;dsimp only [Nat.zero_add,Nat.reduceAdd]
 with_reducible apply cj (B:=[9]) (F:=fun _=>.string (Yt r)) (args:=fun β=>[.slice (some ⟨eu (β 9),0,none⟩) 3 3])
 case hB=>kernel_rfl
 case hr=>exact fun β=>a7 (.of I) (.o I .nil) inferInstance I
 case hi=>exact ba
 case hd=>rfl
 case hc=>
  intro β w' dQ;have mK:=dQ.at 9 Zr (s:=⟨fun β=>.slice (some ⟨eu (β 9),0,none⟩) 3 3,fun β=>[bu (eu (β 9)) (.cells #[.string wR,.string (o7 r.lv),.string (o7 r.ma)] 9)]⟩) (by kernel_rfl)
  dsimp only [Zb,Za] at mK;exact tD (l:=[wR,o7 r.lv,o7 r.ma]) (Mem.dy mK (by exact .here) I I) (by simp) (tC (by decide) (fK _) (fK _))
 dsimp only [Nat.reduceAdd];refine au (fun β=>(cX (.of I))) ba I ?_;refine eN fun β=>?_;dsimp only [dW,Za,Zb,List.append_eq,Nat.reduceAdd]
 with_reducible refine cn (by kernel_rfl) ?_
 (refine Jt<|Jq<|Jr<|bD I I ae<|JL I bE I<|JI I<|Jv I<|Jn<|J0 ?_)
 rename_i b1 tJ b5 HS;generalize eu (β 9)=b9;clear β;have hA:(Yt r).size<=101:=ir (by simp) (tC (by decide) (fK _) (fK _));unfold prB;generalize Yt r=A at hA ⊢;refine aV (ι:=Nat×ByteArray) (fun y=>y.1<=r.sr.length/\y.2=nN A ((r.sr.take y.1).map O8)) (fun y=>[(36,.q (y.1:Nat)),(35,.q r.sr.length),(34,.slice a1 r.sr.length ew),(6,.string y.2),(5,.p b5),(1,.p b1)]) (fun _=>[bu b5 (.cells #[.string ⟨#[114,111,117,116,101,114]⟩,.func (.func 271) #[] #[],.string ⟨#[115,111,117,114,99,101]⟩,.func (.func 273) #[] #[],.string ⟨#[100,101,115,116,105,110,97,116,105,111,110]⟩,.func (.func 275) #[] #[],.string ⟨#[116,105,101]⟩,.func (.func 276) #[] #[],.string ⟨#[112,111,105,110,116]⟩,.func (.func 277) #[] #[]] 265 (0,0)),JP b1 r (.slice a1 r.sr.length ew) (.slice a2 r.de.length c8) (.slice a3 r.ti.length dX) (.slice a4 r.po.length eW)]) (fun y=>r.sr.length-y.1) ?_ ?_
 ·apply aH (0,A) ⟨Zi _,I⟩
  case hs1=>exact bT
  case ht=>
   exact .cons (.there .here) (.cons (.there .here) .nil)
 rintro ⟨k,S⟩ ⟨hk,hS⟩;dsimp only at hk hS ⊢;by_cases aL:k<r.sr.length
 ·have cY:=mz (iD aL);have aF:=(kT k _ (fW aL)).2;have hx:=hN.sr _ (Zj aL);have gS:=qH (a:=A) (f:=O8) aL;rw [<- hS] at gS;unfold Sr.cells at aF;generalize r.sr[k]=x at aF hx gS;have hz:(O8 x).size<=101:=ir (by simp) (tC (by decide) hx.1 (fK _));have Ug:S.size<=A.size+101*r.sr.length:=by rw [hS];exact qI fun y hy=>ir (by simp) (tC (by decide) (hN.sr y hy).1 (fK _))
  have YL:=hN.len;have hb:S.size+(O8 x).size<=9223372036854775807:=by omega
  (refine Jr<|JA I<|Jn<|Jq<|Jd I fun aA=>Jk<|Jq<|J0<|Jr<|ab (gE cY aA) I<|ab (ja (fo.base aF I)) I<|Jz I I fun _ _=>ak (.of I) (.of I) .here I I (ix I I) (br I) ai<|Jn ?_)
  with_reducible refine dL 13 (by kernel_rfl) ?_
  (refine au (fun β=>(aQ (.of I))) ba I<|au (fun β=>(iA (.of I) (.of I) (by omega) (by omega) aW)) ba I<|au (fun β=>(ar (.of I) ae)) ba I<|au (fun β=>(ag (.of I) (At.lit (.there .here) I))) ba I<|au (fun β=>(ar (.of I) ae)) ba I<|au (fun β=>(ag (.of I) (At.lit .here I))) ba I<|au (fun β=>(ar (.of I) ae)) ba I<|au (fun β=>(ag (.of I) (At.lit .here I))) ba I ?_)
  dsimp only [Nat.zero_add,Nat.reduceAdd]
  with_reducible apply cj (B:=[]) (F:=fun _=>.string (o7 x.mx)) (args:=fun _=>[.q x.mx])
  case hB=>rfl
  case hr=>exact fun β=>a7 (.of I) (.o I .nil) inferInstance I
  case hi=>exact ba
  case hd=>rfl
  case hc=>exact fun β w' dQ=>pI _ (by omega) (by omega) _
  dsimp only [Nat.reduceAdd]
  skip
  refine iG (fun β=>(aD (.o I (.o I (.o I .nil))) I I I I)) (fun _ _ _=>rfl) I ?_;dsimp only [Nat.zero_add,Nat.reduceAdd]
  with_reducible apply cj (B:=[9]) (F:=fun _=>.string (O8 x)) (args:=fun β=>[.slice (some ⟨eu (β 9),0,none⟩) 3 3])
  case hB=>kernel_rfl
  case hr=>exact fun β=>a7 (.of I) (.o I .nil) inferInstance I
  case hi=>exact ba
  case hd=>rfl
  case hc=>
   intro β w' dQ;have mK:=dQ.at 9 Zr (s:=⟨fun β=>.slice (some ⟨eu (β 9),0,none⟩) 3 3,fun β=>[bu (eu (β 9)) (.cells #[.string wS,.string x.nm,.string (o7 x.mx)] 9)]⟩) (by kernel_rfl)
   dsimp only [Zb,Za] at mK;exact tD (l:=[wS,x.nm,o7 x.mx]) (Mem.dy mK (by exact .here) I I) (by simp) (tC (by decide) hx.1 (fK _))
  dsimp only [Nat.reduceAdd]
  (refine au (fun β=>(tx (.of I) (.of I) hb)) ba I<|au (fun β=>(cX (.of I))) ba I ?_)
  refine eN fun β=>?_;dsimp only [dW,Za,Zb,List.append_eq,Nat.reduceAdd]
  with_reducible refine cn (by kernel_rfl) ?_
  refine Jj<|Jt<|Jg<|JB I (by omega)<|Jv I<|Jn ?_;apply aG (k+1,_) (show _/\_ from ⟨by omega,gS.symm⟩) (show r.sr.length-(k+1)<r.sr.length-k by omega)
  case hs1=>exact bT
  case ht=>
   exact .cons bE (.cons bE .nil)
 obtain rfl:k=r.sr.length:=by omega
 rw [ZL] at hS;subst hS;have hA:(nN A (r.sr.map O8)).size<=909:=by
  have:=nM (n:=101) (a:=A) (l:=r.sr.map O8) (by
   intro x hx;obtain ⟨y,hy,rfl⟩:=Zw.1 hx;exact ir (by simp) (tC (by decide) (hN.sr y hy).1 (fK _)))
  rw [Zd] at this;have:=hN.len;omega
 generalize nN A (r.sr.map O8)=A at hA ⊢;clear aL hk
 (refine Jr<|JA I<|Jn<|Jq<|Jc I fun aA=>Jp<|Jl<|Jo<|Jt<|Jq<|Jr<|bD I I ae<|JL I (.there .here) I<|JI I<|Jv I<|Jn<|J0 ?_)
 refine aV (ι:=Nat×ByteArray) (fun y=>y.1<=r.de.length/\y.2=nN A ((r.de.take y.1).map Nq)) (fun y=>[(56,.q (y.1:Nat)),(55,.q r.de.length),(54,.slice a2 r.de.length c8),(6,.string y.2),(5,.p b5),(1,.p b1)]) (fun _=>[bu b5 (.cells #[.string ⟨#[114,111,117,116,101,114]⟩,.func (.func 271) #[] #[],.string ⟨#[115,111,117,114,99,101]⟩,.func (.func 273) #[] #[],.string ⟨#[100,101,115,116,105,110,97,116,105,111,110]⟩,.func (.func 275) #[] #[],.string ⟨#[116,105,101]⟩,.func (.func 276) #[] #[],.string ⟨#[112,111,105,110,116]⟩,.func (.func 277) #[] #[]] 265 (0,0)),JP b1 r (.slice a1 r.sr.length ew) (.slice a2 r.de.length c8) (.slice a3 r.ti.length dX) (.slice a4 r.po.length eW)]) (fun y=>r.de.length-y.1) ?_ ?_
 ·apply aH (0,A) ⟨Zi _,I⟩
  case hs1=>exact bT
  case ht=>
   exact .h2 .nil
 rintro ⟨k,S⟩ ⟨hk,hS⟩;dsimp only at hk hS ⊢;by_cases aL:k<r.de.length
 ·have cY:=jU (ij aL);have aF:=(kg k _ (fM aL)).2;have hx:=hN.de _ (Zj aL);have gS:=qH (a:=A) (f:=Nq) aL;rw [<- hS] at gS;unfold De.cells at aF;generalize r.de[k]=x at aF hx gS;have hz:(Nq x).size<=101:=ir (by simp) (jJ (by decide) hx.1 (fK _) (Eh _));have Ug:S.size<=A.size+101*r.de.length:=by rw [hS];exact qI fun y hy=>ir (by simp) (jJ (by decide) (hN.de y hy).1 (fK _) (Eh _))
  have YL:=hN.len;have hb:S.size+(Nq x).size<=9223372036854775807:=by omega
  clear hz Ug YL;obtain ⟨xn,xm,xp⟩:=x;dsimp only at aF hx gS hb ⊢;cases xp
  ·(refine Jr<|JA I<|Jn<|Jq<|Jd I fun aA=>Jk<|Jq<|J0<|Jr<|ab (gE cY aA) I<|ab (ja (fo.base aF I)) I<|Jz I I fun _ _=>ak (.of I) (.of I) .here I I (fc I I I) (br I) ai<|Ji<|Ja I<|Jn<|Jq<|Jr<|bD I I ae<|JL I .here I<|Jn<|cd (.of I)<|Jk ?_)
   with_reducible refine dL 14 (by kernel_rfl) ?_
   (refine au (fun β=>(aQ (.of I))) ba I<|au (fun β=>(iA (.of I) (.of I) (by omega) (by omega) aW)) ba I<|au (fun β=>(ar (.of I) ae)) ba I<|au (fun β=>(ag (.of I) (At.lit (.there .here) I))) ba I<|au (fun β=>(ar (.of I) ae)) ba I<|au (fun β=>(ag (.of I) (At.lit .here I))) ba I<|au (fun β=>(ar (.of I) ae)) ba I<|au (fun β=>(ag (.of I) (At.lit .here I))) ba I ?_)
   dsimp only [Nat.zero_add,Nat.reduceAdd]
   with_reducible apply cj (B:=[]) (F:=fun _=>.string (o7 xm)) (args:=fun _=>[.q xm])
   case hB=>rfl
   case hr=>exact fun β=>a7 (.of I) (.o I .nil) inferInstance I
   case hi=>exact ba
   case hd=>rfl
   case hc=>exact fun β w' dQ=>pI _ (by omega) (by omega) _
   dsimp only [Nat.reduceAdd];refine au (fun β=>(aQ (.of I))) ba I ?_;refine iG (fun β=>(aD (.o I (.o I (.o I (.o I .nil)))) I I I I)) (fun _ _ _=>rfl) I ?_;dsimp only [Nat.zero_add,Nat.reduceAdd]
   with_reducible apply cj (B:=[10]) (F:=fun _=>.string (Nq ⟨xn,xm,false⟩)) (args:=fun β=>[.slice (some ⟨eu (β 10),0,none⟩) 4 4])
   case hB=>kernel_rfl
   case hr=>exact fun β=>a7 (.of I) (.o I .nil) inferInstance I
   case hi=>exact ba
   case hd=>rfl
   case hc=>
    intro β w' dQ;have mK:=dQ.at 10 Zr (s:=⟨fun β=>.slice (some ⟨eu (β 10),0,none⟩) 4 4,fun β=>[bu (eu (β 10)) (.cells #[.string wD,.string xn,.string (o7 xm),.string IY] 9)]⟩) (by kernel_rfl)
    dsimp only [Zb,Za] at mK;exact tD (l:=[wD,xn,o7 xm,IY]) (Mem.dy mK (by exact .here) I I) (by simp) (jJ (by decide) hx.1 (fK _) (by decide))
   dsimp only [Nat.reduceAdd]
   (refine au (fun β=>(tx (.of I) (.of I) hb)) ba I<|au (fun β=>(cX (.of I))) ba I ?_)
   refine eN fun β=>?_;dsimp only [dW,Za,Zb,List.append_eq,Nat.reduceAdd]
   with_reducible refine cn (by kernel_rfl) ?_
   refine Jj<|Jt<|Jg<|JB I (by omega)<|Jv I<|Jn ?_;apply aG (k+1,_) (show _/\_ from ⟨by omega,gS.symm⟩) (show r.de.length-(k+1)<r.de.length-k by omega)
   case hs1=>exact bT
   case ht=>
    exact .cons bE (.cons bE .nil)
  ·(refine Jr<|JA I<|Jn<|Jq<|Jd I fun aA=>Jk<|Jq<|J0<|Jr<|ab (gE cY aA) I<|ab (ja (fo.base aF I)) I<|Jz I I fun _ _=>ak (.of I) (.of I) .here I I (fc I I I) (br I) ai<|Ji<|Ja I<|Jn<|Jq<|Jr<|bD I I ae<|JL I .here I<|Jn<|c5 (.of I)<|Jg<|Ja I<|Jn ?_)
   with_reducible refine dL 14 (by kernel_rfl) ?_
   (refine au (fun β=>(aQ (.of I))) ba I<|au (fun β=>(iA (.of I) (.of I) (by omega) (by omega) aW)) ba I<|au (fun β=>(ar (.of I) ae)) ba I<|au (fun β=>(ag (.of I) (At.lit (.there .here) I))) ba I<|au (fun β=>(ar (.of I) ae)) ba I<|au (fun β=>(ag (.of I) (At.lit .here I))) ba I<|au (fun β=>(ar (.of I) ae)) ba I<|au (fun β=>(ag (.of I) (At.lit .here I))) ba I ?_)
   dsimp only [Nat.zero_add,Nat.reduceAdd]
   with_reducible apply cj (B:=[]) (F:=fun _=>.string (o7 xm)) (args:=fun _=>[.q xm])
   case hB=>rfl
   case hr=>exact fun β=>a7 (.of I) (.o I .nil) inferInstance I
   case hi=>exact ba
   case hd=>rfl
   case hc=>exact fun β w' dQ=>pI _ (by omega) (by omega) _
   dsimp only [Nat.reduceAdd];refine au (fun β=>(aQ (.of I))) ba I ?_;refine iG (fun β=>(aD (.o I (.o I (.o I (.o I .nil)))) I I I I)) (fun _ _ _=>rfl) I ?_;dsimp only [Nat.zero_add,Nat.reduceAdd]
   with_reducible apply cj (B:=[10]) (F:=fun _=>.string (Nq ⟨xn,xm,true⟩)) (args:=fun β=>[.slice (some ⟨eu (β 10),0,none⟩) 4 4])
   case hB=>kernel_rfl
   case hr=>exact fun β=>a7 (.of I) (.o I .nil) inferInstance I
   case hi=>exact ba
   case hd=>rfl
   case hc=>
    intro β w' dQ;have mK:=dQ.at 10 Zr (s:=⟨fun β=>.slice (some ⟨eu (β 10),0,none⟩) 4 4,fun β=>[bu (eu (β 10)) (.cells #[.string wD,.string xn,.string (o7 xm),.string IX] 9)]⟩) (by kernel_rfl)
    dsimp only [Zb,Za] at mK;exact tD (l:=[wD,xn,o7 xm,IX]) (Mem.dy mK (by exact .here) I I) (by simp) (jJ (by decide) hx.1 (fK _) (by decide))
   dsimp only [Nat.reduceAdd]
   (refine au (fun β=>(tx (.of I) (.of I) hb)) ba I<|au (fun β=>(cX (.of I))) ba I ?_)
   refine eN fun β=>?_;dsimp only [dW,Za,Zb,List.append_eq,Nat.reduceAdd]
   with_reducible refine cn (by kernel_rfl) ?_
   refine Jj<|Jt<|Jg<|JB I (by omega)<|Jv I<|Jn ?_;apply aG (k+1,_) (show _/\_ from ⟨by omega,gS.symm⟩) (show r.de.length-(k+1)<r.de.length-k by omega)
   case hs1=>exact bT
   case ht=>
    exact .cons bE (.cons bE .nil)
 obtain rfl:k=r.de.length:=by omega
 rw [ZL] at hS;subst hS;have hA:(nN A (r.de.map Nq)).size<=1717:=by
  have:=nM (n:=101) (a:=A) (l:=r.de.map Nq) (by
   intro x hx;obtain ⟨y,hy,rfl⟩:=Zw.1 hx;exact ir (by simp) (jJ (by decide) (hN.de y hy).1 (fK _) (Eh _)))
  rw [Zd] at this;have:=hN.len;omega
 generalize nN A (r.de.map Nq)=A at hA ⊢;clear aL hk
 (refine Jr<|JA I<|Jn<|Jq<|Jc I fun aA=>Jp<|Jl<|Jo<|Jt<|Jq<|Jr<|bD I I ae<|JL I (.there .here) I<|JI I<|Jv I<|Jn<|J0 ?_)
 refine aV (ι:=Nat×ByteArray) (fun y=>y.1<=r.ti.length/\y.2=nN A ((r.ti.take y.1).map O7)) (fun y=>[(79,.q (y.1:Nat)),(78,.q r.ti.length),(77,.slice a3 r.ti.length dX),(6,.string y.2),(5,.p b5),(1,.p b1)]) (fun _=>[bu b5 (.cells #[.string ⟨#[114,111,117,116,101,114]⟩,.func (.func 271) #[] #[],.string ⟨#[115,111,117,114,99,101]⟩,.func (.func 273) #[] #[],.string ⟨#[100,101,115,116,105,110,97,116,105,111,110]⟩,.func (.func 275) #[] #[],.string ⟨#[116,105,101]⟩,.func (.func 276) #[] #[],.string ⟨#[112,111,105,110,116]⟩,.func (.func 277) #[] #[]] 265 (0,0)),JP b1 r (.slice a1 r.sr.length ew) (.slice a2 r.de.length c8) (.slice a3 r.ti.length dX) (.slice a4 r.po.length eW)]) (fun y=>r.ti.length-y.1) ?_ ?_
 ·apply aH (0,A) ⟨Zi _,I⟩
  case hs1=>exact bT
  case ht=>
   exact .h2 .nil
 rintro ⟨k,S⟩ ⟨hk,hS⟩;dsimp only at hk hS ⊢;by_cases aL:k<r.ti.length
 ·have cY:=rP (fq aL);have aF:=(pb k _ (ep aL)).2;have hx:=hN.ti _ (Zj aL);have gS:=qH (a:=A) (f:=O7) aL;rw [<- hS] at gS;unfold Ti.cells at aF;generalize r.ti[k]=x at aF hx gS;have hz:(O7 x).size<=101:=ir (by simp) (jJ (by decide) hx.1 (fK _) (fK _));have Ug:S.size<=A.size+101*r.ti.length:=by rw [hS];exact qI fun y hy=>ir (by simp) (jJ (by decide) (hN.ti y hy).1 (fK _) (fK _))
  have YL:=hN.len;have hb:S.size+(O7 x).size<=9223372036854775807:=by omega
  (refine Jr<|JA I<|Jn<|Jq<|Jd I fun aA=>Jk<|Jq<|J0<|Jr<|ab (gE cY aA) I<|ab (ja (fo.base aF I)) I<|Jz I I fun _ _=>ak (.of I) (.of I) .here I I (fc I I I) (br I) ai<|Jn ?_)
  with_reducible refine dL 16 (by kernel_rfl) ?_
  (refine au (fun β=>(aQ (.of I))) ba I<|au (fun β=>(iA (.of I) (.of I) (by omega) (by omega) aW)) ba I<|au (fun β=>(ar (.of I) ae)) ba I<|au (fun β=>(ag (.of I) (At.lit (.there .here) I))) ba I<|au (fun β=>(ar (.of I) ae)) ba I<|au (fun β=>(ag (.of I) (At.lit .here I))) ba I<|au (fun β=>(ar (.of I) ae)) ba I<|au (fun β=>(ag (.of I) (At.lit .here I))) ba I ?_)
  dsimp only [Nat.zero_add,Nat.reduceAdd]
  with_reducible apply cj (B:=[]) (F:=fun _=>.string (o7 x.fr)) (args:=fun _=>[.q x.fr])
  case hB=>rfl
  case hr=>exact fun β=>a7 (.of I) (.o I .nil) inferInstance I
  case hi=>exact ba
  case hd=>rfl
  case hc=>exact fun β w' dQ=>pI _ (by omega) (by omega) _
  dsimp only [Nat.reduceAdd]
  (refine au (fun β=>(ar (.of I) ae)) ba I<|au (fun β=>(ag (.of I) (At.lit .here I))) ba I ?_)
  dsimp only [Nat.zero_add,Nat.reduceAdd]
  with_reducible apply cj (B:=[]) (F:=fun _=>.string (o7 x.to)) (args:=fun _=>[.q x.to])
  case hB=>rfl
  case hr=>exact fun β=>a7 (.of I) (.o I .nil) inferInstance I
  case hi=>exact ba
  case hd=>rfl
  case hc=>exact fun β w' dQ=>pI _ (by omega) (by omega) _
  dsimp only [Nat.reduceAdd]
  skip
  refine iG (fun β=>(aD (.o I (.o I (.o I (.o I .nil)))) I I I I)) (fun _ _ _=>rfl) I ?_;dsimp only [Nat.zero_add,Nat.reduceAdd]
  with_reducible apply cj (B:=[12]) (F:=fun _=>.string (O7 x)) (args:=fun β=>[.slice (some ⟨eu (β 12),0,none⟩) 4 4])
  case hB=>kernel_rfl
  case hr=>exact fun β=>a7 (.of I) (.o I .nil) inferInstance I
  case hi=>exact ba
  case hd=>rfl
  case hc=>
   intro β w' dQ;have mK:=dQ.at 12 Zr (s:=⟨fun β=>.slice (some ⟨eu (β 12),0,none⟩) 4 4,fun β=>[bu (eu (β 12)) (.cells #[.string wT,.string x.nm,.string (o7 x.fr),.string (o7 x.to)] 9)]⟩) (by kernel_rfl)
   dsimp only [Zb,Za] at mK;exact tD (l:=[wT,x.nm,o7 x.fr,o7 x.to]) (Mem.dy mK (by exact .here) I I) (by simp) (jJ (by decide) hx.1 (fK _) (fK _))
  dsimp only [Nat.reduceAdd]
  (refine au (fun β=>(tx (.of I) (.of I) hb)) ba I<|au (fun β=>(cX (.of I))) ba I ?_)
  refine eN fun β=>?_;dsimp only [dW,Za,Zb,List.append_eq,Nat.reduceAdd]
  with_reducible refine cn (by kernel_rfl) ?_
  refine Jj<|Jt<|Jg<|JB I (by omega)<|Jv I<|Jn ?_;apply aG (k+1,_) (show _/\_ from ⟨by omega,gS.symm⟩) (show r.ti.length-(k+1)<r.ti.length-k by omega)
  case hs1=>exact bT
  case ht=>
   exact .cons bE (.cons bE .nil)
 obtain rfl:k=r.ti.length:=by omega
 rw [ZL] at hS;subst hS;have hA:(nN A (r.ti.map O7)).size<=2323:=by
  have:=nM (n:=101) (a:=A) (l:=r.ti.map O7) (by
   intro x hx;obtain ⟨y,hy,rfl⟩:=Zw.1 hx;exact ir (by simp) (jJ (by decide) (hN.ti y hy).1 (fK _) (fK _)))
  rw [Zd] at this;have:=hN.len;omega
 generalize nN A (r.ti.map O7)=A at hA ⊢;clear aL hk
 (refine Jr<|JA I<|Jn<|Jq<|Jc I fun aA=>Jp<|Jl<|Jo<|Jt<|Jq<|Jr<|bD I I ae<|JL I (.there .here) I<|JI I<|Jv I<|Jn<|J0 ?_)
 refine aV (ι:=Nat×ByteArray) (fun y=>y.1<=r.po.length/\y.2=nN A ((r.po.take y.1).map U4)) (fun y=>[(102,.q (y.1:Nat)),(101,.q r.po.length),(100,.slice a4 r.po.length eW),(6,.string y.2),(5,.p b5),(1,.p b1)]) (fun _=>[bu b5 (.cells #[.string ⟨#[114,111,117,116,101,114]⟩,.func (.func 271) #[] #[],.string ⟨#[115,111,117,114,99,101]⟩,.func (.func 273) #[] #[],.string ⟨#[100,101,115,116,105,110,97,116,105,111,110]⟩,.func (.func 275) #[] #[],.string ⟨#[116,105,101]⟩,.func (.func 276) #[] #[],.string ⟨#[112,111,105,110,116]⟩,.func (.func 277) #[] #[]] 265 (0,0)),JP b1 r (.slice a1 r.sr.length ew) (.slice a2 r.de.length c8) (.slice a3 r.ti.length dX) (.slice a4 r.po.length eW)]) (fun y=>r.po.length-y.1) ?_ ?_
 ·apply aH (0,A) ⟨Zi _,I⟩
  case hs1=>exact bT
  case ht=>
   exact .h2 .nil
 rintro ⟨k,S⟩ ⟨hk,hS⟩;dsimp only at hk hS ⊢;by_cases aL:k<r.po.length
 ·have cY:=zD (j8 aL);have aF:=(tI k _ (ia aL)).2;have hx:=hN.po _ (Zj aL);have gS:=qH (a:=A) (f:=U4) aL;rw [<- hS] at gS;unfold Po.cells at aF;generalize r.po[k]=x at aF hx gS;have hz:(U4 x).size<=101:=ir (by simp) (jJ (by decide) (fK _) hx.1.1 hx.1.2);have Ug:S.size<=A.size+101*r.po.length:=by rw [hS];exact qI fun y hy=>ir (by simp) (jJ (by decide) (fK _) (hN.po y hy).1.1 (hN.po y hy).1.2)
  have YL:=hN.len;have hb:S.size+(U4 x).size<=9223372036854775807:=by omega
  (refine Jr<|JA I<|Jn<|Jq<|Jd I fun aA=>Jk<|Jq<|J0<|Jr<|ab (gE cY aA) I<|ab (ja (fo.base aF I)) I<|Jz I I fun _ _=>ak (.of I) (.of I) .here I I (fc I I I) (br I) ai<|Jn ?_)
  with_reducible refine dL 15 (by kernel_rfl) ?_
  (refine au (fun β=>(aQ (.of I))) ba I<|au (fun β=>(iA (.of I) (.of I) (by omega) (by omega) aW)) ba I<|au (fun β=>(ar (.of I) ae)) ba I<|au (fun β=>(ag (.of I) (At.lit (.there .here) I))) ba I<|au (fun β=>(ar (.of I) ae)) ba I<|au (fun β=>(ag (.of I) (At.lit .here I))) ba I ?_)
  dsimp only [Nat.zero_add,Nat.reduceAdd]
  with_reducible apply cj (B:=[]) (F:=fun _=>.string (o7 x.lv)) (args:=fun _=>[.q x.lv])
  case hB=>rfl
  case hr=>exact fun β=>a7 (.of I) (.o I .nil) inferInstance I
  case hi=>exact ba
  case hd=>rfl
  case hc=>exact fun β w' dQ=>pI _ (by omega) (by omega) _
  dsimp only [Nat.reduceAdd]
  (refine au (fun β=>(ar (.of I) ae)) ba I<|au (fun β=>(ag (.of I) (At.lit .here I))) ba I<|au (fun β=>(ar (.of I) ae)) ba I<|au (fun β=>(ag (.of I) (At.lit .here I))) ba I ?_)
  refine iG (fun β=>(aD (.o I (.o I (.o I (.o I .nil)))) I I I I)) (fun _ _ _=>rfl) I ?_;dsimp only [Nat.zero_add,Nat.reduceAdd]
  with_reducible apply cj (B:=[11]) (F:=fun _=>.string (U4 x)) (args:=fun β=>[.slice (some ⟨eu (β 11),0,none⟩) 4 4])
  case hB=>kernel_rfl
  case hr=>exact fun β=>a7 (.of I) (.o I .nil) inferInstance I
  case hi=>exact ba
  case hd=>rfl
  case hc=>
   intro β w' dQ;have mK:=dQ.at 11 Zr (s:=⟨fun β=>.slice (some ⟨eu (β 11),0,none⟩) 4 4,fun β=>[bu (eu (β 11)) (.cells #[.string wP,.string (o7 x.lv),.string x.ou,.string x.ip] 9)]⟩) (by kernel_rfl)
   dsimp only [Zb,Za] at mK;exact tD (l:=[wP,o7 x.lv,x.ou,x.ip]) (Mem.dy mK (by exact .here) I I) (by simp) (jJ (by decide) (fK _) hx.1.1 hx.1.2)
  dsimp only [Nat.reduceAdd]
  (refine au (fun β=>(tx (.of I) (.of I) hb)) ba I<|au (fun β=>(cX (.of I))) ba I ?_)
  refine eN fun β=>?_;dsimp only [dW,Za,Zb,List.append_eq,Nat.reduceAdd]
  with_reducible refine cn (by kernel_rfl) ?_
  refine Jj<|Jt<|Jg<|JB I (by omega)<|Jv I<|Jn ?_;apply aG (k+1,_) (show _/\_ from ⟨by omega,gS.symm⟩) (show r.po.length-(k+1)<r.po.length-k by omega)
  case hs1=>exact bT
  case ht=>
   exact .cons bE (.cons bE .nil)
 obtain rfl:k=r.po.length:=by omega
 rw [ZL] at hS;rw [<- hS];refine Jr<|JA I<|Jn<|Jq<|Jc I fun aA=>Jp<|Jl<|Jo<|Jt<|Jr<|Jv I<|Ja I<|Ja I<|Jn<|Je<|qk I (gD I I I) ?_
 rfl
end Go.Proofs.A1
