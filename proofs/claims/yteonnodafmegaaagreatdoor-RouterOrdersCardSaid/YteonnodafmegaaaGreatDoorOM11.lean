/- Parts of the proof: LE LF LG LH TryzShelf GkDraws LI. -/
import Derived.Test.YteonnodafmegaaaGreatDoorOM10
import Derived.Test.YteonnodafmegaaaGreatDoorOM04
import Derived.Test.YteonnodafmegaaaGreatDoorOM06
import Derived.Shelf.Strings.OnBuilder
import Derived.Shelf.Strconv.Itoa3
import Derived.Ground.NamesProg
import Derived.Ground.Names2Prog
import Derived.Test.YteonnodafmegaaaGreatDoorProg
import Derived.Calls
import Derived.RunT
import Derived.Lib.AppendIntMem
set_option linter.unusedSectionVars false
set_option linter.unusedVariables false
set_option linter.unusedSimpArgs false
namespace Go.Proofs.A1
open Go Go.SL
open Tryz
open Tryz renaming prog->T_
def zr (r:Ro) (o:ByteArray):Int:=aZ [gy r,oL r o]
def zq (r:Ro) (o:ByteArray) (q:Bool):Ro:=if zr r o≠0 then Ro.nil else r.Lh o q
theorem ub (l:List De):(jt l).length=l.length*3:=by unfold jt;rw [fv (Fo l),cd]
theorem Vo (l:List De) (cur:List Value) {k:Nat} (h:k<l.length) (q:Bool):setCells (jt l++cur) (k*3+2) [.bool q]=jt (l.modify k fun x=>⟨x.nm,x.mx,q⟩)++cur:=by
 rw [qR _ _ _ (by rw [Zg,ub];omega),List.set_append_left _ _ (by rw [ub];omega)];congr 1;have e:l=l.take k++l[k]::l.drop (k+1):=by rw [<- Zt h,Z0]
 have hm:l.modify k (fun x=>⟨x.nm,x.mx,q⟩)=l.take k++⟨l[k].nm,l[k].mx,q⟩::l.drop (k+1):=by
  rw [List.modify_eq_take_cons_drop h]
 have ht:(jt (l.take k)).length=k*3:=by rw [ub,Zs,Zbv (by omega)]
 have hs:∀ (a:List De) (x:De) (b:List De),jt (a++x::b)=jt a++(x.cells++jt b):=fun a x b=>by unfold jt u0;simp
 rw [hm,hs]
 conv=>lhs;rw [e,hs]
 rw [List.set_append_right _ _ (by omega),ht,Zbr]
 rfl
variable {k:Nat} {l:List Od} {r:Ro} {w:World}
set_option maxHeartbeats 1000000 in
theorem DU {s d t p:Value} (o:ByteArray) (q:Bool) {w:World} (h:RR w r s d t p) (cZ:nk r) :
  a8 T_ 78 [RA r s d t p,.string o,.bool q] w [] (fun _:Value×Value×Value×Value=>True) (fun x=>.tuple #[RA (zq r o q) x.1 x.2.1 x.2.2.1 x.2.2.2,.q (zr r o)]) (fun x=>vh (zq r o q) x):=by
 obtain ⟨h1,h2,h3,h4⟩:=h.one;have gr:∀ w',aJ [] w w'->aj T_ 34 [.agg #[.int .i64 r.lv,.int .i64 r.ma,s,d,t,p]] w' (.int .i64 (gy r)):=fun w' hk=>fj (h.keeps hk) cZ
 have mZ:∀ w',aJ [] w w'->aj T_ 112 [.agg #[.q r.lv,.q r.ma,s,d,t,p],.string o] w' (.q (oL r o)):=fun w' hk=>eY o (h.keeps hk)
 unfold RA;refine aS func78 I I ?_;refine Jr<|Jy I I fun _ _=>Jz I I fun _ _=>Ja I<|Jn<|Jq<|Jq ?_;rename_i b3 tr b6 hb6
 with_reducible refine cY 6 (by kernel_rfl) ?_
 (refine ar (cm (.there .here)) I<|aX bM I (fun w' aB=>(gr w' (Mem.keeps aB)))<|ar (cm (.there .here)) I<|ar k8 I<|aX bb I (fun w' aB=>(mZ w' (Mem.keeps aB)))<|eC (aG (.o I (.o I .nil)) I I I I) I I ?_)
 with_reducible refine dA I fun bq ml=>?_
 (refine ai bM I (fun w' aB=>(ee (Mem.dz aB .here I I) (bY.cons (bY.cons bY.nil))))<|Ja I<|Ji<|Jv I<|JD I<|Jn<|gm I (fun az=>?_) fun az=>?_;refine Jr<|ab (aU .nil ak) I<|Jv I<|ao (.of I) (.of I) (.there .here) I I (eF I I I I I I) (bz I) ak<|Ja I<|Jn<|Ju ?_;rotate_left;refine Jk<|Jr<|ab (cm bL) I ?_;rotate_right)
 ·have e1:zq r o q=Ro.nil:=if_pos az;have e2:zr r o=aZ [gy r,oL r o]:=rfl;rw [e1,e2];refine aN 186 2<|aN 90 3<|aN 187 3<|aN 188 3 ?_
  with_reducible first|apply aO|apply aQ
  case he=>exact tY I inferInstance I dD ak (by rfl) (by rfl)
  case hR=>
   intro w' aB;exact aD (.z,.z,.z,.z) trivial (by exact .cons cX (.cons bL (.cons (.there .here) (.h1 .nil)))) aB I
 have e0:aZ [gy r,oL r o]=0:=Zp.1 az;have e1:zq r o q=r.Lh o q:=if_neg az;have e2:zr r o=0:=e0;have B2:gy r=0:=cz.1 e0 _ Zu;have V6:o∈cE r:=by
  have:=(bT (by decide)).1 (cz.1 e0 (oL r o) (by simp));rwa [decide_eq_false_iff_not,cH,Classical.not_not] at this
 have dU:=A2 B2;have hf:=lx dU dU.val;rw [e1,e2];refine JN bM I (fun w1 aT=>AY (h.keeps aT.keeps) cZ (by omega)) ?_;intro y _;dsimp only [id_eq,Zb,Za];obtain ⟨s1,d1,t1,p1⟩:=y;dsimp only;unfold RA PB;refine dH (r:=r) (s:=s1) (d:=d1) (t:=t1) (p:=p1) (by unfold vh PB;exact .h4 .nil) fun k1 k2 k3 k4=>?_
 (refine Jz I I fun _ _=>ao (.of I) (.of I) .here I I (eF I I k1 k2 k3 k4) (bz I) ak<|Jn<|Jq ?_)
 rename_i b9 hb9;obtain ⟨j0,uF⟩:∃ i:Nat,bC (cE r) o=(i:Nat):=⟨(bC (cE r) o).toNat,by have:=dP V6;omega⟩;have Dk:j0<r.de.length:=by
  obtain ⟨hl,_⟩:=fD (l:=cE r) (s:=o) (by omega);rw [uF,ZH] at hl;unfold cE at hl;rwa [Zd] at hl
 have hdd:∀ w',aJ [] w w'->aj T_ 155 [.agg #[.q r.lv,.q r.ma,s,d,t,p],.string o] w' (.q (j0:Nat)):=fun w' hk=>uF ▸ gK o (h.keeps hk)
 refine dy (E:=90) (sz:=3) (v:=d1) bL (by omega) fun gd cap cur e Se X2 hg3 hg4=>?_;subst e;have p0:=Vo r.de cur Dk q;have hle:j0*3+2+1<=(jt r.de++cur).length:=by rw [Zg,ub];omega
 with_reducible refine cN 8 (by kernel_rfl) ?_
 (refine lS I I ae<|aA (gX (.there .here)) I<|aA (cm tt) I<|gn I I<|dp bb I (fun w' aB=>(hdd w' (Mem.keeps aB)))<|gn I I<|aA (an (.of I) (.of I) I (by omega) (by omega) aW) I<|lS I I ae ?_)
 with_reducible refine cT ?_
 (refine ao (.of I) (.of I) .here I I (dR I) hle p0<|Ji<|ab (cm (.there .here)) I<|ao (.of I) (.of I) kr I I (eF I I k1 I k3 k4) (bz I) ak<|Ja I<|Jn<|Je ?_)
 have hpr:r.Lh o q=⟨r.lv,r.ma,r.sr,r.de.modify j0 fun x=>⟨x.nm,x.mx,q⟩,r.ti,r.po⟩:=by unfold Ro.Lh;rw [uF,ZH]
 have hml:(r.de.modify j0 fun x=>(⟨x.nm,x.mx,q⟩:De)).length=r.de.length:=List.length_modify _ _ _
 rw [hpr];generalize (r.de.modify j0 fun x=>(⟨x.nm,x.mx,q⟩:De))=D' at *
 have acI:(jt D'++cur).length=cap*3:=by rw [Zg,ub] at hg3 ⊢;rw [hml];exact hg3
 refine dC (n:=r.de.length) (xs:=jt D') (cap:=cap) (g:=gd) (E:=90) (sz:=3) (by exact Take.there .here) Se X2 acI (by rw [ub,hml]) ?_
 with_reducible first|apply aO|apply aQ
 case he=>exact tY I inferInstance I (.there .here) ak (by rfl) (by rfl)
 case hR=>
  intro w' aB;exact aD (s1,.w gd r.de.length cap,t1,p1) trivial (show bB _ [J1 r s1,row 90 3 (.w gd r.de.length cap) D'.length (jt D'),J3 r t1,J4 r p1] _ by rw [hml];exact .cons cX (.h1 (.cons bL (.cons bL .nil)))) aB I
structure gW where
 fr:Int
 tk:List fy
 v:Value
def gW.cells (x:gW):List Value:=[.q x.fr,x.v]
def kQ (l:List gW):List (List Value):=l.map gW.cells
theorem eH (l:List gW):(kQ l).length=l.length:=by simp [kQ]
theorem su {l:List gW} (h:k<l.length):(kQ l)[k]? = some (l[k]).cells:=by simp [kQ,h]
theorem pn {l:List gW} (h:k<l.length):kQ l≠[]:=by intro e;have:=congrArg List.length e;rw [eH] at this;simp at this;subst this;simp at h
def uQ (w:World) (l:List gW):Prop:=∀ x∈l,Rd w x.v 2 (iD x.tk)/\te w x.tk
theorem uQ.keeps {w w':World} {l:List gW} (h:uQ w l) (hk:aJ [] w w'):uQ w' l:=fun x hx=>⟨(h x hx).1.keeps hk,(h x hx).2.keeps hk⟩
def cC (l:List gW):List Od:=l.map fun x=>⟨x.fr,bQ x.tk⟩
theorem ss (l:List gW):(cC l).length=l.length:=Zd _
theorem pj {l:List gW} (h:k<l.length):(cC l).getD k Od.zero=⟨l[k].fr,bQ l[k].tk⟩:=by
 unfold cC;rw [Zk,ZE,Zc h];rfl
theorem Qe {lv:Value} {l:List gW} {p:gW->Bool} {f:FuncId} {first cap:List Value} [bW T_ f] {w:World} (h:Rd w lv 2 (kQ l)) (cV:∀ x∈l,∀ w',aJ [] w w'->aj T_ f (first++[.agg x.cells.toArray]++cap) w' (.bool (p x))) :
  aj T_ 173 [lv,.func (.func f) first.toArray cap.toArray] w (.q (iN p l)):=by
 obtain ⟨a,cp,b,o,rfl,dd,bO,ha,hc⟩:=h;rw [eH] at *;unfold maxLen at bO;refine ah func173 I I ?_;refine Jr<|Ja I<|Jn<|Jq<|Jr<|Jv I<|JI I<|Jv I<|Jn<|J0 ?_;refine aV (fun k:Nat=>k<=l.length/\∀ i,i<k->(l[i]?.map p).getD false=false) (fun k=>[(8,.int .i64 k),(7,.int .i64 l.length),(0,.slice a l.length cp),(1,.func (.func f) first.toArray cap.toArray)]) (fun _=>[]) (fun k=>l.length-k) ?_ ?_
 ·apply aI 0 ⟨Zi _,fun i h=>by omega⟩
  case hs1=>exact bS
  case ht=>(try simp only [Ze,Zf,Za]);exact .nil
 rintro k ⟨hk,hf⟩;by_cases aK:k<l.length
 ·have cq:=ha (pn aK);have aC:=(hc k _ (su aK)).2;have jq:=cV _ (Zj aK);have hps:(l[k]?.map p).getD false=p l[k]:=by simp [aK]
  unfold gW.cells at aC jq
  (refine Jr<|JA I<|Jn<|Jq<|Jd I fun az=>Jk<|Jq<|J0<|Jr<|Jv I<|Ja I<|Ji<|Jv I<|Jv I<|Jv I<|ab (fT cq az) I<|ab (iO (eZ.base aC I)) I<|ai bM I (fun w' aB=>(jq w' (Mem.keeps aB)))<|Jn<|nj I (fun az=>?_) fun az=>?_;refine Jr<|Jv I<|Ja I<|Jn<|Je<|Jm<|Jh<|Jh<|Jm<|Jh<|JT ?_;rotate_left;refine Jw<|Jj<|Jt<|Jg<|JB I (by omega)<|Jv I<|Jn ?_;rotate_right)
  ·rw [gP hf aK az]
  ·apply aH (k+1) ⟨by omega,fun i hi=>by
    by_cases e:i=k
    ·rw [e,hps];exact az
    ·exact hf i (by omega)⟩ (by omega)
   case hs1=>exact bS
   case ht=>(try simp only [Ze,Zf,Za]);exact .nil
 ·obtain rfl:k=l.length:=by omega
  refine Jr<|JA I<|Jn<|Jq<|Jc I fun az=>Jp<|Jl<|Jo<|Jt<|Jr<|Ja I<|Jn<|Je<|JT ?_;rw [fS hf]
theorem O7 {x:gW} {f:Int} {b:Nat} (f1:w.cell? ⟨b,0,none⟩=some (.q f)):aj T_ 174 [.agg x.cells.toArray,.p b] w (.bool (decide (f<x.fr))):=by
 unfold gW.cells;refine ah func174 I I ?_
 (refine Jr<|Jy I I fun _ _=>Ja I<|Ji<|bJ I I ae<|JL I .here I<|ab (ag (.of I) (At.base f1 I)) I<|JE I<|Ja I<|Jn<|Je<|JT ?_)
 rfl
def zw (r:Ro) (l:List Od):Int:=if gy r≠0 then gy r else Gv r l
def VR (r:Ro) (l:List Od):Int:=aZ [gy r,cn (decide ((16:Int)<(l.length:Nat))) 5]
theorem TW (r:Ro) (l:List Od):zw r l=if VR r l≠0 then VR r l else jd (BX r l) l.length:=by
 unfold zw VR Gv;by_cases h1:gy r=0
 ·rw [if_neg (not_not_intro h1)];by_cases h2:(16:Int)<(l.length:Nat)
  ·rw [if_pos h2,if_pos (by rw [h1,decide_eq_true h2];decide),h1,decide_eq_true h2];rfl
  ·rw [if_neg h2,if_neg (by rw [h1,decide_eq_false h2];decide)]
 ·have:aZ [gy r,cn (decide ((16:Int)<(l.length:Nat))) 5]=gy r:=by unfold aZ;rw [if_pos h1]
  rw [if_pos h1,this,if_pos h1]
def HR (l:List gW) (k:Nat):Int:=if k=0 then -1 else ((cC l).getD (k-1) Od.zero).fr
theorem LD {l:List gW} (h:k<l.length):BX r (cC l) k=aZ [fK l[k].fr 0 10000000,cn (decide (l[k].fr<=HR l k)) 11,uR r (bQ l[k].tk)]:=by
 unfold BX HR;have:(cC l)[k]? = some ⟨l[k].fr,bQ l[k].tk⟩:=by unfold cC;rw [ZE,Zc h];rfl
 rw [this];rfl
theorem HQ {l:List gW} (h:k<l.length):HR l (k+1)=l[k].fr:=by
 unfold HR;rw [if_neg (by omega),Zax,pj h]
set_option maxHeartbeats 1000000 in
theorem qX {s d t p kv:Value} {l:List gW} (h:RR w r s d t p) (cZ:nk r) (hw:Rd w kv 2 (kQ l)) (hM:uQ w l) :
  aj T_ 171 [RA r s d t p,kv] w (.q (zw r (cC l))):=by
 obtain ⟨h1,h2,h3,h4⟩:=h.one;obtain ⟨aw,cw,bw,ow,rfl,Sj,Dh,Yg,MA⟩:=hw;rw [eH] at *;unfold maxLen at Dh;have nL:=ss l;have gr:∀ w',aJ [] w w'->aj T_ 34 [.agg #[.int .i64 r.lv,.int .i64 r.ma,s,d,t,p]] w' (.int .i64 (gy r)):=fun w' hk=>fj (h.keeps hk) cZ
 have hX:=TW r (cC l);have hA:VR r (cC l)=aZ [gy r,cn (decide ((16:Int)<(l.length:Nat))) 5]:=by unfold VR;rw [nL]
 unfold RA;refine ah func171 I I ?_
 (refine Jr<|Jy I I fun _ _=>Ja I<|Jn<|Jq<|Jr<|ab (cm .here) I<|ai bM I (fun w' aB=>(gr w' (Mem.keeps aB)))<|Jv I<|JI I<|JE I<|ai bb I (fun w' aB=>(eG _ 5 w'))<|bj (aG (.o I (.o I .nil)) I I I I) I fun _ _=>ai bM I (fun w' aB=>(ee (Mem.dz aB .here I I) (bY.cons (bY.cons bY.nil))))<|Ja I<|Ji<|Jv I<|JD I<|Jn<|gm I (fun az=>?_) fun az=>?_;refine Jr<|Jv I<|Ja I<|Jn<|Ju<|JT ?_;rotate_left;refine Jk<|Jr<|Ja I<|Jn<|Jq<|Jr<|Jv I<|JI I<|Jv I<|Jn<|J0 ?_;rotate_right)
 ·rw [hX,hA,if_pos az]
 have Du:VR r (cC l)=0:=by rw [hA];exact Zp.1 az
 rw [if_neg (not_not_intro Du),nL] at hX;clear az;rename_i b2 rM bq ml
 refine aV (fun k:Nat=>k<=l.length/\∀ i,i<k->BX r (cC l) i=0) (fun k=>[(23,.q (k:Nat)),(22,.q (l.length:Nat)),(21,.slice aw l.length cw),(6,.q (HR l k)),(2,.p b2)])
  (fun k=>[JP b2 r s d t p]) (fun k=>l.length-k) ?_ ?_
 ·apply aI 0 ⟨Zi _,fun i hi=>by omega⟩
  case hs1=>exact bS
  case ht=>(try simp only [Ze,Zf,Za]);exact .cons (.there .here) .nil
 rintro k ⟨hk,hf⟩;by_cases aK:k<l.length
 ·have MG:=Yg (pn aK);have aC:=(MA k _ (su aK)).2;unfold gW.cells at aC;have hx:=hM _ (Zj aK);have iy:=LD (r:=r) aK;have uE:=HQ aK;generalize l[k]=x at aC hx iy uE ⊢;obtain ⟨xf,xt,xv⟩:=x;dsimp only at aC hx iy uE ⊢;have fo:=Rd.one hx.1;have htk:∀ w',aJ [] w w'->aj T_ 164 [.agg #[.int .i64 r.lv,.int .i64 r.ma,s,d,t,p],xv] w' (.int .i64 (uR r (bQ xt))):=fun w' hk=>sY (h.keeps hk) (hx.1.keeps hk) (hx.2.keeps hk)
  (refine Jr<|JA I<|Jn<|Jq<|Jd I fun az=>Jk<|Jq<|J0<|Jr<|ab (an (.of I) (.of I) MG (by omega) az aW) I<|ab (iO (eZ.base aC I)) I<|Jz I I fun _ _=>ao (.of I) (.of I) .here I I (gO I fo) (bz I) ak<|Jn<|Jq<|Jq ?_)
  with_reducible refine cY 13 (by kernel_rfl) ?_
  (refine ar k6 I<|ar (gX .here) I<|aX ef I (fun w' aB=>(np xf 0 10000000 w'))<|ar k6 I<|ar (gX .here) I<|ar k8 I<|ar (lj (.of I) (.of I)) I<|aX bb I (fun w' aB=>(eG _ 11 w'))<|ar (cm (.there .here)) I<|ar k6 I<|ar (gX .here) I<|aX bb I (fun w' aB=>(htk w' (Mem.keeps aB)))<|eC (aG (.o I (.o I (.o I .nil))) I I I I) I I ?_)
  with_reducible refine dA I fun b55 ac3=>?_
  (refine ai bM I (fun w' aB=>(ee (Mem.dz aB .here I I) (bY.cons (bY.cons (bY.cons bY.nil)))))<|Ja I<|Ji<|Jv I<|JD I<|Jn<|gm I (fun az=>?_) fun az=>?_;refine Jr<|Jv I<|Ja I<|Jn<|Ju<|Jm<|Jh<|Jh<|Jm<|Jh<|JT ?_;rotate_left;refine Jk<|Jg<|bJ I I ae<|JL I (.there .here) I<|Ja I<|Jx<|Jj<|Jt<|Jg<|JB I (by omega)<|Jv I<|Jn ?_;rotate_right)
  ·rw [<- iy] at az ⊢;have hB:jd (BX r (cC l)) l.length=BX r (cC l) k:=eV hf aK az;rw [hX,hB]
  have hz:BX r (cC l) k=0:=by rw [iy];exact Zp.1 az
  rw [<- uE];apply aH (k+1) ⟨by omega,fun i hi=>by
   by_cases e:i=k
   ·rw [e];exact hz
   ·exact hf i (by omega)⟩ (by omega)
  case hs1=>exact bS
  case ht=>(try simp only [Ze,Zf,Za]);exact .cons bL .nil
 ·obtain rfl:k=l.length:=by omega
  have Yt:jd (BX r (cC l)) l.length=0:=dQ.2 hf;refine Jr<|JA I<|Jn<|Jq<|Jc I fun az=>Jp<|Jl<|Jo<|Jt<|Jr<|Ja I<|Jn<|Je<|JT ?_;rw [hX,Yt]
set_option maxHeartbeats 2000000 in
theorem KX {s d t p kv:Value} {l:List gW} (h:RR w r s d t p) (B2:gy r=0) (hw:Rd w kv 2 (kQ l)) (hM:uQ w l) (hO:IE r (cC l)) :
  a8 T_ 172 [RA r s d t p,kv] w [] (fun _:Value×Value×Value×Value=>True) (fun x=>.tuple #[RA (fE r (cC l)).1 x.1 x.2.1 x.2.2.1 x.2.2.2,.q (fE r (cC l)).2.1,.q (fE r (cC l)).2.2]) (fun x=>vh (fE r (cC l)).1 x):=by
 have dU:=A2 B2;have tO:=dU.lim;have uE:=dU.len;have cZ:nk r:=by unfold nk;omega
 have IZ:=lx dU dU.val;have hlf:=hO.B4;rw [ss] at hlf;have nL:=ss l;obtain ⟨h1,h2,h3,h4⟩:=h.one;obtain ⟨a,cp,b,o,rfl,dd,bO,ha,hc⟩:=hw;rw [eH] at *;unfold maxLen at bO;have hX:fE r (cC l)=if jd (tH r (cC l)) l.length=0 then (NZ r (cC l) l.length,0,0) else (Ro.nil,((NC (tH r (cC l)) l.length:Nat):Int),jd (tH r (cC l)) l.length):=by unfold fE;rw [nL]
 unfold RA;refine aS func172 I I ?_;refine Jr<|Jy I I fun _ _=>Jz I I fun _ _=>Ja I<|Ja I<|Ji<|ab (cm (.there .here)) I ?_;rename_i b2 rM b4 tS;refine JN bM I (fun w1 aT=>AY (h.keeps aT.keeps) cZ (by omega)) ?_;intro y _;dsimp only [id_eq,Zb,Za];obtain ⟨s1,d1,t1,p1⟩:=y;dsimp only;unfold RA PB;refine dH (r:=r) (s:=s1) (d:=d1) (t:=t1) (p:=p1) (by unfold vh PB;exact .h4 .nil) fun k1 k2 k3 k4=>?_
 (refine Jz I I fun _ _=>ao (.of I) (.of I) .here I I (eF I I k1 k2 k3 k4) (bz I) ak<|Jn<|Jq<|Jr<|Jv I<|JI I<|Jv I<|Jn<|J0 ?_)
 rename_i b7 Sm
 refine aV (ι:=Nat×(Value×Value×Value×Value)×List Po) (fun y=>y.1<=l.length/\DT r (cC l) y.1 y.2.2/\(∀ j,j<y.1->tH r (cC l) j=0)/\y.2.1.1.oneCell'=true/\y.2.1.2.1.oneCell'=true/\y.2.1.2.2.1.oneCell'=true/\y.2.1.2.2.2.oneCell'=true) (fun y=>[(17,.q (y.1:Nat)),(16,.q (l.length:Nat)),(15,.slice a l.length cp),(7,.p b7),(4,.p b4)])
  (fun y=>[JP b7 r (y.2.1.1) (y.2.1.2.1) (y.2.1.2.2.1) (y.2.1.2.2.2),J1 r y.2.1.1,J2 r y.2.1.2.1,J3 r y.2.1.2.2.1,row 188 3 y.2.1.2.2.2 y.2.2.length (gl y.2.2),bE b4 (.cells #[.q 0,.q 0,.z,.z,.z,.z] 41 (0,0))]) (fun y=>l.length-y.1) ?_ ?_
 ·apply aI (0,(s1,d1,t1,p1),r.po) ⟨Zi _,⟨I,dU.val⟩,fun j hj=>absurd hj (ZN j),k1,k2,k3,k4⟩
  case hs1=>exact bS
  case ht=>exact iP
 clear k1 k2 k3 k4 s1 d1 t1 p1;rintro ⟨i,⟨s1,d1,t1,p1⟩,q⟩ ⟨hi,U4,QD,k1,k2,k3,k4⟩;dsimp only at hi U4 QD k1 k2 k3 k4 ⊢;have hqf:=lx dU U4.val;by_cases aK:i<l.length
 ·have cq:=ha (pn aK);have aC:=(hc i _ (su aK)).2;have gN:=Zj aK;have hx:=hM _ gN;have gV:i<(cC l).length:=by omega
  have IY:=pj aK;have hti:=hO.tk i gV;have Qx:(cC l)[i].tk=bQ l[i].tk:=by
   rw [Zk,Zc gV,Zaj] at IY;rw [IY]
  rw [Qx] at hti;have H2:tH r (cC l) i=(gI (r.wp q) (bQ l[i].tk)).2.2:=by unfold tH;rw [U4.eq,IY]
  have ba:NZ r (cC l) (i+1)=(gI (r.wp q) (bQ l[i].tk)).1:=by rw [NZ,U4.eq,IY]
  have gQ:=fun h0=>U4.next B2 hO gV h0
  unfold gW.cells at aC;generalize l[i]=x at *;obtain ⟨xf,xt,xv⟩:=x;dsimp only at *;have fo:=Rd.one hx.1
  (refine Jr<|JA I<|Jn<|Jq<|Jd I fun az=>Jk<|Jq<|J0<|Jr<|Jv I<|ab (fT cq az) I<|ab (iO (eZ.base aC I)) I<|Jz I I fun _ _=>Ja I<|ao (.of I) (.of I) .here I I (gO I fo) (bz I) ak<|Ji<|ab (cm (.there .here)) I<|bJ I I ae<|JL I .here I ?_)
  refine JN bb I (fun w1 aT=>F8 (r:=r.wp q) (RR.wp (cG aT bL I) (cI aT cX I) (cF aT dD I) (ct aT eu I)) (dU.wp U4.val) (by show q.length<=500;omega) (hx.1.keeps aT.keeps) (hx.2.keeps aT.keeps) (hti.wp q)) ?_;have jZ:∀ q',gI (r.wp q) (bQ xt)=(r.wp q',0,0)->True:=fun _ _=>trivial
  generalize gI (r.wp q) (bQ xt)=R at *;obtain ⟨R,at_,e_⟩:=R;rintro ⟨s2,d2,t2,p2⟩ _;dsimp only at H2 ba ⊢;unfold RA;refine dH (r:=R) (s:=s2) (d:=d2) (t:=t2) (p:=p2) (bo _ _) fun m1 m2 m3 m4=>?_;clear jZ
  (refine Jv I<|JJ I I<|JJ I I<|JJ I I<|Jz I I fun _ _=>ao (.of I) (.of I) .here I I (eF I I m1 m2 m3 m4) (bz I) ak<|Ja I<|Ja I<|Jn<|Jq<|Jr<|Jv I<|JD I<|Jn<|gm I (fun az=>?_) fun az=>?_;refine Jr<|ab (aU .nil ak) I<|Jv I<|Jv I<|ao (.of I) (.of I) u5 I I (eF I I I I I I) (bz I) ak<|Ja I<|Ja I<|Jn<|Ju<|Jm<|Jh<|Jh<|Jm<|Jh ?_;rotate_left;refine Jk<|Jg<|ab (cm .here) I<|ao (.of I) (.of I) kr I I (eF I I m1 m2 m3 m4) (bz I) ak<|Jx<|Jj<|Jt<|Jg<|JB I (by omega)<|Jv I<|Jn ?_;rotate_right)
  ·have hne:tH r (cC l) i≠0:=by rw [H2];exact az
   have hE:jd (tH r (cC l)) l.length=e_:=(eV QD aK hne).trans H2;have e4:fE r (cC l)=(Ro.nil,((i:Nat):Int),e_):=by rw [hX,hE,if_neg az,Hc QD aK hne]
   rw [e4];dsimp only;refine aN 186 2<|aN 90 3<|aN 187 3<|aN 188 3 ?_
   with_reducible first|apply aO|apply aQ
   case he=>exact im I inferInstance I dD ak (by rfl) (by rfl) (by rfl)
   case hR=>
    intro w' aB;exact aD (.z,.z,.z,.z) trivial (by exact .cons cX (.cons bL (.cons (.there .here) (.h1 .nil)))) aB I
  have hz:e_=0:=Zp.1 az;have ho0:tH r (cC l) i=0:=H2.trans hz;obtain ⟨q',uC,_⟩:=gQ ho0;have Yn:R=r.wp q':=ba.symm.trans uC.eq;subst Yn;apply aH (i+1,(s2,d2,t2,p2),q') ⟨by show i+1<=_;omega,uC,fun j hj=>by
   by_cases e:j=i
   ·rw [e];exact ho0
   ·exact QD j (by have:j<i+1:=hj;omega),m1,m2,m3,m4⟩ (by show l.length-(i+1)<l.length-i;omega)
  case hs1=>exact bS
  case ht=>
   dsimp only;have w1:(r.wp q').lv=r.lv:=rfl;have w2:(r.wp q').ma=r.ma:=rfl;have w3:(r.wp q').sr=r.sr:=rfl;have w4:(r.wp q').de=r.de:=rfl;have w5:(r.wp q').ti=r.ti:=rfl;have w6:(r.wp q').po=q':=rfl
   try unfold J1 J2 J3
   try unfold J4
   rw [w1,w2,w3,w4,w5,w6];exact .h1 (.cons (.there .here) (.cons (.there .here) (.cons (.there .here) (.cons (.there .here) (.cons kr .nil)))))
 ·have e:i=l.length:=by omega
  subst e
  (refine Jr<|JA I<|Jn<|Jq<|Jc I fun az=>Jp<|Jl<|Jo<|Jt<|Jr<|ab (cm .here) I<|ao (.of I) (.of I) eu I I (eF I I k1 k2 k3 k4) (bz I) ak<|Ja I<|Ja I<|Jn<|Je ?_)
  have hE:jd (tH r (cC l)) l.length=0:=dQ.2 QD;have e4:fE r (cC l)=(r.wp q,0,0):=by rw [hX,hE,if_pos I,U4.eq]
  rw [e4];dsimp only
  with_reducible first|apply aO|apply aQ
  case he=>exact im I inferInstance I .here ak (by rfl) (by rfl) (by rfl)
  case hR=>
   intro w' aB;exact aD (s1,d1,t1,p1) trivial (by exact .cons bL (.cons bL (.cons bL (.cons bL .nil)))) aB I
def vW (r:Ro) (l:List Od):Ro×Int×Int:=if zw r l≠0 then (Ro.nil,0,zw r l) else fE r l
theorem EN (h:zw r l=0):gy r=0/\IE r l:=by
 unfold zw at h;by_cases c:gy r=0
 ·rw [if_neg (not_not_intro c)] at h;exact ⟨c,ods h⟩
 ·rw [if_pos c] at h;exact absurd h c
set_option maxHeartbeats 1000000 in
theorem Y9 {s d t p kv:Value} {l:List gW} (h:RR w r s d t p) (cZ:nk r) (hw:Rd w kv 2 (kQ l)) (hM:uQ w l) :
  a8 T_ 62 [RA r s d t p,kv] w [] (fun _:Value×Value×Value×Value=>True) (fun x=>.tuple #[RA (vW r (cC l)).1 x.1 x.2.1 x.2.2.1 x.2.2.2,.q (vW r (cC l)).2.1,.q (vW r (cC l)).2.2]) (fun x=>vh (vW r (cC l)).1 x):=by
 obtain ⟨h1,h2,h3,h4⟩:=h.one;have XS:=Rd.one hw;have H2:∀ w',aJ [] w w'->aj T_ 171 [.agg #[.int .i64 r.lv,.int .i64 r.ma,s,d,t,p],kv] w' (.int .i64 (zw r (cC l))):=fun w' hk=>qX (h.keeps hk) cZ (hw.keeps hk) (hM.keeps hk)
 unfold RA;refine aS func62 I I ?_
 (refine Jr<|Jy I I fun _ _=>Jz I I fun _ _=>Ja I<|Ja I<|Jn<|Jq<|Jr<|ab (cm (.there .here)) I<|Jv I<|ai bb I (fun w' aB=>(H2 w' (Mem.keeps aB)))<|Ja I<|Ji<|Jv I<|JD I<|Jn<|gm I (fun az=>?_) fun az=>?_;refine Jr<|ab (aU .nil ak) I<|Jv I<|ao (.of I) (.of I) .here I I (eF I I I I I I) (bz I) ak<|Ja I<|Ja I<|Jn<|Ju ?_;rotate_left;refine Jk<|Jr<|ab (cm (.there .here)) I<|Jv I ?_;rotate_right)
 ·have e:vW r (cC l)=(Ro.nil,0,zw r (cC l)):=if_pos az;rw [e];dsimp only;refine aN 186 2<|aN 90 3<|aN 187 3<|aN 188 3 ?_
  with_reducible first|apply aO|apply aQ
  case he=>exact im I inferInstance I dD ak (by rfl) (by rfl) (by rfl)
  case hR=>
   intro w' aB;exact aD (.z,.z,.z,.z) trivial (by exact .cons cX (.cons bL (.cons (.there .here) (.h1 .nil)))) aB I
 have e:vW r (cC l)=fE r (cC l):=if_neg az;obtain ⟨B2,hO⟩:=EN (Zp.1 az);rw [e];refine JN bb I (fun w1 aT=>KX (h.keeps aT.keeps) B2 (hw.keeps aT.keeps) (hM.keeps aT.keeps) hO) ?_;generalize fE r (cC l)=R;obtain ⟨R,at_,e_⟩:=R;rintro ⟨s1,d1,t1,p1⟩ _;dsimp only;unfold RA;refine dH (r:=R) (s:=s1) (d:=d1) (t:=t1) (p:=p1) (bo _ _) fun k1 k2 k3 k4=>?_
 (refine JJ I I<|JJ I I<|JJ I I<|ao (.of I) (.of I) dD I I (eF I I k1 k2 k3 k4) (bz I) ak<|Ja I<|Ja I<|Jn<|Je ?_)
 with_reducible first|apply aO|apply aQ
 case he=>exact im I inferInstance I .here ak (by rfl) (by rfl) (by rfl)
 case hR=>
  intro w' aB;exact aD (s1,d1,t1,p1) trivial (by exact .cons (.there .here) (.cons (.there .here) (.cons (.there .here) (.cons (.there .here) .nil)))) aB I
def g4:Value->Value×Value×Value×Value
 | .agg a=>(a.getD 0 (.slice none 0 0),a.getD 1 (.slice none 0 0),a.getD 2 (.slice none 0 0),a.getD 3 (.slice none 0 0))
 | _=>(.slice none 0 0,.slice none 0 0,.slice none 0 0,.slice none 0 0)
theorem pJ (x:Value×Value×Value×Value):∃ v,g4 v=x:=⟨.agg #[x.1,x.2.1,x.2.2.1,x.2.2.2],I⟩
def Ex (r:Ro) (o:ByteArray) (f:Int):Int:=aZ [oL r o,fK f 0 10000000]
def oI (r:Ro) (l:List Od) (o:ByteArray) (f:Int):Int:=if zw r l≠0 then zw r l else if Ex r o f≠0 then Ex r o f else (fE r (l.take (fU l f))).2.2
def q7 (r:Ro) (l:List Od) (o:ByteArray) (f:Int):List ByteArray:=if oI r l o f≠0 then [] else cU (fE r (l.take (fU l f))).1 o
theorem Qc (l:List gW) (f:Int):iN (fun x:gW=>decide (f<x.fr)) l=if fU (cC l) f<l.length then ((fU (cC l) f:Nat):Int) else -1:=by
 have hn:fU (cC l) f=l.findIdx fun x=>decide (f<x.fr):=by
  unfold fU cC;rw [List.findIdx_map];rfl
 rw [hn];by_cases c:(l.findIdx fun x=>decide (f<x.fr))<l.length
 ·rw [if_pos c];refine gP (fun i hi=>?_) c (List.findIdx_getElem (w:=c));have:=List.not_of_lt_findIdx hi;rw [Zc (by omega)];simpa using this
 ·rw [if_neg c];refine fS fun i hi=>?_;have:=List.not_of_lt_findIdx (p:=fun x:gW=>decide (f<x.fr)) (xs:=l) (i:=i) (by omega)
  rw [Zc hi];simpa using this
theorem IE.take (h:IE r l) (n:Nat):IE r (l.take n):=by
 refine ⟨by rw [Zs];have:=h.B4;omega,fun k hk=>?_,fun i j hi hj yy=>?_,fun k hk=>?_⟩
 ·rw [Zs] at hk;rw [ZaF];exact h.fr k (by omega)
 ·rw [Zs] at hi hj;rw [ZaF,ZaF];exact h.inc i j (by omega) (by omega) yy
 ·rw [Zs] at hk;rw [ZaF];exact h.tk k (by omega)
theorem Ge (hc:gy r=0) (hO:IE r l) (h:(fE r l).2.2=0):∃ q,jh r q/\(fE r l).1=r.wp q:=by
 unfold fE at h ⊢;by_cases c:jd (tH r l) l.length=0
 ·rw [if_pos c];obtain ⟨q,hq⟩:=Ez hc hO l.length (Zy _) (dQ.1 c);exact ⟨q,hq.val,hq.eq⟩
 ·rw [if_neg c] at h;exact absurd h c
set_option maxHeartbeats 2000000 in
theorem NU {s d t p kv:Value} {l:List gW} (o:ByteArray) (f:Int) {w:World} (h:RR w r s d t p) (cZ:nk r) (hw:Rd w kv 2 (kQ l)) (hM:uQ w l) :
  a8 T_ 64 [RA r s d t p,kv,.string o,.q f] w [] (fun _:Value=>True) (fun v=>.tuple #[v,.q (oI r (cC l) o f)]) (fun v=>[row 9 1 v (q7 r (cC l) o f).length (aR (q7 r (cC l) o f))]):=by
 obtain ⟨h1,h2,h3,h4⟩:=h.one;have BY:=hw;obtain ⟨a,cp,b,ow,rfl,dd,bO,ha,hc⟩:=hw;rw [eH] at *;unfold maxLen at bO;have nL:=ss l;have H2:∀ w',aJ [] w w'->aj T_ 171 [.agg #[.int .i64 r.lv,.int .i64 r.ma,s,d,t,p],.slice a l.length cp] w' (.int .i64 (zw r (cC l))):=fun w' hk=>qX (h.keeps hk) cZ (BY.keeps hk) (hM.keeps hk)
 have mZ:∀ w',aJ [] w w'->aj T_ 112 [.agg #[.q r.lv,.q r.ma,s,d,t,p],.string o] w' (.q (oL r o)):=fun w' hk=>eY o (h.keeps hk)
 unfold RA;refine aS func64 I I ?_
 (refine Jr<|Jy I I fun _ _=>Jy I I fun _ _=>Ja I<|Ja I<|Jn<|Jq<|Jr<|ab (cm (.there .here)) I<|Jv I<|ai bb I (fun w' aB=>(H2 w' (Mem.keeps aB)))<|Ja I<|Ji<|Jv I<|JD I<|Jn<|gm I (fun az=>?_) fun az=>?_;refine Jr<|Jv I<|Ja I<|Ja I<|Jn<|Ju ?_;rotate_left;refine Jk<|Jq<|Jq ?_;rotate_right)
 ·have e1:oI r (cC l) o f=zw r (cC l):=if_pos az;have e2:q7 r (cC l) o f=[]:=if_pos (by rw [e1];exact az);rw [e1,e2];refine aN 9 1 ?_
  with_reducible first|apply aO|apply aQ
  case he=>exact gH I I I
  case hR=>
   intro w' aB;exact aD (.z) trivial (by exact .h1 .nil) aB I
 have Wd:oI r (cC l) o f=if Ex r o f≠0 then Ex r o f else (fE r ((cC l).take (fU (cC l) f))).2.2:=if_neg az
 obtain ⟨B2,hO⟩:=EN (Zp.1 az);clear az;rename_i b4 tS b7 Sm
 with_reducible refine cY 6 (by kernel_rfl) ?_
 (refine ar (cm (.there .here)) I<|ar k8 I<|aX bb I (fun w' aB=>(mZ w' (Mem.keeps aB)))<|ar (gX .here) I<|aX ef I (fun w' aB=>(np f 0 10000000 w'))<|eC (aG (.o I (.o I .nil)) I I I I) I I ?_)
 with_reducible refine dA I fun bq ml=>?_
 (refine ai bM I (fun w' aB=>(ee (Mem.dz aB .here I I) (bY.cons (bY.cons bY.nil))))<|Ja I<|Ji<|Jv I<|JD I<|Jn<|gm I (fun az=>?_) fun az=>?_;refine Jr<|Jv I<|Ja I<|Ja I<|Jn<|Ju ?_;rotate_left;refine Jk<|Jr<|Jv I<|ab (bD .nil (.o I .nil)) I ?_;rotate_right)
 ·have e1:oI r (cC l) o f=Ex r o f:=by rw [Wd];exact if_pos az
  have e2:q7 r (cC l) o f=[]:=if_pos (by rw [e1];exact az);rw [e1,e2];refine aN 9 1 ?_
  with_reducible first|apply aO|apply aQ
  case he=>exact gH I I I
  case hR=>
   intro w' aB;exact aD (.z) trivial (by exact .h1 .nil) aB I
 have eq2:oI r (cC l) o f=(fE r ((cC l).take (fU (cC l) f))).2.2:=by rw [Wd];exact if_neg az
 clear Wd;have Wd:=eq2;have hsd:o∈cE r:=by
  have:=(bT (by decide)).1 (cz.1 (Zp.1 az) (oL r o) (by simp));rwa [decide_eq_false_iff_not,cH,Classical.not_not] at this
 clear az eq2
 with_reducible apply ai
 case hr=>exact bb
 case hd=>rfl
 case hc=>
  intro w' aB;have f7:w'.cell? ⟨b7,0,none⟩=some (.q f):=At.lit (by exact Take.there .here) I w' aB;exact Qe (f:=174) (p:=fun x:gW=>decide (f<x.fr)) (first:=[]) (cap:=[.p b7]) (BY.keeps aB.keeps) (fun x _ w2 fq=>O7 (cJ f7 I fq))
 rw [Qc];have Uo:=Te (cC l) f;rw [nL] at Uo;by_cases kL:fU (cC l) f<l.length
 ·rw [if_pos kL];have Um:fU (cC l) f<=l.length:=Uo;have Un:fU (cC l) f=fU (cC l) f:=rfl;refine Ja I<|Jn<|Jq<|Jr<|Jv I<|JA I<|Jn<|Jc I fun az=>Jk<|Jq ?_;have w7:oI r (cC l) o f=(fE r ((cC l).take (fU (cC l) f))).2.2/\q7 r (cC l) o f=if (fE r ((cC l).take (fU (cC l) f))).2.2≠0 then [] else cU (fE r ((cC l).take (fU (cC l) f))).1 o:=by
   have x1:oI r (cC l) o f=(fE r ((cC l).take (fU (cC l) f))).2.2:=by rw [Wd,Un]
   refine ⟨x1,?_⟩;unfold q7;rw [x1,Un]
  have U5:=hO.take (fU (cC l) f);have rK:(cC l).take (fU (cC l) f)=cC (l.take (fU (cC l) f)):=by unfold cC;rw [ZaX]
  rw [rK] at w7 U5;have w8:=Ge B2 U5;have uB:Rd w (Go.sliced a 0 (((fU (cC l) f):Nat):Int).toNat cp 2) 2 (kQ (l.take (fU (cC l) f))):=by
   have:=BY.sliced (l:=0) (m:=(fU (cC l) f)) (Zi _) Um;rw [ZH];rwa [List.drop_zero,show (kQ l).take (fU (cC l) f)=kQ (l.take (fU (cC l) f)) by unfold kQ;rw [ZaX]] at this
  have hMn:uQ w (l.take (fU (cC l) f)):=fun x hx=>hM x (ZaM hx)
  rw [w7.1,w7.2];have sF:∀ w',aJ [] w w'->a8 T_ 172 [.agg #[.q r.lv,.q r.ma,s,d,t,p],Go.sliced a 0 (((fU (cC l) f):Nat):Int).toNat cp 2] w' [] (fun _:Value×Value×Value×Value=>True) (fun x=>.tuple #[RA (fE r (cC (l.take (fU (cC l) f)))).1 x.1 x.2.1 x.2.2.1 x.2.2.2,.q (fE r (cC (l.take (fU (cC l) f)))).2.1,.q (fE r (cC (l.take (fU (cC l) f)))).2.2]) (fun x=>vh (fE r (cC (l.take (fU (cC l) f)))).1 x):=fun w' hk=>KX (h.keeps hk) B2 (uB.keeps hk) (hMn.keeps hk) U5
  generalize fE r (cC (l.take (fU (cC l) f)))=R at w8 sF ⊢;obtain ⟨R,at_,e_⟩:=R;dsimp only at w8 sF ⊢
  with_reducible refine nr 10 [7,8] (by kernel_rfl) (Zq.2 ⟨mH I (by kernel_rfl) (by kernel_rfl),Zq.2 ⟨mH I (by kernel_rfl) (by kernel_rfl),fun _ h=>absurd h Zo⟩⟩) ?_
  (refine au (fun β=>(bK (.of I) bL ak (by rfl))) dO I<|au (fun β=>(aP (.of I))) dO I<|au (fun β=>(aP (.of I))) dO I<|au (fun β=>(iU (.of I) (.of I) (by omega) (by omega))) dO I ?_)
  dsimp only [Nat.zero_add,Nat.reduceAdd]
  with_reducible apply eB (ι:=Value×Value×Value×Value) (Φ:=fun _=>True) (val:=fun x=>.tuple #[.agg #[.q R.lv,.q R.ma,x.1,x.2.1,x.2.2.1,x.2.2.2],.q at_,.q e_]) (own:=fun x=>[J1 R x.1,J2 R x.2.1,J3 R x.2.2.1,J4 R x.2.2.2]) (g:=g4) (B:=[]) (args:=fun _=>[.agg #[.q r.lv,.q r.ma,s,d,t,p],Go.sliced a 0 (((fU (cC l) f):Nat):Int).toNat cp 2])
  case hg=>exact pJ
  case hB=>rfl
  case hr=>exact fun β=>a7 (.of I) (.o I (.o I .nil)) inferInstance I
  case hd=>rfl
  case hc=>exact fun β w' hb=>sF w' hb.mem.keeps
  dsimp only [Nat.reduceAdd]
  with_reducible apply au
  case hr=>(intro β;exact aP (.of I))
  case hi=>exact fun β β' h=>by simp only [h 4 (by kernel_rfl)]
  case hd=>rfl
  dsimp only [Nat.reduceAdd]
  with_reducible apply au
  case hr=>(intro β;exact dJ (.of I) I)
  case hi=>exact fun β β' h=>by simp only [h 4 (by kernel_rfl)]
  case hd=>rfl
  dsimp only [Nat.reduceAdd]
  (refine au (fun β=>(dJ (.of I) I)) dO I<|au (fun β=>(dJ (.of I) I)) dO I ?_)
  refine kE (fun β=>(o8 I)) (fun _ _ _=>rfl) I ?_;refine eS fun β=>?_;dsimp only [dY,Za,Zb,List.append_eq,Nat.reduceAdd];generalize fu (β 9)=VA;generalize g4 (β 4)=y;obtain ⟨s1,d1,t1,p1⟩:=y;clear β;dsimp only;refine dH (r:=R) (s:=s1) (d:=d1) (t:=t1) (p:=p1) (by unfold vh PB;exact .h4 .nil) fun m1 m2 m3 m4=>?_;refine bI (rs:=[10]) (by kernel_rfl) (by simp) (Zq.2 ⟨?_,fun _ h=>absurd h Zo⟩);refine bP I ?_
  (refine ao (.of I) (.of I) dD I I (eF I I m1 m2 m3 m4) (bz I) ak<|Jn ?_)
  refine bI (rs:=[11]) (by kernel_rfl) (by simp) (Zq.2 ⟨?_,fun _ h=>absurd h Zo⟩);refine bP I ?_;refine Ja I<|Jn ?_;refine bI (rs:=[12]) (by kernel_rfl) (by simp) (Zq.2 ⟨?_,fun _ h=>absurd h Zo⟩);refine bP I ?_;refine Ja I<|Jn ?_
  with_reducible refine cu (by kernel_rfl) ?_
  clear sF;by_cases B1:e_=0
  ·obtain ⟨q,hVq,Yn⟩:=w8 B1;clear w8;rw [if_neg (not_not_intro B1)];subst Yn;subst B1;have XG:=(A2 B2).wp hVq;have tO:=XG.lim;have uE:=XG.len
   (refine Jt<|Jq<|Jr<|Jv I<|JD I<|Jn<|Jc I fun az=>Jk<|Jr<|ab (cm .here) I<|Jv I ?_)
   have hnh:(cU (r.wp q) o).length=(r.wp q).lv.toNat:=by unfold cU;simp
   rw [hnh];generalize r.wp q=R at *;refine JN bb I (fun w1 aT=>xe (r:=R) o ⟨cG aT (by exact Take.there .here) I,cI aT bL I,cF aT cX I,ct aT dD I⟩ (by omega) (by omega)) ?_;intro hv _;dsimp only [id_eq,Zb,Za];refine aM (E:=9) (sz:=1) (v:=hv) (by exact .here) fun va vc e=>?_;subst e;refine Ja I<|Ja I<|Jn<|Je ?_
   with_reducible first|apply aO|apply aQ
   case he=>exact gH I I I
   case hR=>
    intro w' aB;exact aD (.slice va R.lv.toNat vc) trivial (by exact .h1 .nil) aB I
  ·clear w8;rw [if_pos B1];refine Jt<|Jq<|Jr<|Jv I<|JD I<|Jn<|Jd I fun az=>Jr<|Jv I<|Ja I<|Ja I<|Jn<|Ju ?_;refine aN 9 1 ?_
   with_reducible first|apply aO|apply aQ
   case he=>exact gH I I I
   case hR=>
    intro w' aB;exact aD (.z) trivial (by exact .h1 .nil) aB I
 ·rw [if_neg kL];have Um:l.length<=l.length:=Zy _;have Un:fU (cC l) f=l.length:=by omega
  refine Ja I<|Jn<|Jq<|Jr<|Jv I<|JA I<|Jn<|Jd I fun az=>Jg<|Jv I<|JI I<|Ja I<|Jn<|Jq ?_;have w7:oI r (cC l) o f=(fE r ((cC l).take l.length)).2.2/\q7 r (cC l) o f=if (fE r ((cC l).take l.length)).2.2≠0 then [] else cU (fE r ((cC l).take l.length)).1 o:=by
   have x1:oI r (cC l) o f=(fE r ((cC l).take l.length)).2.2:=by rw [Wd,Un]
   refine ⟨x1,?_⟩;unfold q7;rw [x1,Un]
  have U5:=hO.take l.length;have rK:(cC l).take l.length=cC (l.take l.length):=by unfold cC;rw [ZaX]
  rw [rK] at w7 U5;have w8:=Ge B2 U5;have uB:Rd w (Go.sliced a 0 ((l.length:Nat):Int).toNat cp 2) 2 (kQ (l.take l.length)):=by
   have:=BY.sliced (l:=0) (m:=l.length) (Zi _) Um;rw [ZH];rwa [List.drop_zero,show (kQ l).take l.length=kQ (l.take l.length) by unfold kQ;rw [ZaX]] at this
  have hMn:uQ w (l.take l.length):=fun x hx=>hM x (ZaM hx)
  rw [w7.1,w7.2];have sF:∀ w',aJ [] w w'->a8 T_ 172 [.agg #[.q r.lv,.q r.ma,s,d,t,p],Go.sliced a 0 ((l.length:Nat):Int).toNat cp 2] w' [] (fun _:Value×Value×Value×Value=>True) (fun x=>.tuple #[RA (fE r (cC (l.take l.length))).1 x.1 x.2.1 x.2.2.1 x.2.2.2,.q (fE r (cC (l.take l.length))).2.1,.q (fE r (cC (l.take l.length))).2.2]) (fun x=>vh (fE r (cC (l.take l.length))).1 x):=fun w' hk=>KX (h.keeps hk) B2 (uB.keeps hk) (hMn.keeps hk) U5
  generalize fE r (cC (l.take l.length))=R at w8 sF ⊢;obtain ⟨R,at_,e_⟩:=R;dsimp only at w8 sF ⊢
  with_reducible refine nr 10 [7,8] (by kernel_rfl) (Zq.2 ⟨mH I (by kernel_rfl) (by kernel_rfl),Zq.2 ⟨mH I (by kernel_rfl) (by kernel_rfl),fun _ h=>absurd h Zo⟩⟩) ?_
  (refine au (fun β=>(bK (.of I) bL ak (by rfl))) dO I<|au (fun β=>(aP (.of I))) dO I<|au (fun β=>(aP (.of I))) dO I<|au (fun β=>(iU (.of I) (.of I) (by omega) (by omega))) dO I ?_)
  dsimp only [Nat.zero_add,Nat.reduceAdd]
  with_reducible apply eB (ι:=Value×Value×Value×Value) (Φ:=fun _=>True) (val:=fun x=>.tuple #[.agg #[.q R.lv,.q R.ma,x.1,x.2.1,x.2.2.1,x.2.2.2],.q at_,.q e_]) (own:=fun x=>[J1 R x.1,J2 R x.2.1,J3 R x.2.2.1,J4 R x.2.2.2]) (g:=g4) (B:=[]) (args:=fun _=>[.agg #[.q r.lv,.q r.ma,s,d,t,p],Go.sliced a 0 ((l.length:Nat):Int).toNat cp 2])
  case hg=>exact pJ
  case hB=>rfl
  case hr=>exact fun β=>a7 (.of I) (.o I (.o I .nil)) inferInstance I
  case hd=>rfl
  case hc=>exact fun β w' hb=>sF w' hb.mem.keeps
  dsimp only [Nat.reduceAdd]
  with_reducible apply au
  case hr=>(intro β;exact aP (.of I))
  case hi=>exact fun β β' h=>by simp only [h 4 (by kernel_rfl)]
  case hd=>rfl
  dsimp only [Nat.reduceAdd]
  with_reducible apply au
  case hr=>(intro β;exact dJ (.of I) I)
  case hi=>exact fun β β' h=>by simp only [h 4 (by kernel_rfl)]
  case hd=>rfl
  dsimp only [Nat.reduceAdd]
  (refine au (fun β=>(dJ (.of I) I)) dO I<|au (fun β=>(dJ (.of I) I)) dO I ?_)
  refine kE (fun β=>(o8 I)) (fun _ _ _=>rfl) I ?_;refine eS fun β=>?_;dsimp only [dY,Za,Zb,List.append_eq,Nat.reduceAdd];generalize fu (β 9)=VA;generalize g4 (β 4)=y;obtain ⟨s1,d1,t1,p1⟩:=y;clear β;dsimp only;refine dH (r:=R) (s:=s1) (d:=d1) (t:=t1) (p:=p1) (by unfold vh PB;exact .h4 .nil) fun m1 m2 m3 m4=>?_;refine bI (rs:=[10]) (by kernel_rfl) (by simp) (Zq.2 ⟨?_,fun _ h=>absurd h Zo⟩);refine bP I ?_
  (refine ao (.of I) (.of I) dD I I (eF I I m1 m2 m3 m4) (bz I) ak<|Jn ?_)
  refine bI (rs:=[11]) (by kernel_rfl) (by simp) (Zq.2 ⟨?_,fun _ h=>absurd h Zo⟩);refine bP I ?_;refine Ja I<|Jn ?_;refine bI (rs:=[12]) (by kernel_rfl) (by simp) (Zq.2 ⟨?_,fun _ h=>absurd h Zo⟩);refine bP I ?_;refine Ja I<|Jn ?_
  with_reducible refine cu (by kernel_rfl) ?_
  clear sF;by_cases B1:e_=0
  ·obtain ⟨q,hVq,Yn⟩:=w8 B1;clear w8;rw [if_neg (not_not_intro B1)];subst Yn;subst B1;have XG:=(A2 B2).wp hVq;have tO:=XG.lim;have uE:=XG.len
   (refine Jt<|Jq<|Jr<|Jv I<|JD I<|Jn<|Jc I fun az=>Jk<|Jr<|ab (cm .here) I<|Jv I ?_)
   have hnh:(cU (r.wp q) o).length=(r.wp q).lv.toNat:=by unfold cU;simp
   rw [hnh];generalize r.wp q=R at *;refine JN bb I (fun w1 aT=>xe (r:=R) o ⟨cG aT (by exact Take.there .here) I,cI aT bL I,cF aT cX I,ct aT dD I⟩ (by omega) (by omega)) ?_;intro hv _;dsimp only [id_eq,Zb,Za];refine aM (E:=9) (sz:=1) (v:=hv) (by exact .here) fun va vc e=>?_;subst e;refine Ja I<|Ja I<|Jn<|Je ?_
   with_reducible first|apply aO|apply aQ
   case he=>exact gH I I I
   case hR=>
    intro w' aB;exact aD (.slice va R.lv.toNat vc) trivial (by exact .h1 .nil) aB I
  ·clear w8;rw [if_pos B1];refine Jt<|Jq<|Jr<|Jv I<|JD I<|Jn<|Jd I fun az=>Jr<|Jv I<|Ja I<|Ja I<|Jn<|Ju ?_;refine aN 9 1 ?_
   with_reducible first|apply aO|apply aQ
   case he=>exact gH I I I
   case hR=>
    intro w' aB;exact aD (.z) trivial (by exact .h1 .nil) aB I
end Go.Proofs.A1
namespace Go.Proofs
open Go.Shelf
def Tryz.uw:Go.Shelf.Ren:=⟨fun | 156=>278 | 165=>326 | 166=>327 | 169=>328 | 240=>357 | 241=>358 | 276=>379 | 277=>380 | n=>n,fun | 31=>32 | 9=>9 | 3=>3 | 4=>4 | 0=>0 | 20=>20 | 72=>397 | 76=>401 | 70=>395 | 37=>351 | 75=>400 | 127=>421 | 164=>437 | 5=>5 | 80=>197 | n=>n,fun | n=>n⟩
theorem Tryz.GC:Go.Proofs.Lays.n156 Tryz.prog Tryz.uw:={
 mixed:=by kernel_rfl
 f156:=Tryz.func278.trans (congrArg some (by kernel_rfl))
 f165:=Tryz.func326.trans (congrArg some (by kernel_rfl))
 f166:=Tryz.func327.trans (congrArg some (by kernel_rfl))
 f169:=Tryz.func328.trans (congrArg some (by kernel_rfl))
 f240:=Tryz.func357.trans (congrArg some (by kernel_rfl))
 f241:=Tryz.func358.trans (congrArg some (by kernel_rfl))
 f276:=Tryz.func379.trans (congrArg some (by kernel_rfl))
 f277:=Tryz.func380.trans (congrArg some (by kernel_rfl))
 t0:=Tryz.underlying0
 a0:=Tryz.isAgg0
 z0:=Tryz.sizeOf0
 v0:=Tryz.zeroValue0
 t3:=Tryz.underlying3
 a3:=Tryz.isAgg3
 z3:=Tryz.sizeOf3
 v3:=Tryz.zeroValue3
 t4:=Tryz.underlying4
 a4:=Tryz.isAgg4
 z4:=Tryz.sizeOf4
 v4:=Tryz.zeroValue4
 t9:=Tryz.underlying9
 a9:=Tryz.isAgg9
 z9:=Tryz.sizeOf9
 v9:=Tryz.zeroValue9
 t20:=Tryz.underlying20
 a20:=Tryz.isAgg20
 z20:=Tryz.sizeOf20
 v20:=Tryz.zeroValue20
 t31:=Tryz.underlying32
 a31:=Tryz.isAgg32
 z31:=Tryz.sizeOf32
 v31:=Tryz.zeroValue32
 t37:=Tryz.underlying351
 a37:=Tryz.isAgg351
 z37:=Tryz.sizeOf351
 v37:=Tryz.zeroValue351
 t70:=Tryz.underlying395
 a70:=Tryz.isAgg395
 z70:=Tryz.sizeOf395
 v70:=Tryz.zeroValue395
 t72:=Tryz.underlying397
 a72:=Tryz.isAgg397
 z72:=Tryz.sizeOf397
 v72:=Tryz.zeroValue397
 t75:=Tryz.underlying400
 a75:=Tryz.isAgg400
 z75:=Tryz.sizeOf400
 v75:=Tryz.zeroValue400
 t76:=Tryz.underlying401
 a76:=Tryz.isAgg401
 z76:=Tryz.sizeOf401
 v76:=Tryz.zeroValue401
 t127:=Tryz.underlying421
 a127:=Tryz.isAgg421
 z127:=Tryz.sizeOf421
 v127:=Tryz.zeroValue421
 t164:=Tryz.underlying437
 a164:=Tryz.isAgg437
 z164:=Tryz.sizeOf437
 v164:=Tryz.zeroValue437 }
theorem Tryz.mR:Builder.Extra Tryz.prog Tryz.uw:={
 sizeBuilder:=by kernel_rfl
 liesBuilder:=by kernel_rfl
 t5:=Tryz.underlying5
 a5:=Tryz.isAgg5
 z5:=Tryz.sizeOf5
 v5:=Tryz.zeroValue5
 infoByte:=by kernel_rfl
 cellsByte:=by kernel_rfl
 sizeByte:=by kernel_rfl
 neB5:=by decide }
open Go.RowKit in
theorem Tryz.strings_Join_none (a:Option Addr) (c:Nat) (sep:ByteArray) (w:World) :
  Calls Tryz.prog 278 #[.slice a 0 c,.string sep] w fun e w'=>e=.returned (.string ⟨#[]⟩)/\w'=w:=Any.strings_Join_none Tryz.GC Tryz.mR a c sep w
open Go.RowKit in
theorem Tryz.strings_Join (bk o c:Nat) (xs:List ByteArray) (sep:ByteArray) (w:World) (UX:∀ (j:Nat) x,xs[j]? = some x->w.cell? ⟨bk,o+j,none⟩=some (.string x)) (hbk:bk<w.heap.size) (hN:xs.length<=140737488355328) (dd:xs.length<=c) (hlen:(Lib.join (xs.map (·.data.toList)) sep.data.toList).length<=140737488355328) :
  Calls Tryz.prog 278 #[.slice (some ⟨bk,o,none⟩) xs.length c,.string sep] w fun e w'=>e=.returned (.string ⟨(Lib.join (xs.map (·.data.toList)) sep.data.toList).toArray⟩)/\Below w.heap.size w w':=Any.strings_Join Tryz.GC Tryz.mR bk o c xs sep w UX hbk hN dd hlen
def Tryz.C3:Go.Shelf.Ren:=⟨fun | 243=>279 | 246=>329 | 283=>359 | 284=>360 | 285=>361 | 286=>362 | 129=>313 | 317=>381 | 318=>382 | 319=>383 | 320=>384 | 337=>393 | 338=>394 | n=>n,fun | 3=>3 | 9=>9 | 2=>2 | 4=>4 | 171=>422 | 0=>0 | 53=>383 | 37=>351 | 5=>5 | 173=>424 | 212=>441 | 51=>381 | 20=>20 | 213=>442 | 46=>318 | 232=>449 | 233=>450 | n=>n,fun | 17=>1 | 18=>3 | 19=>4 | n=>n⟩
theorem Tryz.P1:Go.Proofs.Lays.n243 Tryz.prog Tryz.C3:={
 mixed:=by kernel_rfl
 f129:=Tryz.func313.trans (congrArg some (by kernel_rfl))
 f243:=Tryz.func279.trans (congrArg some (by kernel_rfl))
 f246:=Tryz.func329.trans (congrArg some (by kernel_rfl))
 f283:=Tryz.func359.trans (congrArg some (by kernel_rfl))
 f284:=Tryz.func360.trans (congrArg some (by kernel_rfl))
 f285:=Tryz.func361.trans (congrArg some (by kernel_rfl))
 f286:=Tryz.func362.trans (congrArg some (by kernel_rfl))
 f317:=Tryz.func381.trans (congrArg some (by kernel_rfl))
 f318:=Tryz.func382.trans (congrArg some (by kernel_rfl))
 f319:=Tryz.func383.trans (congrArg some (by kernel_rfl))
 f320:=Tryz.func384.trans (congrArg some (by kernel_rfl))
 f337:=Tryz.func393.trans (congrArg some (by kernel_rfl))
 f338:=Tryz.func394.trans (congrArg some (by kernel_rfl))
 t0:=Tryz.underlying0
 a0:=Tryz.isAgg0
 z0:=Tryz.sizeOf0
 v0:=Tryz.zeroValue0
 t2:=Tryz.underlying2
 a2:=Tryz.isAgg2
 z2:=Tryz.sizeOf2
 v2:=Tryz.zeroValue2
 t3:=Tryz.underlying3
 a3:=Tryz.isAgg3
 z3:=Tryz.sizeOf3
 v3:=Tryz.zeroValue3
 t4:=Tryz.underlying4
 a4:=Tryz.isAgg4
 z4:=Tryz.sizeOf4
 v4:=Tryz.zeroValue4
 t5:=Tryz.underlying5
 a5:=Tryz.isAgg5
 z5:=Tryz.sizeOf5
 v5:=Tryz.zeroValue5
 t9:=Tryz.underlying9
 a9:=Tryz.isAgg9
 z9:=Tryz.sizeOf9
 v9:=Tryz.zeroValue9
 t20:=Tryz.underlying20
 a20:=Tryz.isAgg20
 z20:=Tryz.sizeOf20
 v20:=Tryz.zeroValue20
 t37:=Tryz.underlying351
 a37:=Tryz.isAgg351
 z37:=Tryz.sizeOf351
 v37:=Tryz.zeroValue351
 t46:=Tryz.underlying318
 a46:=Tryz.isAgg318
 z46:=Tryz.sizeOf318
 v46:=Tryz.zeroValue318
 t51:=Tryz.underlying381
 a51:=Tryz.isAgg381
 z51:=Tryz.sizeOf381
 v51:=Tryz.zeroValue381
 t53:=Tryz.underlying383
 a53:=Tryz.isAgg383
 z53:=Tryz.sizeOf383
 v53:=Tryz.zeroValue383
 t171:=Tryz.underlying422
 a171:=Tryz.isAgg422
 z171:=Tryz.sizeOf422
 v171:=Tryz.zeroValue422
 t173:=Tryz.underlying424
 a173:=Tryz.isAgg424
 z173:=Tryz.sizeOf424
 v173:=Tryz.zeroValue424
 t212:=Tryz.underlying441
 a212:=Tryz.isAgg441
 z212:=Tryz.sizeOf441
 v212:=Tryz.zeroValue441
 t213:=Tryz.underlying442
 a213:=Tryz.isAgg442
 z213:=Tryz.sizeOf442
 t232:=Tryz.underlying449
 a232:=Tryz.isAgg449
 z232:=Tryz.sizeOf449
 v232:=Tryz.zeroValue449
 t233:=Tryz.underlying450
 a233:=Tryz.isAgg450
 z233:=Tryz.sizeOf450
 v233:=Tryz.zeroValue450
 g17:=by kernel_rfl
 g18:=by kernel_rfl
 g19:=by kernel_rfl }
open Go.RowKit Go.Sort Go.Lib in
theorem Tryz.internal_strconv_Itoa_small (i:Nat) (hi:i<100) (w:World) :
  Calls Tryz.prog 279 #[.q i] w fun e w'=>e=.returned (.string ⟨(Lib.decDigits i).toArray⟩)/\w'=w:=Any.internal_strconv_Itoa_small Tryz.P1 i hi w
end Go.Proofs
namespace Go
def Result.up {α:Type} (w:World):Result α->Prop
  | .ok _ w'=>w.drawn<=w'.drawn
  | .halt _ w'=>w.drawn<=w'.drawn
variable {a:Halt} {atomic:Bool} {es:Array Event} {m:Machine} {p:Program} {r:World×List Addr} {v:Value} {var:Addr} {w w':World}
theorem Result.dL {α:Type} (h:w.drawn<=w'.drawn) {r:Result α} (k:r.up w'):r.up w:=by
  cases r <;> exact Nat.le_trans h k
theorem VG {α:Type} (a:Ask α):∀ w:World,w.drawn<=(w.ask a).2.drawn:=by
  induction a with
  | done a=>intro w;exact Nat.le_refl _
  | ask Wt range k ih =>
    intro w;unfold World.ask;dsimp only;split
    · exact ih _ w
    · exact Nat.le_trans (Nat.le_succ _) (ih _ { w with drawn:=w.drawn+1 })
theorem Ts (w:World) (c:Sys):w.drawn<=(w.sys c).2.drawn:=by
  unfold World.sys;have h:=VG (Kernel.perform c w.os) w;generalize w.ask (Kernel.perform c w.os)=r at h;obtain ⟨⟨x,os⟩,w'⟩:=r;cases x <;> first | exact Nat.le_refl _ | exact h
theorem Ai {at_:Addr} {u:TypeId} {k:Addr}
    (h:w.viewStore p at_ u k v atomic=.ok r):r.1.drawn=w.drawn:=by
  unfold World.viewStore at h;simp only [bind,Except.bind,pure,Except.pure,throw,throwThe,MonadExceptOf.throw] at h
  repeat' split at h
  all_goals first | (cases h;rfl) | (injection h with h;rw [<- h]) | nomatch h
theorem Dy {a:Addr}
    (h:w.farStore p a v atomic=.ok r):r.1.drawn=w.drawn:=by
  unfold World.farStore at h;split at h
  · split at h
    · next e=>injection h with h;rw [<- h];exact Ai e
    · nomatch h
  · nomatch h
theorem Ih (w:World) (a:Addr) (n:Nat):(w.freeze a n).drawn=w.drawn:=by
  unfold World.freeze;split <;> rfl
theorem AJ {α:Type} (p:Program) (s:Sem α):∀ w:World,(s.run p w).up w:=by
  induction s with
  | pure a=>intro w;exact Nat.le_refl _
  | load m a k ih =>
    intro w;unfold Sem.run;split
    · exact ih _ w
    · split
      · exact ih _ w
      · exact Nat.le_refl _
  | store m a v k ih =>
    intro w
    cases v <;> first
      | exact Nat.le_refl _
      | (simp only [Sem.run]
         split
         · split
           · exact Nat.le_refl _
           · exact ih (w.setCell _ _)
         · split
           · next hf=>exact Result.dL (Nat.le_of_eq (Dy hf).symm) (ih _)
           · exact Nat.le_refl _)
  | new o k ih=>intro w;exact ih _ _
  | shape r k ih=>intro w;exact ih _ w
  | freeze a n k ih=>intro w;exact Result.dL (Nat.le_of_eq (Ih w a n).symm) (ih (w.freeze a n))
  | frozen a k ih=>intro w;exact ih _ w
  | getObj r k ih =>
    intro w;unfold Sem.run;split
    · exact Nat.le_refl _
    · exact ih _ w
    · exact Nat.le_refl _
  | setObj r o k ih =>
    intro w;unfold Sem.run;split
    · exact Nat.le_refl _
    · exact ih _
    · exact Nat.le_refl _
  | choose q k ih =>
    intro w;unfold Sem.run;split
    · exact ih _ w
    · exact Result.dL (Nat.le_succ w.drawn) (ih _ { w with drawn:=w.drawn+1 })
  | sys c k ih=>intro w;exact Result.dL (Ts w c) (ih _ _)
  | program k ih=>intro w;exact ih _ w
  | mark m k ih=>intro w;exact ih w
  | halt h=>intro w;exact Nat.le_refl _
theorem rX {α:Type} (p:Program) (s:Sem α) (w:World) (es:Array Event):(s.runT p w es).1.up w:=by
  rw [Sem.runT_fst];exact AJ p s w
theorem iJ {α:Type} {s:Sem α} {a:α} (h:s.run p w=.ok a w'):w.drawn<=w'.drawn:=by
  have k:=AJ p s w;rw [h] at k;exact k
theorem QI {α:Type} {s:Sem α} (h:s.run p w=.halt a w'):w.drawn<=w'.drawn:=by
  have k:=AJ p s w;rw [h] at k;exact k
theorem T1 {α:Type} {s:Sem α} {es QW:Array Event} {a:α} (h:s.runT p w es=(.ok a w',QW)):w.drawn<=w'.drawn:=by
  have k:=rX p s w es;rw [h] at k;exact k
theorem MK {α:Type} {s:Sem α} {es QW:Array Event} (h:s.runT p w es=(.halt a w',QW)):w.drawn<=w'.drawn:=by
  have k:=rX p s w es;rw [h] at k;exact k
theorem j9 {α:Type} {s:Sem α} {a:α} (h:(s.runT p w es).1=.ok a w'):w.drawn<=w'.drawn:=by
  have k:=rX p s w es;rw [h] at k;exact k
theorem lQ {α:Type} {s:Sem α} (h:(s.runT p w es).1=.halt a w'):w.drawn<=w'.drawn:=by
  have k:=rX p s w es;rw [h] at k;exact k
def GStep.up (w:World):GStep->Prop
  | .go _ w' _=>w.drawn<=w'.drawn
  | .comm _ _ _ _ w' _=>w.drawn<=w'.drawn
  | .spawn _ _ w' _=>w.drawn<=w'.drawn
  | .count _ w' _=>w.drawn<=w'.drawn
  | .timer _ _ w' _=>w.drawn<=w'.drawn
  | .alone _ _ w' _=>w.drawn<=w'.drawn
  | .newcoro _ _ _ w' _=>w.drawn<=w'.drawn
  | .coroswitch _ _ _ w' _=>w.drawn<=w'.drawn
  | .collect _ w' _=>w.drawn<=w'.drawn
  | .watch _ w' _=>w.drawn<=w'.drawn
  | .ended _ _ _=>True
theorem GStep.dL (h:w.drawn<=w'.drawn) {s:GStep} (k:s.up w'):s.up w:=by
  cases s <;> first | trivial | exact Nat.le_trans h k
theorem GStep.Ao {c:Prop} [Decidable c] {s t:GStep} (h:s.up w) (k:t.up w):(if c then s else t).up w:=by
  split
  · exact h
  · exact k
theorem GStep.jy (es:Array Event) {s:GStep} (k:s.up w):(s.after es).up w:=by
  cases s <;> exact k
theorem pN (fr:Frame) (m:String) (w:World):(endThrow fr m w).up w:=Nat.le_refl _
theorem Fm (w0 w:World) (fd:Nat) (text:ByteArray) (o:Outcome):(endWith w fd text o).up w0:=by
  unfold endWith;dsimp only;split
  · split <;> trivial
  · trivial
  · trivial
theorem pO (p:Program) (fr:Frame) (v:Value) (w:World):(endPrinting p fr v w).up w:=by
  unfold endPrinting;dsimp only;split
  · exact pN _ _ _
  · trivial
theorem uM (p:Program) (fr:Frame) (callers:List Frame) (dying:Option Dying) (m:String) (w:World):(endFatal p fr callers dying m w).up w:=by
  unfold endFatal;dsimp only;split
  · next h=>exact iJ h
  · trivial
  · trivial
theorem Ed (p:Program) (fr:Frame) (d:Dying) (f:Fatal) (w:World):(writeOn p fr d f w).up w:=by
  unfold writeOn;dsimp only;split
  · trivial
  · split
    · next h=>exact T1 h
    · next h=>exact MK h
    · trivial
    · trivial
theorem Vl (p:Program) (fr:Frame) (d:Dying) (w:World):(die p fr d w).up w:=by
  unfold die;dsimp only;split
  · exact Ed _ _ _ _ _
  · split
    · split
      · exact Nat.le_refl _
      · exact Fm _ _ _ _ _
    · split
      · exact Nat.le_refl _
      · split
        · next h=>exact iJ h
        · trivial
      · apply GStep.jy
        split
        · next h=>exact j9 h
        · next h=>exact j9 h
        · trivial
        · next h=>exact GStep.dL (lQ h) (pO _ _ _ _)
        · trivial
      · trivial
theorem kZ (p:Program) (main:Bool) (fr:Frame) (callers:List Frame) (dying:Option Dying) (v:Value) (w:World) :
    (doReturn p main fr callers dying v w).up w:=by
  unfold doReturn;dsimp only
  repeat' split
  all_goals first | trivial | exact Nat.le_refl _
theorem u3 (p:Program) (fr:Frame) (callers:List Frame) (dying:Option Dying) (d:Deferred) (w:World) :
    (callDeferred p fr callers dying d w).up w:=by
  unfold callDeferred;dsimp only;apply GStep.Ao
  · trivial
  · apply GStep.jy
    repeat' split
    all_goals first
      | trivial
      | exact j9 (by assumption)
      | exact lQ (by assumption)
      | exact GStep.dL (lQ (by assumption)) (uM _ _ _ _ _ _)
      | exact GStep.dL (lQ (by assumption)) (pN _ _ _)
theorem Hm (p:Program) (main:Bool) (fr:Frame) (callers:List Frame) (dying:Option Dying) (w:World) :
    (unwind p main fr callers dying w).up w:=by
  unfold unwind;dsimp only;split
  · apply GStep.jy
    split
    · next h=>exact j9 h
    · trivial
  · exact u3 _ _ _ _ _ _
  · split
    · trivial
    · split
      · trivial
      · split
        · exact Nat.le_refl _
        · split
          · split
            · exact Nat.le_refl _
            · split
              · next h=>exact iJ h
              · trivial
              · trivial
          · split
            · exact pO _ _ _ _
            · trivial
    · split
      · exact kZ _ _ _ _ _ _ _
      · apply GStep.jy
        split
        · next h=>exact GStep.dL (j9 h) (kZ _ _ _ _ _ _ _)
        · trivial
        · trivial
theorem M4 (p:Program) (fr:Frame) (callers:List Frame) (dying:Option Dying) (g:Nat) (w:World) :
    (early p fr callers dying g w).up w:=by
  unfold early;dsimp only
  repeat' split
  all_goals first
    | trivial
    | exact Nat.le_refl _
    | (next h _=>have k:=iJ h;exact k)
    | (next h _ _=>have k:=iJ h;exact k)
    | (next h=>have k:=iJ h;exact k)
    | (next h _ _ _=>have k:=iJ h;exact k)
    | (next h _ _ _ _=>have k:=iJ h;exact k)
theorem sZ (p:Program) (listen:Bool) (fr:Frame) (callers:List Frame) (dying:Option Dying) (s:Sem Next) (w:World) :
    (stepG.apply p listen fr callers dying s w).up w:=by
  unfold stepG.apply;dsimp only;apply GStep.jy;have hr:∃ r:Result Next×Array Event,(if listen=true then s.runT p w #[] else (s.run p w,#[]))=r/\r.1.up w:=by
    refine ⟨_,rfl,?_⟩;split
    · exact rX p s w #[]
    · exact AJ p s w
  obtain ⟨r,hr,hu⟩:=hr;rw [hr];generalize r.1=r1 at hu ⊢
  repeat' split
  all_goals first
    | trivial
    | exact Ww hu (by assumption)
    | exact OC hu (by assumption)
    | exact hu
    | (refine GStep.dL ?_ (pN _ _ _);first | exact hu | exact Ww hu (by assumption) | exact OC hu (by assumption))
    | (refine GStep.dL ?_ (uM _ _ _ _ _ _);exact hu)
    | (refine GStep.dL ?_ (M4 _ _ _ _ _ _);exact hu)
theorem Gq (p:Program) (listen:Bool) (fr:Frame) (callers:List Frame) (dying:Option Dying) (w:World) :
    (stepG.oper p listen fr callers dying w).up w:=by
  unfold stepG.oper
  repeat' split
  all_goals first | trivial | exact sZ _ _ _ _ _ _ _
theorem QU (p:Program) (main listen:Bool) (fr:Frame) (callers:List Frame) (dying:Option Dying) (w:World) :
    (stepG.exec p main listen fr callers dying w).up w:=by
  unfold stepG.exec;dsimp only;split
  all_goals first
    | trivial
    | exact Nat.le_refl _
    | (split
       · first | exact Nat.le_refl _ | (apply GStep.Ao <;> first | exact Nat.le_refl _ | trivial) | trivial
       · apply GStep.jy
         split
         · next h=>exact GStep.dL (j9 h) (kZ _ _ _ _ _ _ _)
         · trivial)
    | (split <;> first | exact Nat.le_refl _ | trivial)
    | (generalize exitTo _ _ = o; cases o with
       | none =>
         split
         · first | exact Nat.le_refl _ | (apply GStep.Ao <;> first | exact Nat.le_refl _ | trivial) | trivial
         · apply GStep.jy
           split
           · next h=>exact GStep.dL (j9 h) (kZ _ _ _ _ _ _ _)
           · trivial
       | some k=>exact Nat.le_refl _)
    | (generalize gotoIn _ _ = o; cases o with
       | none =>
         split
         · first | exact Nat.le_refl _ | (apply GStep.Ao <;> first | exact Nat.le_refl _ | trivial) | trivial
         · apply GStep.jy
           split
           · next h=>exact GStep.dL (j9 h) (kZ _ _ _ _ _ _ _)
           · trivial
       | some k=>exact Nat.le_refl _)
    | (apply GStep.jy
       split
       · next h=>first | (have k:=j9 h;exact k) | exact GStep.dL (j9 h) (sZ _ _ _ _ _ _ _)
       · first | trivial | (next h=>have k:=lQ h;exact k)
       done)
    | (apply GStep.jy
       split
       · next h=>(have k:=j9 h;exact k)
       · next h=>(have k:=lQ h;exact k)
       · trivial)
    | exact sZ _ _ _ _ _ _ _
    | exact Gq _ _ _ _ _ _
    | (generalize Extern.next _ = o; cases o with
       | none=>trivial
       | some e=>exact sZ _ _ _ _ _ _ _)
    | (split
       · exact Nat.le_refl _
       · split
         · next h=>have k:=iJ h;exact k
         · trivial)
    | (split
       · exact Gq _ _ _ _ _ _
       · exact Nat.le_refl _)
    | skip
theorem KE (p:Program) (main:Bool) (g:Goroutine) (w:World) (listen:Bool):(stepG p main g w listen).up w:=by
  unfold stepG;split;split
  · exact Vl _ _ _ _
  · exact QU _ _ _ _ _ _ _
  · exact Hm _ _ _ _ _ _
def Stepped.up (w:World):Stepped->Prop
  | .next m=>w.drawn<=m.world.drawn
  | .ended _ _=>True
theorem Stepped.dL (h:w.drawn<=w'.drawn) {s:Stepped} (k:s.up w'):s.up w:=by
  cases s <;> first | trivial | exact Nat.le_trans h k
theorem A6 (p:Program) (gs:Array Goroutine) (rest:Rest) (w:World):(look p gs rest w).up w:=by
  unfold look;dsimp only;split
  · split
    · trivial
    · split
      · trivial
      · split
        · next h=>have k:=iJ h;exact k
        · trivial
        · trivial
  · trivial
theorem Ag {rest:Rest} {cases:Array CommCase} (h:waitingAt rest cases w=some w'):w.drawn<=w'.drawn:=by
  unfold waitingAt at h;split at h
  · split at h
    · injection h with h;rw [<- h];exact Nat.le_refl _
    · nomatch h
  · injection h with h;rw [<- h];exact Nat.le_refl _
theorem xC (p:Program) (rest:Rest) (gs:Array Goroutine) (i:Nat) (g:Goroutine) (cases:Array CommCase) (DM:Bool)
    (shape:CommShape) (w:World):(communicate p rest gs i g cases DM shape w).1.up w:=by
  unfold communicate;dsimp only;split
  · trivial
  · split
    · split
      · split
        · next h=>exact Ag h
        · trivial
      · exact Nat.le_refl _
    · split
      · trivial
      · next h=>
        have k:=iJ h;split
        · split
          · next h2=>
            have k2:=QI h2;exact Nat.le_trans k k2
          · trivial
        · exact k
        · exact k
        · split
          · exact k
          · split
            · next h3=>have k3:=iJ h3;exact Nat.le_trans k k3
            · trivial
        · exact k
        · exact k
        · trivial
theorem M5 (w:World) (c:Nat):(drain w c).2.drawn=w.drawn:=by
  unfold drain;split <;> rfl
theorem zn (m:Machine) (k:Nat) (t:Timer) (when period:Nat):(retime m k t when period).2.world.drawn=m.world.drawn:=by
  unfold retime;dsimp only;split
  · exact M5 _ _
  · rfl
theorem C1 {f:Nat->Timer->Value×Machine} {n:Nat} (hf:∀ k t,(f k t).2.world.drawn=n) {r:Value×Machine}
    (h:timerOp.named m var f=.ok r):r.2.world.drawn=n:=by
  unfold timerOp.named at h;split at h
  · injection h with h;rw [<- h];exact hf _ _
  · nomatch h
theorem HM {m m':Machine} (h:timerOp.opened m var=some m'):m'.world.drawn=m.world.drawn:=by
  unfold timerOp.opened at h;split at h
  · split at h
    · injection h with h;rw [<- h]
    · nomatch h
  · injection h with h;rw [<- h]
theorem Eo {op:TimerOp} {r:Value×Machine} (h:timerOp m op=.ok r):r.2.world.drawn=m.world.drawn:=by
  unfold timerOp at h;split at h
  · split at h
    · injection h with h;rw [<- h];rfl
    · split at h
      · split at h
        · nomatch h
        · injection h with h;rw [<- h]
      · nomatch h
  · exact C1 (fun k t=>zn m k t 0 t.period) h
  · split at h
    · next ho=>exact (C1 (fun k t=>zn _ k t _ _) h).trans (HM ho)
    · nomatch h
  · injection h with h;rw [<- h];rfl
theorem KO (p:Program) (m:Machine) (k:Nat):(serve p m k).up m.world:=by
  unfold serve;dsimp only;split
  · trivial
  · exact Nat.le_refl _
  · split
    · trivial
    · exact Nat.le_refl _
def Move.up (w:World):Move->Prop
  | .goroutine m _=>w.drawn<=m.world.drawn
  | .machine s _=>s.up w
theorem xL (p:Program) (m:Machine):(askOn p m).up m.world:=by
  unfold askOn;dsimp only;split
  · trivial
  · next h=>
    have k:=iJ h;split
    · exact Stepped.dL k (KO _ _ _)
    · split
      · split
        · exact k
        · split
          · exact k
          · split
            · trivial
            · trivial
      · split
        · split
          · trivial
          · next h0=>
            have k0:=iJ h0;split
            · exact Nat.le_trans k k0
            · split
              · trivial
              · next h3=>have k3:=iJ h3;exact Nat.le_trans k (Nat.le_trans k0 k3)
        · split
          · trivial
          · next h2=>
            have k2:=iJ h2;split
            · trivial
            · next h0=>
              have k0:=iJ h0;split
              · exact Nat.le_trans (Nat.le_trans k k2) k0
              · split
                · trivial
                · next h3=>have k3:=iJ h3;exact Nat.le_trans (Nat.le_trans k k2) (Nat.le_trans k0 k3)
          · next h2=>have k2:=iJ h2;exact Nat.le_trans k k2
          · next h2=>
            have k2:=iJ h2;split
            · trivial
            · next h0=>
              have k0:=iJ h0;split
              · exact Nat.le_trans (Nat.le_trans k k2) k0
              · split
                · trivial
                · next h3=>have k3:=iJ h3;exact Nat.le_trans (Nat.le_trans k k2) (Nat.le_trans k0 k3)
theorem Move.dL (h:w.drawn<=w'.drawn) {s:Move} (k:s.up w'):s.up w:=by
  cases s with
  | goroutine m i=>exact Nat.le_trans h k
  | machine s ops=>exact Stepped.dL h k
theorem Hd (p:Program) (m:Machine):(Go.ask p m).up m.world:=by
  unfold Go.ask;split
  · split
    · trivial
    · next h=>
      have k:=iJ h;split
      · next hl=>
        have k2:=A6 p m.gs m.rest ‹World›;rw [hl] at k2;exact Move.dL (Nat.le_trans k k2) (xL _ _)
      · exact Stepped.dL k (A6 _ _ _ _)
    · next h=>have k:=iJ h;exact Move.dL k (xL _ _)
  · exact xL _ _
theorem PR (p:Program) (m:Machine):(move p m).up m.world:=by
  unfold move;split
  · split
    · exact Nat.le_refl _
    · trivial
  · split
    · split
      · exact Nat.le_refl _
      · exact Hd p { m with rest:=_ }
    · exact Hd p m
theorem AK (p:Program) (m:Machine) (i:Nat) (listen:Bool):(Go.runT p m i listen).1.up m.world:=by
  unfold Go.runT;dsimp only;have h:=KE p (i==0) (m.gs.swapAt! i { (default:Goroutine) with status:=.finished }).1 m.world listen
  generalize stepG p (i==0) (m.gs.swapAt! i { (default:Goroutine) with status:=.finished }).1 m.world listen=s at h ⊢
  cases s with
  | ended o w es=>trivial
  | comm g cases DM shape w es=>exact Stepped.dL h (xC _ _ _ _ _ _ _ _ _)
  | go g w es=>exact h
  | spawn g child w es=>exact h
  | count g w es =>
    dsimp only;split
    · trivial
    · exact h
  | alone g on w es=>exact h
  | collect g w es=>exact Stepped.dL h (A6 _ _ _ _)
  | watch g w es=>exact h
  | newcoro g c d w es=>exact h
  | coroswitch g c exit w es =>
    dsimp only;split
    · exact h
    · exact h
    · trivial
  | timer g op w es =>
    dsimp only;split
    · next ht=>have k:=Eo ht;exact Nat.le_trans h (Nat.le_of_eq k.symm)
    · exact h
    · trivial
    · trivial
theorem OZ (p:Program) (m:Machine):(step p m).up m.world:=by
  unfold step stepT;have h:=PR p m;generalize move p m=v at h ⊢;cases v with
  | goroutine m' i=>exact Stepped.dL h (AK p m' i true)
  | machine s ops=>exact h
theorem Pg (p:Program) (n:Nat):∀ m:Machine,(runN p n m).up m.world:=by
  induction n with
  | zero=>intro m;exact Nat.le_refl _
  | succ n ih =>
    intro m;have h:=OZ p m;unfold runN;generalize step p m=s at h ⊢;cases s with
    | next m'=>exact Stepped.dL h (ih m')
    | ended o w=>trivial
theorem Steps.up {P:Program} {m m':Machine} (h:Steps P m m'):m.world.drawn<=m'.world.drawn:=by
  obtain ⟨n,hn⟩:=h;have k:=Pg P n m;rw [hn] at k;exact k
theorem Calls.up {P:Program} {f:FuncId} {args:Array Value} {w:World} {v:Value} {R:World->Prop}
    (h:Calls P f args w fun e w'=>e=.returned v/\R w'):Calls P f args w fun e w'=>e=.returned v/\R w'/\w.drawn<=w'.drawn:=by
  intro cs;obtain ⟨e,w',fr,⟨rfl,hR⟩,hc,hf,hl⟩:=h cs;exact ⟨_,w',fr,⟨rfl,hR,Steps.up hc⟩,hc,hf,hl⟩
end Go
namespace Go.Proofs.A1
open Go Go.SL
open Tryz
open Tryz renaming prog->T_
def oP (n:Int):ByteArray:=⟨#[UInt8.ofNat (48+n.toNat)]⟩
theorem YM:∀ i,i<=9->(⟨(Lib.decDigits i).toArray⟩:ByteArray)=⟨#[UInt8.ofNat (48+i)]⟩:=by
 intro i h
 match i,h with
 | 0,_=>simp [Lib.decDigits]
 | 1,_=>simp [Lib.decDigits]
 | 2,_=>simp [Lib.decDigits]
 | 3,_=>simp [Lib.decDigits]
 | 4,_=>simp [Lib.decDigits]
 | 5,_=>simp [Lib.decDigits]
 | 6,_=>simp [Lib.decDigits]
 | 7,_=>simp [Lib.decDigits]
 | 8,_=>simp [Lib.decDigits]
 | 9,_=>simp [Lib.decDigits]
theorem P2 (n:Int) (h0:0<=n) (h1:n<=9) (w:World):aj T_ 279 [.q n] w (.string (oP n)):=by
 obtain ⟨i,rfl⟩:∃ i:Nat,n=(i:Nat):=⟨n.toNat,by omega⟩;refine Calls.mono (internal_strconv_Itoa_small i (by omega) w) fun e w' ⟨he,hw⟩=>⟨?_,by rw [hw];exact .refl _ _⟩;rw [he,YM i (by omega)];unfold oP;rw [ZH]
theorem pA (n:Int) (h0:0<=n) (h1:n<=9) (w:World):aj T_ 193 [.q n] w (.string (oP n)):=by
 refine ah func193 I I ?_
 (refine Jr<|Ja I<|Ji<|Jv I<|ai bM I (fun w' aB=>(P2 n h0 h1 w'))<|Ja I<|Jn<|Je<|JT ?_)
 rfl
theorem LY (n:Int):(oP n).size=1:=rfl
def zF (l:List ByteArray) (sep:ByteArray):ByteArray:=⟨(Lib.join (l.map (·.data.toList)) sep.data.toList).toArray⟩
variable {a:ByteArray} {k:Nat} {l:List ByteArray} {r:Ro} {w:World}
theorem T9 {lv:Value} (sep:ByteArray) {w:World} (h:Rd w lv 1 (gi l)) (hl:l.length<=1000) (hlen:(Lib.join (l.map (·.data.toList)) sep.data.toList).length<=140737488355328) :
  aj T_ 278 [lv,.string sep] w (.string (zF l sep)):=by
 obtain ⟨a,cap,b,o,rfl,dd,bO,ha,hc⟩:=h;rw [bG] at *;cases l with
 | nil=>exact Calls.mono (strings_Join_none a cap sep w) fun e w' ⟨he,hw⟩=>⟨he,by rw [hw];exact .refl _ _⟩
 | cons x r =>
  have:=ha (by simp [gi]);subst this;have aC:∀ (j:Nat) y,(x::r)[j]? = some y->w.cell? ⟨b,o+j,none⟩=some (.string y):=fun j y hj=>by
   have:=(hc j [.string y] (by unfold gi;rw [ZE,hj];rfl)).2 0 _ I;simpa using this
  refine Calls.mono (Calls.up (strings_Join b o cap (x::r) sep w aC ?_ (by omega) dd hlen)) fun e w' ⟨he,hw,hd⟩=>⟨he,aJ.LA hw hd⟩;exact World.block_lt_of_cell? w _ (aC 0 x I)
theorem LX (l:List (List UInt8)) (sep:List UInt8) (n:Nat) (h:∀ x∈l,x.length<=n):(Lib.join l sep).length<=l.length*(n+sep.length):=by
 cases l with
 | nil=>simp [Lib.join]
 | cons x r =>
  have key:∀ (r:List (List UInt8)),(∀ y∈r,y.length<=n)->(Lib.joinTail sep r).length<=r.length*(n+sep.length):=by
   intro r
   induction r with
   | nil=>intro _;simp [Lib.joinTail]
   | cons y r ih =>
    intro hy;have h1:=hy y (by simp);have h2:=ih fun z hz=>hy z (by simp [hz])
    simp only [Lib.joinTail,Z3,ZaB,Zg,ZA,Zai] at h2 ⊢;omega
  rw [Lib.join_cons,Zg,ZA,Zai];have h1:=h x (by simp);have h2:=key r fun z hz=>h z (by simp [hz])
  omega
def RZ (l:List ByteArray):ByteArray:=zF l ⟨#[32]⟩++⟨#[10]⟩
theorem zD (h4:l.length<=4) (h:∀ x∈l,x.size<=24):(Lib.join (l.map (·.data.toList)) [32]).length<=100:=by
 have:=LX (l.map (·.data.toList)) [32] 24 (by
  intro x hx;obtain ⟨y,hy,rfl⟩:=Zx.1 hx;have:=h y hy;rw [ZaP];exact this)
 rw [Zd] at this;have h2:([32]:List UInt8).length=1:=rfl;rw [h2] at this;omega
theorem wW (h4:l.length<=4) (h:∀ x∈l,x.size<=24):(zF l ⟨#[32]⟩).size<=100:=by
 have:=zD h4 h;unfold zF;show Array.size _<=100;rw [Zbn];exact this
theorem iw (h4:l.length<=4) (h:∀ x∈l,x.size<=24):(RZ l).size<=101:=by
 have:=wW h4 h;unfold RZ;rw [ByteArray.size_append];have:ByteArray.size ⟨#[10]⟩=1:=rfl;omega
theorem tL {v:Value} (h:Rd w v 1 (gi l)) (h4:l.length<=4) (hs:∀ x∈l,x.size<=24):aj T_ 192 [v] w (.string (RZ l)):=by
 have hj:∀ w',aJ [] w w'->aj T_ 278 [v,.string ⟨#[32]⟩] w' (.string (zF l ⟨#[32]⟩)):=fun w' hk=>T9 (l:=l) ⟨#[32]⟩ (h.keeps hk) (by omega) (ZQ (zD h4 hs) (by decide))
 have hz:=wW h4 hs;have h1:ByteArray.size ⟨#[10]⟩=1:=rfl;have hb:(zF l ⟨#[32]⟩).size+ByteArray.size ⟨#[10]⟩<=9223372036854775807:=by omega
 refine ah func192 I I ?_
 (refine Jr<|Ja I<|Ji<|Jv I<|ai bb I (fun w' aB=>(hj w' (Mem.keeps aB)))<|ab (tE (.of I) (.of I) hb) I<|Ja I<|Jn<|Je<|JT ?_)
 rfl
def Fh:List Value:=[.string ⟨#[114,111,117,116,101,114]⟩,.func (.func 271) #[] #[],.string ⟨#[115,111,117,114,99,101]⟩,.func (.func 273) #[] #[],.string ⟨#[100,101,115,116,105,110,97,116,105,111,110]⟩,.func (.func 275) #[] #[],.string ⟨#[116,105,101]⟩,.func (.func 276) #[] #[],.string ⟨#[112,111,105,110,116]⟩,.func (.func 277) #[] #[]]
theorem QP (w:World):aj T_ 191 [] w (.agg Fh.toArray):=by
 unfold Fh;refine ah func191 I I ?_
 (refine Jr<|Jz I I fun _ _=>Ji<|ab (aU (.o I (.o I .nil)) ak) I<|ab (aU (.o I (.o I .nil)) ak) I<|ab (aU (.o I (.o I .nil)) ak) I<|ab (aU (.o I (.o I .nil)) ak) I<|ab (aU (.o I (.o I .nil)) ak) I<|ab (aU (.o I (.o I (.o I (.o I (.o I .nil))))) ak) I<|ao (.of I) (.of I) .here I I (bR I (bR I (aab I I I I I I I I))) (bz I) ak<|Jn<|Je<|qe I (iK I inferInstance I .here ak (by rfl)) ?_)
 rfl
def wR:ByteArray:=⟨#[114,111,117,116,101,114]⟩
def wS:ByteArray:=⟨#[115,111,117,114,99,101]⟩
def wD:ByteArray:=⟨#[100,101,115,116,105,110,97,116,105,111,110]⟩
def wT:ByteArray:=⟨#[116,105,101]⟩
def wP:ByteArray:=⟨#[112,111,105,110,116]⟩
def J6:ByteArray:=⟨#[102,114,101,101]⟩
def J5:ByteArray:=⟨#[112,114,111,116,101,99,116,101,100]⟩
def ln0 (r:Ro):ByteArray:=RZ [wR,oP r.lv,oP r.ma]
def PY (x:Sr):ByteArray:=RZ [wS,x.nm,oP x.mx]
def stD (b:Bool):ByteArray:=if b=true then J5 else J6
def N6 (x:De):ByteArray:=RZ [wD,x.nm,oP x.mx,stD x.pr]
def PX (x:Ti):ByteArray:=RZ [wT,x.nm,oP x.fr,oP x.to]
def VT (x:Po):ByteArray:=RZ [wP,oP x.lv,x.ou,x.ip]
def nF (a:ByteArray) (l:List ByteArray):ByteArray:=l.foldl (fun a b=>a++b) a
theorem qA {α:Type} {f:α->ByteArray} {l:List α} (h:k<l.length):nF a ((l.take (k+1)).map f)=nF a ((l.take k).map f)++f l[k]:=by
 unfold nF;rw [Zl h,Zv,List.foldl_append];rfl
theorem nE {n:Nat}:∀ {l:List ByteArray} {a:ByteArray},(∀ x∈l,x.size<=n)->(nF a l).size<=a.size+n*l.length
 | [],a,_=>Zy _
 | x :: l, a, h => by
  have:=nE (l:=l) (a:=a++x) fun y hy=>h y (ZM _ hy)
  rw [ByteArray.size_append] at this;have h1:=h x Zu;show (nF (a++x) l).size<=_;rw [ZA,Nat.mul_succ];omega
theorem qB {n:Nat} {α:Type} {f:α->ByteArray} {l:List α} (hn:∀ x∈l,(f x).size<=n):(nF a ((l.take k).map f)).size<=a.size+n*l.length:=by
 have:=nE (n:=n) (a:=a) (l:=(l.take k).map f) (by
  intro x hx;obtain ⟨y,hy,rfl⟩:=Zx.1 hx;exact hn y (ZaM hy))
 rw [Zd,Zs] at this;have:n*min k l.length<=n*l.length:=Zbd _ (Nat.min_le_right _ _);omega
def prB (r:Ro):ByteArray:=nF (nF (nF (nF (ln0 r) (r.sr.map PY)) (r.de.map N6)) (r.ti.map PX)) (r.po.map VT)
def Lg (r:Ro):ByteArray:=if gy r=0 then prB r else ⟨#[]⟩
theorem PN {s:ByteArray} (h:kR s=true):s.size<=24:=by
 unfold kR at h;simp only [Zm,decide_eq_true_eq] at h;exact h.1.1.2
structure Prn (r:Ro):Prop where
 n0:(0<=r.lv/\r.lv<=9)/\0<=r.ma/\r.ma<=9
 sr:∀ x∈r.sr,x.nm.size<=24/\0<=x.mx/\x.mx<=9
 de:∀ x∈r.de,x.nm.size<=24/\0<=x.mx/\x.mx<=9
 ti:∀ x∈r.ti,x.nm.size<=24/\(0<=x.fr/\x.fr<=9)/\0<=x.to/\x.to<=9
 po:∀ x∈r.po,(x.ou.size<=24/\x.ip.size<=24)/\0<=x.lv/\x.lv<=9
 len:(r.sr.length<=8/\r.de.length<=8/\r.ti.length<=6)/\r.po.length<=42
theorem prn (h:gy r=0):Prn r:=by
 have ho:=A2 h;have hp:=prt (ue h).2.1;have hl:=ho.lim;have na:∀ s∈eL r,s.size<=24:=fun s hs=>PN (hp.nm s hs)
 have n1:∀ s∈cK r,s.size<=24:=fun s hs=>na s (ZF _ (ZF _ hs))
 have n2:∀ s∈cE r,s.size<=24:=fun s hs=>na s (ZF _ (ZU _ hs))
 have n3:∀ s∈cQ r,s.size<=24:=fun s hs=>na s (ZU _ hs)
 refine ⟨by omega,fun x hx=>?_,fun x hx=>?_,fun x hx=>?_,fun x hx=>?_,hp.len,lx ho ho.val⟩
 ·have:=ho.sm x hx;exact ⟨n1 _ (ZY hx),by omega,by omega⟩
 ·have:=ho.dm x hx;exact ⟨n2 _ (ZY hx),by omega,by omega⟩
 ·have:=ho.tm x hx;exact ⟨n3 _ (ZY hx),by omega,by omega⟩
 ·have:=ho.val.LS x hx;exact ⟨⟨(ho.val.out x hx).elim (n2 _) (n3 _),(ho.val.xX x hx).elim (n1 _) (n3 _)⟩,by omega,by omega⟩
theorem tK {a b c:ByteArray} (ha:a.size<=24) (hb:b.size<=24) (hc:c.size<=24):∀ x∈[a,b,c],x.size<=24:=by
 intro x hx;simp only [ZS,Zo,or_false] at hx;rcases hx with rfl | rfl | rfl <;> assumption
theorem jJ {a b c d:ByteArray} (ha:a.size<=24) (hb:b.size<=24) (hc:c.size<=24) (hd:d.size<=24):∀ x∈[a,b,c,d],x.size<=24:=by
 intro x hx;simp only [ZS,Zo,or_false] at hx;rcases hx with rfl | rfl | rfl | rfl <;> assumption
theorem fP (n:Int):(oP n).size<=24:=by rw [LY];decide
theorem Es (b:Bool):(stD b).size<=24:=by cases b <;> decide
theorem Rv {s d t p:Value} (h:RR w r s d t p) (cZ:nk r):aj T_ 85 [RA r s d t p] w (.tuple #[.string (Lg r),.q (gy r)]):=by
 obtain ⟨h1,h2,h3,h4⟩:=h.one;have gr:∀ w',aJ [] w w'->aj T_ 34 [.agg #[.int .i64 r.lv,.int .i64 r.ma,s,d,t,p]] w' (.int .i64 (gy r)):=fun w' hk=>fj (h.keeps hk) cZ
 have Db:=h.sr;have Dn:=h.de;have yt:=h.ti;have E7:=h.po;obtain ⟨a1,eo,I7,IU,rfl,oC,ix,mm,kL⟩:=Db;obtain ⟨a2,c6,I6,IT,rfl,kd,eU,jV,ke⟩:=Dn;obtain ⟨a3,dT,Ha,Gp,rfl,mP,gF,rN,oR⟩:=yt;obtain ⟨a4,eW,Ol,IS,rfl,qT,jE,zM,tR⟩:=E7;rw [cy] at *;rw [cd] at *;rw [bV] at *;rw [cR] at *;unfold maxLen at ix eU gF jE;unfold RA;refine ah func85 I I ?_
 (refine Jr<|Jy I I fun _ _=>Ja I<|Ja I<|Jn<|Jq<|Jr<|ab (cm .here) I<|ai bM I (fun w' aB=>(gr w' (Mem.keeps aB)))<|Ja I<|Ji<|Jv I<|JD I<|Jn<|gm I (fun az=>?_) fun az=>?_;refine Jr<|Jv I<|Ja I<|Ja I<|Jn<|Ju<|qe I (gH I I I) ?_;rotate_left;refine Jk<|Jr<|ai mj I (fun w' aB=>(QP w'))<|Jz I I fun _ _=>ao (.of I) (.of I) .here I I (bR I (bR I (aab I I I I I I I I))) (bz I) ak<|Jn<|Jq ?_;rotate_right)
 ·unfold Lg;rw [if_neg az]
 have h0:gy r=0:=Zp.1 az;have hN:=prn h0;have e0:Lg r=prB r:=if_pos h0;rw [e0,h0];unfold Fh
 skip
 try simp only [setCells,List.set_cons_zero,List.set_cons_succ]
 have q1:=hN.n0
 with_reducible refine dE 12 (by kernel_rfl) ?_
 (refine au (fun β=>(iB (.of I) (.of I) (by omega) (by omega) aW)) bh I<|au (fun β=>(aq (.of I) ae)) bh I<|au (fun β=>(ag (.of I) (At.lit .here I))) bh I<|au (fun β=>(aq (.of I) ae)) bh I<|au (fun β=>(ag (.of I) (At.lit (.there .here) I))) bh I ?_)
 dsimp only [Nat.zero_add,Nat.reduceAdd]
 with_reducible apply dq (B:=[]) (F:=fun _=>.string (oP r.lv)) (args:=fun _=>[.q r.lv])
 case hB=>rfl
 case hr=>exact fun β=>a7 (.of I) (.o I .nil) inferInstance I
 case hi=>exact bh
 case hd=>rfl
 case hc=>exact fun β w' dK=>pA _ (by omega) (by omega) _
 dsimp only [Nat.reduceAdd]
 (refine au (fun β=>(aq (.of I) ae)) bh I<|au (fun β=>(ag (.of I) (At.lit (.there .here) I))) bh I ?_)
 dsimp only [Nat.zero_add,Nat.reduceAdd]
 with_reducible apply dq (B:=[]) (F:=fun _=>.string (oP r.ma)) (args:=fun _=>[.q r.ma])
 case hB=>rfl
 case hr=>exact fun β=>a7 (.of I) (.o I .nil) inferInstance I
 case hi=>exact bh
 case hd=>rfl
 case hc=>exact fun β w' dK=>pA _ (by omega) (by omega) _
 dsimp only [Nat.reduceAdd]
 skip
 refine kE (fun β=>(aG (.o I (.o I (.o I .nil))) I I I I)) (fun _ _ _=>rfl) I ?_;dsimp only [Nat.zero_add,Nat.reduceAdd]
 with_reducible apply dq (B:=[9]) (F:=fun _=>.string (ln0 r)) (args:=fun β=>[.slice (some ⟨fu (β 9),0,none⟩) 3 3])
 case hB=>kernel_rfl
 case hr=>exact fun β=>a7 (.of I) (.o I .nil) inferInstance I
 case hi=>exact bh
 case hd=>rfl
 case hc=>
  intro β w' dK;have mK:=dK.at 9 Zu (s:=⟨fun β=>.slice (some ⟨fu (β 9),0,none⟩) 3 3,fun β=>[bE (fu (β 9)) (.cells #[.string wR,.string (oP r.lv),.string (oP r.ma)] 9)]⟩) (by kernel_rfl)
  dsimp only [Zb,Za] at mK;exact tL (l:=[wR,oP r.lv,oP r.ma]) (Mem.dz mK (by exact .here) I I) (by simp) (tK (by decide) (fP _) (fP _))
 dsimp only [Nat.reduceAdd];refine au (fun β=>(cM (.of I))) bh I ?_;refine eS fun β=>?_;dsimp only [dY,Za,Zb,List.append_eq,Nat.reduceAdd]
 with_reducible refine cu (by kernel_rfl) ?_
 (refine Jt<|Jq<|Jr<|bJ I I ae<|JL I bL I<|JI I<|Jv I<|Jn<|J0 ?_)
 rename_i b1 tT b5 Ia;generalize fu (β 9)=b9;clear β;have hA:(ln0 r).size<=101:=iw (by simp) (tK (by decide) (fP _) (fP _));unfold prB;generalize ln0 r=A at hA ⊢;refine aV (ι:=Nat×ByteArray) (fun y=>y.1<=r.sr.length/\y.2=nF A ((r.sr.take y.1).map PY)) (fun y=>[(36,.q (y.1:Nat)),(35,.q r.sr.length),(34,.slice a1 r.sr.length eo),(6,.string y.2),(5,.p b5),(1,.p b1)]) (fun _=>[bE b5 (.cells #[.string ⟨#[114,111,117,116,101,114]⟩,.func (.func 271) #[] #[],.string ⟨#[115,111,117,114,99,101]⟩,.func (.func 273) #[] #[],.string ⟨#[100,101,115,116,105,110,97,116,105,111,110]⟩,.func (.func 275) #[] #[],.string ⟨#[116,105,101]⟩,.func (.func 276) #[] #[],.string ⟨#[112,111,105,110,116]⟩,.func (.func 277) #[] #[]] 265 (0,0)),JP b1 r (.slice a1 r.sr.length eo) (.slice a2 r.de.length c6) (.slice a3 r.ti.length dT) (.slice a4 r.po.length eW)]) (fun y=>r.sr.length-y.1) ?_ ?_
 ·apply aI (0,A) ⟨Zi _,I⟩
  case hs1=>exact bS
  case ht=>
   exact .cons (.there .here) (.cons (.there .here) .nil)
 rintro ⟨k,S⟩ ⟨hk,hS⟩;dsimp only at hk hS ⊢;by_cases aK:k<r.sr.length
 ·have cq:=mm (iF aK);have aC:=(kL k _ (fZ aK)).2;have hx:=hN.sr _ (Zj aK);have gQ:=qA (a:=A) (f:=PY) aK;rw [<- hS] at gQ;unfold Sr.cells at aC;generalize r.sr[k]=x at aC hx gQ;have hz:(PY x).size<=101:=iw (by simp) (tK (by decide) hx.1 (fP _));have U2:S.size<=A.size+101*r.sr.length:=by rw [hS];exact qB fun y hy=>iw (by simp) (tK (by decide) (hN.sr y hy).1 (fP _))
  have hl9:=hN.len;have hb:S.size+(PY x).size<=9223372036854775807:=by omega
  (refine Jr<|JA I<|Jn<|Jq<|Jd I fun az=>Jk<|Jq<|J0<|Jr<|ab (fT cq az) I<|ab (iO (eZ.base aC I)) I<|Jz I I fun _ _=>ao (.of I) (.of I) .here I I (gO I I) (bz I) ak<|Jn ?_)
  with_reducible refine dE 13 (by kernel_rfl) ?_
  (refine au (fun β=>(aP (.of I))) bh I<|au (fun β=>(iB (.of I) (.of I) (by omega) (by omega) aW)) bh I<|au (fun β=>(aq (.of I) ae)) bh I<|au (fun β=>(ag (.of I) (At.lit (.there .here) I))) bh I<|au (fun β=>(aq (.of I) ae)) bh I<|au (fun β=>(ag (.of I) (At.lit .here I))) bh I<|au (fun β=>(aq (.of I) ae)) bh I<|au (fun β=>(ag (.of I) (At.lit .here I))) bh I ?_)
  dsimp only [Nat.zero_add,Nat.reduceAdd]
  with_reducible apply dq (B:=[]) (F:=fun _=>.string (oP x.mx)) (args:=fun _=>[.q x.mx])
  case hB=>rfl
  case hr=>exact fun β=>a7 (.of I) (.o I .nil) inferInstance I
  case hi=>exact bh
  case hd=>rfl
  case hc=>exact fun β w' dK=>pA _ (by omega) (by omega) _
  dsimp only [Nat.reduceAdd]
  skip
  refine kE (fun β=>(aG (.o I (.o I (.o I .nil))) I I I I)) (fun _ _ _=>rfl) I ?_;dsimp only [Nat.zero_add,Nat.reduceAdd]
  with_reducible apply dq (B:=[9]) (F:=fun _=>.string (PY x)) (args:=fun β=>[.slice (some ⟨fu (β 9),0,none⟩) 3 3])
  case hB=>kernel_rfl
  case hr=>exact fun β=>a7 (.of I) (.o I .nil) inferInstance I
  case hi=>exact bh
  case hd=>rfl
  case hc=>
   intro β w' dK;have mK:=dK.at 9 Zu (s:=⟨fun β=>.slice (some ⟨fu (β 9),0,none⟩) 3 3,fun β=>[bE (fu (β 9)) (.cells #[.string wS,.string x.nm,.string (oP x.mx)] 9)]⟩) (by kernel_rfl)
   dsimp only [Zb,Za] at mK;exact tL (l:=[wS,x.nm,oP x.mx]) (Mem.dz mK (by exact .here) I I) (by simp) (tK (by decide) hx.1 (fP _))
  dsimp only [Nat.reduceAdd]
  (refine au (fun β=>(tE (.of I) (.of I) hb)) bh I<|au (fun β=>(cM (.of I))) bh I ?_)
  refine eS fun β=>?_;dsimp only [dY,Za,Zb,List.append_eq,Nat.reduceAdd]
  with_reducible refine cu (by kernel_rfl) ?_
  refine Jj<|Jt<|Jg<|JB I (by omega)<|Jv I<|Jn ?_;apply aH (k+1,_) (show _/\_ from ⟨by omega,gQ.symm⟩) (show r.sr.length-(k+1)<r.sr.length-k by omega)
  case hs1=>exact bS
  case ht=>
   exact .cons bL (.cons bL .nil)
 obtain rfl:k=r.sr.length:=by omega
 rw [ZK] at hS;subst hS;have hA:(nF A (r.sr.map PY)).size<=909:=by
  have:=nE (n:=101) (a:=A) (l:=r.sr.map PY) (by
   intro x hx;obtain ⟨y,hy,rfl⟩:=Zx.1 hx;exact iw (by simp) (tK (by decide) (hN.sr y hy).1 (fP _)))
  rw [Zd] at this;have:=hN.len;omega
 generalize nF A (r.sr.map PY)=A at hA ⊢;clear aK hk
 (refine Jr<|JA I<|Jn<|Jq<|Jc I fun az=>Jp<|Jl<|Jo<|Jt<|Jq<|Jr<|bJ I I ae<|JL I (.there .here) I<|JI I<|Jv I<|Jn<|J0 ?_)
 refine aV (ι:=Nat×ByteArray) (fun y=>y.1<=r.de.length/\y.2=nF A ((r.de.take y.1).map N6)) (fun y=>[(56,.q (y.1:Nat)),(55,.q r.de.length),(54,.slice a2 r.de.length c6),(6,.string y.2),(5,.p b5),(1,.p b1)]) (fun _=>[bE b5 (.cells #[.string ⟨#[114,111,117,116,101,114]⟩,.func (.func 271) #[] #[],.string ⟨#[115,111,117,114,99,101]⟩,.func (.func 273) #[] #[],.string ⟨#[100,101,115,116,105,110,97,116,105,111,110]⟩,.func (.func 275) #[] #[],.string ⟨#[116,105,101]⟩,.func (.func 276) #[] #[],.string ⟨#[112,111,105,110,116]⟩,.func (.func 277) #[] #[]] 265 (0,0)),JP b1 r (.slice a1 r.sr.length eo) (.slice a2 r.de.length c6) (.slice a3 r.ti.length dT) (.slice a4 r.po.length eW)]) (fun y=>r.de.length-y.1) ?_ ?_
 ·apply aI (0,A) ⟨Zi _,I⟩
  case hs1=>exact bS
  case ht=>
   exact .h2 .nil
 rintro ⟨k,S⟩ ⟨hk,hS⟩;dsimp only at hk hS ⊢;by_cases aK:k<r.de.length
 ·have cq:=jV (iq aK);have aC:=(ke k _ (fR aK)).2;have hx:=hN.de _ (Zj aK);have gQ:=qA (a:=A) (f:=N6) aK;rw [<- hS] at gQ;unfold De.cells at aC;generalize r.de[k]=x at aC hx gQ;have hz:(N6 x).size<=101:=iw (by simp) (jJ (by decide) hx.1 (fP _) (Es _));have U2:S.size<=A.size+101*r.de.length:=by rw [hS];exact qB fun y hy=>iw (by simp) (jJ (by decide) (hN.de y hy).1 (fP _) (Es _))
  have hl9:=hN.len;have hb:S.size+(N6 x).size<=9223372036854775807:=by omega
  clear hz U2 hl9;obtain ⟨xn,xm,xp⟩:=x;dsimp only at aC hx gQ hb ⊢;cases xp
  ·(refine Jr<|JA I<|Jn<|Jq<|Jd I fun az=>Jk<|Jq<|J0<|Jr<|ab (fT cq az) I<|ab (iO (eZ.base aC I)) I<|Jz I I fun _ _=>ao (.of I) (.of I) .here I I (fx I I I) (bz I) ak<|Ji<|Ja I<|Jn<|Jq<|Jr<|bJ I I ae<|JL I .here I<|Jn<|ch (.of I)<|Jk ?_)
   with_reducible refine dE 14 (by kernel_rfl) ?_
   (refine au (fun β=>(aP (.of I))) bh I<|au (fun β=>(iB (.of I) (.of I) (by omega) (by omega) aW)) bh I<|au (fun β=>(aq (.of I) ae)) bh I<|au (fun β=>(ag (.of I) (At.lit (.there .here) I))) bh I<|au (fun β=>(aq (.of I) ae)) bh I<|au (fun β=>(ag (.of I) (At.lit .here I))) bh I<|au (fun β=>(aq (.of I) ae)) bh I<|au (fun β=>(ag (.of I) (At.lit .here I))) bh I ?_)
   dsimp only [Nat.zero_add,Nat.reduceAdd]
   with_reducible apply dq (B:=[]) (F:=fun _=>.string (oP xm)) (args:=fun _=>[.q xm])
   case hB=>rfl
   case hr=>exact fun β=>a7 (.of I) (.o I .nil) inferInstance I
   case hi=>exact bh
   case hd=>rfl
   case hc=>exact fun β w' dK=>pA _ (by omega) (by omega) _
   dsimp only [Nat.reduceAdd];refine au (fun β=>(aP (.of I))) bh I ?_;refine kE (fun β=>(aG (.o I (.o I (.o I (.o I .nil)))) I I I I)) (fun _ _ _=>rfl) I ?_;dsimp only [Nat.zero_add,Nat.reduceAdd]
   with_reducible apply dq (B:=[10]) (F:=fun _=>.string (N6 ⟨xn,xm,false⟩)) (args:=fun β=>[.slice (some ⟨fu (β 10),0,none⟩) 4 4])
   case hB=>kernel_rfl
   case hr=>exact fun β=>a7 (.of I) (.o I .nil) inferInstance I
   case hi=>exact bh
   case hd=>rfl
   case hc=>
    intro β w' dK;have mK:=dK.at 10 Zu (s:=⟨fun β=>.slice (some ⟨fu (β 10),0,none⟩) 4 4,fun β=>[bE (fu (β 10)) (.cells #[.string wD,.string xn,.string (oP xm),.string J6] 9)]⟩) (by kernel_rfl)
    dsimp only [Zb,Za] at mK;exact tL (l:=[wD,xn,oP xm,J6]) (Mem.dz mK (by exact .here) I I) (by simp) (jJ (by decide) hx.1 (fP _) (by decide))
   dsimp only [Nat.reduceAdd]
   (refine au (fun β=>(tE (.of I) (.of I) hb)) bh I<|au (fun β=>(cM (.of I))) bh I ?_)
   refine eS fun β=>?_;dsimp only [dY,Za,Zb,List.append_eq,Nat.reduceAdd]
   with_reducible refine cu (by kernel_rfl) ?_
   refine Jj<|Jt<|Jg<|JB I (by omega)<|Jv I<|Jn ?_;apply aH (k+1,_) (show _/\_ from ⟨by omega,gQ.symm⟩) (show r.de.length-(k+1)<r.de.length-k by omega)
   case hs1=>exact bS
   case ht=>
    exact .cons bL (.cons bL .nil)
  ·(refine Jr<|JA I<|Jn<|Jq<|Jd I fun az=>Jk<|Jq<|J0<|Jr<|ab (fT cq az) I<|ab (iO (eZ.base aC I)) I<|Jz I I fun _ _=>ao (.of I) (.of I) .here I I (fx I I I) (bz I) ak<|Ji<|Ja I<|Jn<|Jq<|Jr<|bJ I I ae<|JL I .here I<|Jn<|cW (.of I)<|Jg<|Ja I<|Jn ?_)
   with_reducible refine dE 14 (by kernel_rfl) ?_
   (refine au (fun β=>(aP (.of I))) bh I<|au (fun β=>(iB (.of I) (.of I) (by omega) (by omega) aW)) bh I<|au (fun β=>(aq (.of I) ae)) bh I<|au (fun β=>(ag (.of I) (At.lit (.there .here) I))) bh I<|au (fun β=>(aq (.of I) ae)) bh I<|au (fun β=>(ag (.of I) (At.lit .here I))) bh I<|au (fun β=>(aq (.of I) ae)) bh I<|au (fun β=>(ag (.of I) (At.lit .here I))) bh I ?_)
   dsimp only [Nat.zero_add,Nat.reduceAdd]
   with_reducible apply dq (B:=[]) (F:=fun _=>.string (oP xm)) (args:=fun _=>[.q xm])
   case hB=>rfl
   case hr=>exact fun β=>a7 (.of I) (.o I .nil) inferInstance I
   case hi=>exact bh
   case hd=>rfl
   case hc=>exact fun β w' dK=>pA _ (by omega) (by omega) _
   dsimp only [Nat.reduceAdd];refine au (fun β=>(aP (.of I))) bh I ?_;refine kE (fun β=>(aG (.o I (.o I (.o I (.o I .nil)))) I I I I)) (fun _ _ _=>rfl) I ?_;dsimp only [Nat.zero_add,Nat.reduceAdd]
   with_reducible apply dq (B:=[10]) (F:=fun _=>.string (N6 ⟨xn,xm,true⟩)) (args:=fun β=>[.slice (some ⟨fu (β 10),0,none⟩) 4 4])
   case hB=>kernel_rfl
   case hr=>exact fun β=>a7 (.of I) (.o I .nil) inferInstance I
   case hi=>exact bh
   case hd=>rfl
   case hc=>
    intro β w' dK;have mK:=dK.at 10 Zu (s:=⟨fun β=>.slice (some ⟨fu (β 10),0,none⟩) 4 4,fun β=>[bE (fu (β 10)) (.cells #[.string wD,.string xn,.string (oP xm),.string J5] 9)]⟩) (by kernel_rfl)
    dsimp only [Zb,Za] at mK;exact tL (l:=[wD,xn,oP xm,J5]) (Mem.dz mK (by exact .here) I I) (by simp) (jJ (by decide) hx.1 (fP _) (by decide))
   dsimp only [Nat.reduceAdd]
   (refine au (fun β=>(tE (.of I) (.of I) hb)) bh I<|au (fun β=>(cM (.of I))) bh I ?_)
   refine eS fun β=>?_;dsimp only [dY,Za,Zb,List.append_eq,Nat.reduceAdd]
   with_reducible refine cu (by kernel_rfl) ?_
   refine Jj<|Jt<|Jg<|JB I (by omega)<|Jv I<|Jn ?_;apply aH (k+1,_) (show _/\_ from ⟨by omega,gQ.symm⟩) (show r.de.length-(k+1)<r.de.length-k by omega)
   case hs1=>exact bS
   case ht=>
    exact .cons bL (.cons bL .nil)
 obtain rfl:k=r.de.length:=by omega
 rw [ZK] at hS;subst hS;have hA:(nF A (r.de.map N6)).size<=1717:=by
  have:=nE (n:=101) (a:=A) (l:=r.de.map N6) (by
   intro x hx;obtain ⟨y,hy,rfl⟩:=Zx.1 hx;exact iw (by simp) (jJ (by decide) (hN.de y hy).1 (fP _) (Es _)))
  rw [Zd] at this;have:=hN.len;omega
 generalize nF A (r.de.map N6)=A at hA ⊢;clear aK hk
 (refine Jr<|JA I<|Jn<|Jq<|Jc I fun az=>Jp<|Jl<|Jo<|Jt<|Jq<|Jr<|bJ I I ae<|JL I (.there .here) I<|JI I<|Jv I<|Jn<|J0 ?_)
 refine aV (ι:=Nat×ByteArray) (fun y=>y.1<=r.ti.length/\y.2=nF A ((r.ti.take y.1).map PX)) (fun y=>[(79,.q (y.1:Nat)),(78,.q r.ti.length),(77,.slice a3 r.ti.length dT),(6,.string y.2),(5,.p b5),(1,.p b1)]) (fun _=>[bE b5 (.cells #[.string ⟨#[114,111,117,116,101,114]⟩,.func (.func 271) #[] #[],.string ⟨#[115,111,117,114,99,101]⟩,.func (.func 273) #[] #[],.string ⟨#[100,101,115,116,105,110,97,116,105,111,110]⟩,.func (.func 275) #[] #[],.string ⟨#[116,105,101]⟩,.func (.func 276) #[] #[],.string ⟨#[112,111,105,110,116]⟩,.func (.func 277) #[] #[]] 265 (0,0)),JP b1 r (.slice a1 r.sr.length eo) (.slice a2 r.de.length c6) (.slice a3 r.ti.length dT) (.slice a4 r.po.length eW)]) (fun y=>r.ti.length-y.1) ?_ ?_
 ·apply aI (0,A) ⟨Zi _,I⟩
  case hs1=>exact bS
  case ht=>
   exact .h2 .nil
 rintro ⟨k,S⟩ ⟨hk,hS⟩;dsimp only at hk hS ⊢;by_cases aK:k<r.ti.length
 ·have cq:=rN (fm aK);have aC:=(oR k _ (ei aK)).2;have hx:=hN.ti _ (Zj aK);have gQ:=qA (a:=A) (f:=PX) aK;rw [<- hS] at gQ;unfold Ti.cells at aC;generalize r.ti[k]=x at aC hx gQ;have hz:(PX x).size<=101:=iw (by simp) (jJ (by decide) hx.1 (fP _) (fP _));have U2:S.size<=A.size+101*r.ti.length:=by rw [hS];exact qB fun y hy=>iw (by simp) (jJ (by decide) (hN.ti y hy).1 (fP _) (fP _))
  have hl9:=hN.len;have hb:S.size+(PX x).size<=9223372036854775807:=by omega
  (refine Jr<|JA I<|Jn<|Jq<|Jd I fun az=>Jk<|Jq<|J0<|Jr<|ab (fT cq az) I<|ab (iO (eZ.base aC I)) I<|Jz I I fun _ _=>ao (.of I) (.of I) .here I I (fx I I I) (bz I) ak<|Jn ?_)
  with_reducible refine dE 16 (by kernel_rfl) ?_
  (refine au (fun β=>(aP (.of I))) bh I<|au (fun β=>(iB (.of I) (.of I) (by omega) (by omega) aW)) bh I<|au (fun β=>(aq (.of I) ae)) bh I<|au (fun β=>(ag (.of I) (At.lit (.there .here) I))) bh I<|au (fun β=>(aq (.of I) ae)) bh I<|au (fun β=>(ag (.of I) (At.lit .here I))) bh I<|au (fun β=>(aq (.of I) ae)) bh I<|au (fun β=>(ag (.of I) (At.lit .here I))) bh I ?_)
  dsimp only [Nat.zero_add,Nat.reduceAdd]
  with_reducible apply dq (B:=[]) (F:=fun _=>.string (oP x.fr)) (args:=fun _=>[.q x.fr])
  case hB=>rfl
  case hr=>exact fun β=>a7 (.of I) (.o I .nil) inferInstance I
  case hi=>exact bh
  case hd=>rfl
  case hc=>exact fun β w' dK=>pA _ (by omega) (by omega) _
  dsimp only [Nat.reduceAdd]
  (refine au (fun β=>(aq (.of I) ae)) bh I<|au (fun β=>(ag (.of I) (At.lit .here I))) bh I ?_)
  dsimp only [Nat.zero_add,Nat.reduceAdd]
  with_reducible apply dq (B:=[]) (F:=fun _=>.string (oP x.to)) (args:=fun _=>[.q x.to])
  case hB=>rfl
  case hr=>exact fun β=>a7 (.of I) (.o I .nil) inferInstance I
  case hi=>exact bh
  case hd=>rfl
  case hc=>exact fun β w' dK=>pA _ (by omega) (by omega) _
  dsimp only [Nat.reduceAdd]
  skip
  refine kE (fun β=>(aG (.o I (.o I (.o I (.o I .nil)))) I I I I)) (fun _ _ _=>rfl) I ?_;dsimp only [Nat.zero_add,Nat.reduceAdd]
  with_reducible apply dq (B:=[12]) (F:=fun _=>.string (PX x)) (args:=fun β=>[.slice (some ⟨fu (β 12),0,none⟩) 4 4])
  case hB=>kernel_rfl
  case hr=>exact fun β=>a7 (.of I) (.o I .nil) inferInstance I
  case hi=>exact bh
  case hd=>rfl
  case hc=>
   intro β w' dK;have mK:=dK.at 12 Zu (s:=⟨fun β=>.slice (some ⟨fu (β 12),0,none⟩) 4 4,fun β=>[bE (fu (β 12)) (.cells #[.string wT,.string x.nm,.string (oP x.fr),.string (oP x.to)] 9)]⟩) (by kernel_rfl)
   dsimp only [Zb,Za] at mK;exact tL (l:=[wT,x.nm,oP x.fr,oP x.to]) (Mem.dz mK (by exact .here) I I) (by simp) (jJ (by decide) hx.1 (fP _) (fP _))
  dsimp only [Nat.reduceAdd]
  (refine au (fun β=>(tE (.of I) (.of I) hb)) bh I<|au (fun β=>(cM (.of I))) bh I ?_)
  refine eS fun β=>?_;dsimp only [dY,Za,Zb,List.append_eq,Nat.reduceAdd]
  with_reducible refine cu (by kernel_rfl) ?_
  refine Jj<|Jt<|Jg<|JB I (by omega)<|Jv I<|Jn ?_;apply aH (k+1,_) (show _/\_ from ⟨by omega,gQ.symm⟩) (show r.ti.length-(k+1)<r.ti.length-k by omega)
  case hs1=>exact bS
  case ht=>
   exact .cons bL (.cons bL .nil)
 obtain rfl:k=r.ti.length:=by omega
 rw [ZK] at hS;subst hS;have hA:(nF A (r.ti.map PX)).size<=2323:=by
  have:=nE (n:=101) (a:=A) (l:=r.ti.map PX) (by
   intro x hx;obtain ⟨y,hy,rfl⟩:=Zx.1 hx;exact iw (by simp) (jJ (by decide) (hN.ti y hy).1 (fP _) (fP _)))
  rw [Zd] at this;have:=hN.len;omega
 generalize nF A (r.ti.map PX)=A at hA ⊢;clear aK hk
 (refine Jr<|JA I<|Jn<|Jq<|Jc I fun az=>Jp<|Jl<|Jo<|Jt<|Jq<|Jr<|bJ I I ae<|JL I (.there .here) I<|JI I<|Jv I<|Jn<|J0 ?_)
 refine aV (ι:=Nat×ByteArray) (fun y=>y.1<=r.po.length/\y.2=nF A ((r.po.take y.1).map VT)) (fun y=>[(102,.q (y.1:Nat)),(101,.q r.po.length),(100,.slice a4 r.po.length eW),(6,.string y.2),(5,.p b5),(1,.p b1)]) (fun _=>[bE b5 (.cells #[.string ⟨#[114,111,117,116,101,114]⟩,.func (.func 271) #[] #[],.string ⟨#[115,111,117,114,99,101]⟩,.func (.func 273) #[] #[],.string ⟨#[100,101,115,116,105,110,97,116,105,111,110]⟩,.func (.func 275) #[] #[],.string ⟨#[116,105,101]⟩,.func (.func 276) #[] #[],.string ⟨#[112,111,105,110,116]⟩,.func (.func 277) #[] #[]] 265 (0,0)),JP b1 r (.slice a1 r.sr.length eo) (.slice a2 r.de.length c6) (.slice a3 r.ti.length dT) (.slice a4 r.po.length eW)]) (fun y=>r.po.length-y.1) ?_ ?_
 ·apply aI (0,A) ⟨Zi _,I⟩
  case hs1=>exact bS
  case ht=>
   exact .h2 .nil
 rintro ⟨k,S⟩ ⟨hk,hS⟩;dsimp only at hk hS ⊢;by_cases aK:k<r.po.length
 ·have cq:=zM (j8 aK);have aC:=(tR k _ (ie aK)).2;have hx:=hN.po _ (Zj aK);have gQ:=qA (a:=A) (f:=VT) aK;rw [<- hS] at gQ;unfold Po.cells at aC;generalize r.po[k]=x at aC hx gQ;have hz:(VT x).size<=101:=iw (by simp) (jJ (by decide) (fP _) hx.1.1 hx.1.2);have U2:S.size<=A.size+101*r.po.length:=by rw [hS];exact qB fun y hy=>iw (by simp) (jJ (by decide) (fP _) (hN.po y hy).1.1 (hN.po y hy).1.2)
  have hl9:=hN.len;have hb:S.size+(VT x).size<=9223372036854775807:=by omega
  (refine Jr<|JA I<|Jn<|Jq<|Jd I fun az=>Jk<|Jq<|J0<|Jr<|ab (fT cq az) I<|ab (iO (eZ.base aC I)) I<|Jz I I fun _ _=>ao (.of I) (.of I) .here I I (fx I I I) (bz I) ak<|Jn ?_)
  with_reducible refine dE 15 (by kernel_rfl) ?_
  (refine au (fun β=>(aP (.of I))) bh I<|au (fun β=>(iB (.of I) (.of I) (by omega) (by omega) aW)) bh I<|au (fun β=>(aq (.of I) ae)) bh I<|au (fun β=>(ag (.of I) (At.lit (.there .here) I))) bh I<|au (fun β=>(aq (.of I) ae)) bh I<|au (fun β=>(ag (.of I) (At.lit .here I))) bh I ?_)
  dsimp only [Nat.zero_add,Nat.reduceAdd]
  with_reducible apply dq (B:=[]) (F:=fun _=>.string (oP x.lv)) (args:=fun _=>[.q x.lv])
  case hB=>rfl
  case hr=>exact fun β=>a7 (.of I) (.o I .nil) inferInstance I
  case hi=>exact bh
  case hd=>rfl
  case hc=>exact fun β w' dK=>pA _ (by omega) (by omega) _
  dsimp only [Nat.reduceAdd]
  (refine au (fun β=>(aq (.of I) ae)) bh I<|au (fun β=>(ag (.of I) (At.lit .here I))) bh I<|au (fun β=>(aq (.of I) ae)) bh I<|au (fun β=>(ag (.of I) (At.lit .here I))) bh I ?_)
  refine kE (fun β=>(aG (.o I (.o I (.o I (.o I .nil)))) I I I I)) (fun _ _ _=>rfl) I ?_;dsimp only [Nat.zero_add,Nat.reduceAdd]
  with_reducible apply dq (B:=[11]) (F:=fun _=>.string (VT x)) (args:=fun β=>[.slice (some ⟨fu (β 11),0,none⟩) 4 4])
  case hB=>kernel_rfl
  case hr=>exact fun β=>a7 (.of I) (.o I .nil) inferInstance I
  case hi=>exact bh
  case hd=>rfl
  case hc=>
   intro β w' dK;have mK:=dK.at 11 Zu (s:=⟨fun β=>.slice (some ⟨fu (β 11),0,none⟩) 4 4,fun β=>[bE (fu (β 11)) (.cells #[.string wP,.string (oP x.lv),.string x.ou,.string x.ip] 9)]⟩) (by kernel_rfl)
   dsimp only [Zb,Za] at mK;exact tL (l:=[wP,oP x.lv,x.ou,x.ip]) (Mem.dz mK (by exact .here) I I) (by simp) (jJ (by decide) (fP _) hx.1.1 hx.1.2)
  dsimp only [Nat.reduceAdd]
  (refine au (fun β=>(tE (.of I) (.of I) hb)) bh I<|au (fun β=>(cM (.of I))) bh I ?_)
  refine eS fun β=>?_;dsimp only [dY,Za,Zb,List.append_eq,Nat.reduceAdd]
  with_reducible refine cu (by kernel_rfl) ?_
  refine Jj<|Jt<|Jg<|JB I (by omega)<|Jv I<|Jn ?_;apply aH (k+1,_) (show _/\_ from ⟨by omega,gQ.symm⟩) (show r.po.length-(k+1)<r.po.length-k by omega)
  case hs1=>exact bS
  case ht=>
   exact .cons bL (.cons bL .nil)
 obtain rfl:k=r.po.length:=by omega
 rw [ZK] at hS;rw [<- hS];refine Jr<|JA I<|Jn<|Jq<|Jc I fun az=>Jp<|Jl<|Jo<|Jt<|Jr<|Jv I<|Ja I<|Ja I<|Jn<|Je<|qe I (gH I I I) ?_
 rfl
end Go.Proofs.A1
