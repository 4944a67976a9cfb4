/- Parts of the proof: LE LF LG GkRegP LH TryzShelf GkDraws. -/
import Derived.Test.YteonnodafmegaaaGreatDoorNM10
import Derived.Test.YteonnodafmegaaaGreatDoorNM04
import Derived.Test.YteonnodafmegaaaGreatDoorNM06
import Derived.Shelf.Strings.OnBuilder
import Derived.Shelf.Strconv.Itoa3
import Derived.Ground.NamesProg
import Derived.Ground.Names2Prog
import Derived.Test.YteonnodafmegaaaGreatDoorProg
import Derived.Calls
import Derived.RunT
set_option linter.unusedSectionVars false
set_option linter.unusedVariables false
set_option linter.unusedSimpArgs false
namespace Go.Proofs.A1
open Go Go.SL
def xO (r:Ro) (o:ByteArray):Int:=aV [gC r,pb r o]
def xN (r:Ro) (o:ByteArray) (q:Bool):Ro:=if xO r o≠0 then Ro.nil else r.Ik o q
theorem sn (l:List De):(lS l).length=l.length*3:=by unfold lS;rw [fg (D5 l),cg]
theorem Sl (l:List De) (cur:List Value) {k:Nat} (h:k<l.length) (q:Bool):setCells (lS l++cur) (k*3+2) [.bool q]=lS (l.modify k fun x=>⟨x.nm,x.mx,q⟩)++cur:=by
 rw [pE _ _ _ (by rw [Zg,sn];omega),List.set_append_left _ _ (by rw [sn];omega)]
 congr 1
 have e:l=l.take k++l[k]::l.drop (k+1):=by rw [← Zw h,ZZ]
 have hm:l.modify k (fun x=>⟨x.nm,x.mx,q⟩)=l.take k++⟨l[k].nm,l[k].mx,q⟩::l.drop (k+1):=by
  rw [List.modify_eq_take_cons_drop h]
 have ht:(lS (l.take k)).length=k*3:=by rw [sn,Zp,Zbi (by omega)]
 have hs:∀ (a:List De) (x:De) (b:List De),lS (a++x::b)=lS a++(x.cells++lS b):=fun a x b=>by unfold lS ue;simp
 rw [hm,hs]
 conv=>lhs;rw [e,hs]
 rw [List.set_append_right _ _ (by omega),ht,Nat.add_sub_cancel_left]
 rfl
set_option maxHeartbeats 1000000 in
theorem Cy {r:Ro} {s d t p:Value} (o:ByteArray) (q:Bool) {w:World} (h:RR w r s d t p) (cI:lz r) :
  bh Tryz.prog 78 [RA r s d t p,.string o,.bool q] w [] (fun _:Value×Value×Value×Value=>True) (fun x=>.tuple #[RA (xN r o q) x.1 x.2.1 x.2.2.1 x.2.2.2,.int .i64 (xO r o)]) (fun x=>pC (xN r o q) x):=by
 have h1:=Rd.one h.sr
 have h2:=Rd.one h.de
 have h3:=Rd.one h.ti
 have h4:=Rd.one h.po
 have fK:∀ w',aH [] w w'→aj Tryz.prog 34 [.agg #[.int .i64 r.lv,.int .i64 r.ma,s,d,t,p]] w' (.int .i64 (gC r)):=fun w' hk=>eD (h.keeps hk) cI
 have mh:∀ w',aH [] w w'→aj Tryz.prog 112 [.agg #[.int .i64 r.lv,.int .i64 r.ma,s,d,t,p],.string o] w' (.int .i64 (pb r o)):=fun w' hk=>ew o (h.keeps hk)
 unfold RA
 refine aQ Tryz.func78 rfl rfl ?_
 refine Jr<|Jy rfl rfl fun _ _=>Jz rfl rfl fun _ _=>Ja rfl<|Jn<|Jq<|Jq ?_
 rename_i b3 vo b6 hb6
 with_reducible refine cQ 6 (by kernel_rfl) ?_
 (refine an (cL (.there .here)) rfl<|aT bL rfl (fun w' aB=>(fK w' (Mem.keeps aB)))<|an (cL (.there .here)) rfl<|an kA rfl<|aT bd rfl (fun w' aB=>(mh w' (Mem.keeps aB)))<|ek (aD (.cons (.of rfl) (.cons (.of rfl) .nil)) rfl rfl rfl rfl) rfl rfl ?_)
 with_reducible refine dp rfl fun bq mN=>?_
 (refine ai bL rfl (fun w' aB=>(dN (Mem.dh aB .here rfl rfl) (bU.cons (bU.cons bU.nil))))<|Ja rfl<|Ji<|Jv rfl<|JD rfl<|Jn<|fP rfl (fun ar=>?_) fun ar=>?_;refine Jr<|ab (aS .nil ak) rfl<|Jv rfl<|aq (.of rfl) (.of rfl) (.there .here) rfl rfl (gE rfl rfl rfl rfl rfl rfl) (bF rfl) ak<|Ja rfl<|Jn<|Ju ?_;rotate_left;refine Jk<|Jr<|ab (cL bT) rfl ?_;rotate_right)
 ·have e1:xN r o q=Ro.nil:=if_pos ar
  have e2:xO r o=aV [gC r,pb r o]:=rfl
  rw [e1,e2]
  refine aP 186 2<|aP 90 3<|aP 187 3<|aP 188 3 ?_
  first | with_reducible apply aN | with_reducible apply aO
  case he=>exact sh rfl inferInstance rfl dO ak (by rfl) (by rfl)
  case hR=>
   intro w' aB
   exact aF (.slice none 0 0,.slice none 0 0,.slice none 0 0,.slice none 0 0) trivial (by exact .cons c6 (.cons bT (.cons (.there .here) (.cons .here .nil)))) aB rfl
 have e0:aV [gC r,pb r o]=0:=Zo.1 ar
 have e1:xN r o q=r.Ik o q:=if_neg ar
 have e2:xO r o=0:=e0
 have AL:gC r=0:=cq.1 e0 _ Zt
 have S0:o∈cy r:=by
  have:=(bK (by decide)).1 (cq.1 e0 (pb r o) (by simp))
  rwa [decide_eq_false_iff_not,cm,Classical.not_not] at this
 have eG:=G9 AL
 have hf:=mO eG eG.val
 rw [e1,e2]
 refine JN bL rfl (fun w1 aR=>zq (h.keeps aR.keeps) cI (by omega)) ?_
 intro y _
 dsimp only [id_eq,Zb,Za]
 obtain ⟨s1,d1,t1,p1⟩:=y
 dsimp only
 unfold RA PB
 refine dq (r:=r) (s:=s1) (d:=d1) (t:=t1) (p:=p1) (by unfold pC PB;exact .cons .here (.cons .here (.cons .here (.cons .here .nil)))) fun k1 k2 k3 k4=>?_
 (refine Jz rfl rfl fun _ _=>aq (.of rfl) (.of rfl) .here rfl rfl (gE rfl rfl k1 k2 k3 k4) (bF rfl) ak<|Jn<|Jq ?_)
 rename_i b9 YF
 obtain ⟨j0,zS⟩:∃ i:Nat,bE (cy r) o=(i:Nat):=⟨(bE (cy r) o).toNat,by have:=eC S0;omega⟩
 have BZ:j0<r.de.length:=by
  obtain ⟨hl,_⟩:=fE (l:=cy r) (s:=o) (by omega)
  rw [zS,ZG] at hl
  unfold cy at hl;rwa [Zd] at hl
 have hdd:∀ w',aH [] w w'→aj Tryz.prog 155 [.agg #[.int .i64 r.lv,.int .i64 r.ma,s,d,t,p],.string o] w' (.int .i64 (j0:Nat)):=fun w' hk=>zS ▸ fM o (h.keeps hk)
 refine dd (E:=90) (sz:=3) (v:=d1) bT (by omega) fun gd cap cur e Yl Yk Wu hg4=>?_
 subst e
 have p0:=Sl r.de cur BZ q
 have hle:j0*3+2+1≤(lS r.de++cur).length:=by rw [Zg,sn];omega
 with_reducible refine en 8 (by kernel_rfl) ?_
 (refine oO rfl rfl ae<|aL (gT (.there .here)) rfl<|aL (cL AB) rfl<|ly rfl rfl<|gD bd rfl (fun w' aB=>(hdd w' (Mem.keeps aB)))<|ly rfl rfl<|aL (az (.of rfl) (.of rfl) rfl (by omega) (by omega) bj) rfl<|oO rfl rfl ae ?_)
 with_reducible refine eo ?_
 (refine aq (.of rfl) (.of rfl) .here rfl rfl (eE rfl) hle p0<|Ji<|ab (cL (.there .here)) rfl<|aq (.of rfl) (.of rfl) jo rfl rfl (gE rfl rfl k1 rfl k3 k4) (bF rfl) ak<|Ja rfl<|Jn<|Je ?_)
 have hpr:r.Ik o q=⟨r.lv,r.ma,r.sr,r.de.modify j0 fun x=>⟨x.nm,x.mx,q⟩,r.ti,r.po⟩:=by unfold Ro.Ik;rw [zS,ZG]
 have X1:(r.de.modify j0 fun x=>(⟨x.nm,x.mx,q⟩:De)).length=r.de.length:=List.length_modify _ _ _
 rw [hpr]
 generalize (r.de.modify j0 fun x=>(⟨x.nm,x.mx,q⟩:De))=D' at *
 have Yj:(lS D'++cur).length=cap*3:=by rw [Zg,sn] at Wu ⊢;rw [X1];exact Wu
 refine cN (n:=r.de.length) (xs:=lS D') (cap:=cap) (g:=gd) (E:=90) (sz:=3) (by exact Take.there .here) Yl Yk Yj (by rw [sn,X1]) ?_
 first | with_reducible apply aN | with_reducible apply aO
 case he=>exact sh rfl inferInstance rfl (.there .here) ak (by rfl) (by rfl)
 case hR=>
  intro w' aB
  exact aF (s1,.slice (some ⟨gd,0,none⟩) r.de.length cap,t1,p1) trivial (show bz _ [J1 r s1,row 90 3 (.slice (some ⟨gd,0,none⟩) r.de.length cap) D'.length (lS D'),J3 r t1,J4 r p1] _ by rw [X1];exact .cons c6 (.cons .here (.cons bT (.cons bT .nil)))) aB rfl
structure gG where
 fr:Int
 tk:List eL
 v:Value
def gG.cells (x:gG):List Value:=[.int .i64 x.fr,x.v]
def lf (l:List gG):List (List Value):=l.map gG.cells
theorem eZ (l:List gG):(lf l).length=l.length:=by simp [lf]
theorem q9 {l:List gG} {k:Nat} (h:k<l.length):(lf l)[k]? = some (l[k]).cells:=by simp [lf,h]
theorem qb {l:List gG} {k:Nat} (h:k<l.length):lf l≠[]:=by intro e;have:=congrArg List.length e;rw [eZ] at this;simp at this;subst this;simp at h
def wX (w:World) (l:List gG):Prop:=∀ x∈l,Rd w x.v 2 (gN x.tk)∧sx w x.tk
theorem wX.keeps {w w':World} {l:List gG} (h:wX w l) (hk:aH [] w w'):wX w' l:=fun x hx=>⟨(h x hx).1.keeps hk,(h x hx).2.keeps hk⟩
def cJ (l:List gG):List Od:=l.map fun x=>⟨x.fr,bZ x.tk⟩
theorem jR (l:List gG):(cJ l).length=l.length:=Zd _
theorem oh {l:List gG} {k:Nat} (h:k<l.length):(cJ l).getD k Od.zero=⟨l[k].fr,bZ l[k].tk⟩:=by
 unfold cJ;rw [Zk,ZD,Zc h];rfl
theorem Nw {lv:Value} {l:List gG} {p:gG→Bool} {f:FuncId} {first cap:List Value} [bM Tryz.prog f] {w:World} (h:Rd w lv 2 (lf l)) (cr:∀ x∈l,∀ w',aH [] w w'→aj Tryz.prog f (first++[.agg x.cells.toArray]++cap) w' (.bool (p x))) :
  aj Tryz.prog 173 [lv,.func (.func f) first.toArray cap.toArray] w (.int .i64 (gP p l)):=by
 obtain ⟨a,cp,b,o,rfl,c7,bQ,ha,hc⟩:=h
 rw [eZ] at *
 unfold maxLen at bQ
 refine ah Tryz.func173 rfl rfl ?_
 refine Jr<|Ja rfl<|Jn<|Jq<|Jr<|Jv rfl<|JI rfl<|Jv rfl<|Jn<|J0 ?_
 refine aX (fun k:Nat=>k≤l.length∧∀ i,i<k→(l[i]?.map p).getD false=false) (fun k=>[(8,.int .i64 k),(7,.int .i64 l.length),(0,.slice a l.length cp),(1,.func (.func f) first.toArray cap.toArray)]) (fun _=>[]) (fun k=>l.length-k) ?_ ?_
 ·apply aI 0 ⟨Zi _,fun i h=>by omega⟩
  case hs1=>exact cd
  case ht=>(try simp only [Ze,Zf,Za]);exact .nil
 rintro k ⟨hk,hf⟩
 by_cases aK:k<l.length
 ·have cB:=ha (qb aK)
  have aC:=(hc k _ (q9 aK)).2
  have iP:=cr _ (Zj aK)
  have hps:(l[k]?.map p).getD false=p l[k]:=by simp [aK]
  unfold gG.cells at aC iP
  (refine Jr<|JA rfl<|Jn<|Jq<|Jd rfl fun ar=>Jk<|Jq<|J0<|Jr<|Jv rfl<|Ja rfl<|Ji<|Jv rfl<|Jv rfl<|Jv rfl<|ab (fG cB ar) rfl<|ab (gS (eF.base aC rfl)) rfl<|ai bL rfl (fun w' aB=>(iP w' (Mem.keeps aB)))<|Jn<|nF rfl (fun ar=>?_) fun ar=>?_;refine Jr<|Jv rfl<|Ja rfl<|Jn<|Je<|Jm<|Jh<|Jh<|Jm<|Jh<|JT ?_;rotate_left;refine Jw<|Jj<|Jt<|Jg<|JB rfl (by omega)<|Jv rfl<|Jn ?_;rotate_right)
  ·rw [gp hf aK ar]
  ·apply aJ (k+1) ⟨by omega,fun i hi=>by
    by_cases e:i=k
    ·rw [e,hps];exact ar
    ·exact hf i (by omega)⟩ (by omega)
   case hs1=>exact cd
   case ht=>(try simp only [Ze,Zf,Za]);exact .nil
 ·obtain rfl:k=l.length:=by omega
  refine Jr<|JA rfl<|Jn<|Jq<|Jc rfl fun ar=>Jp<|Jl<|Jo<|Jt<|Jr<|Ja rfl<|Jn<|Je<|JT ?_
  rw [fv hf]
theorem MA {x:gG} {f:Int} {b:Nat} {w:World} (f1:w.cell? ⟨b,0,none⟩=some (.int .i64 f)):aj Tryz.prog 174 [.agg x.cells.toArray,.pointer (some ⟨b,0,none⟩)] w (.bool (decide (f<x.fr))):=by
 unfold gG.cells
 refine ah Tryz.func174 rfl rfl ?_
 (refine Jr<|Jy rfl rfl fun _ _=>Ja rfl<|Ji<|bP rfl rfl ae<|JL rfl .here rfl<|ab (ag (.of rfl) (At.base f1 rfl)) rfl<|JE rfl<|Ja rfl<|Jn<|Je<|JT ?_)
 rfl
def CG (r:Ro) (l:List Od):Int:=if gC r≠0 then gC r else Ha r l
def SP (r:Ro) (l:List Od):Int:=aV [gC r,bW (decide ((16:Int)<(l.length:Nat))) 5]
theorem QF (r:Ro) (l:List Od):CG r l=if SP r l≠0 then SP r l else iy (AE r l) l.length:=by
 unfold CG SP Ha
 by_cases h1:gC r=0
 ·rw [if_neg (not_not_intro h1)]
  by_cases h2:(16:Int)<(l.length:Nat)
  ·rw [if_pos h2,if_pos (by rw [h1,decide_eq_true h2];decide),h1,decide_eq_true h2];rfl
  ·rw [if_neg h2,if_neg (by rw [h1,decide_eq_false h2];decide)]
 ·have:aV [gC r,bW (decide ((16:Int)<(l.length:Nat))) 5]=gC r:=by unfold aV;rw [if_pos h1]
  rw [if_pos h1,this,if_pos h1]
def Gk (l:List gG) (k:Nat):Int:=if k=0 then -1 else ((cJ l).getD (k-1) Od.zero).fr
theorem IM {r:Ro} {l:List gG} {k:Nat} (h:k<l.length):AE r (cJ l) k=aV [fy l[k].fr 0 10000000,bW (decide (l[k].fr≤Gk l k)) 11,tr r (bZ l[k].tk)]:=by
 unfold AE Gk
 have:(cJ l)[k]? = some ⟨l[k].fr,bZ l[k].tk⟩:=by unfold cJ;rw [ZD,Zc h];rfl
 rw [this];rfl
theorem Gj {l:List gG} {k:Nat} (h:k<l.length):Gk l (k+1)=l[k].fr:=by
 unfold Gk
 rw [if_neg (by omega),ZaG,oh h]
set_option maxHeartbeats 1000000 in
theorem pO {r:Ro} {s d t p kv:Value} {l:List gG} {w:World} (h:RR w r s d t p) (cI:lz r) (hw:Rd w kv 2 (lf l)) (hM:wX w l) :
  aj Tryz.prog 171 [RA r s d t p,kv] w (.int .i64 (CG r (cJ l))):=by
 have h1:=Rd.one h.sr
 have h2:=Rd.one h.de
 have h3:=Rd.one h.ti
 have h4:=Rd.one h.po
 obtain ⟨aw,cw,bw,ow,rfl,Pg,BV,U6,Kn⟩:=hw
 rw [eZ] at *
 unfold maxLen at BV
 have nD:=jR l
 have fK:∀ w',aH [] w w'→aj Tryz.prog 34 [.agg #[.int .i64 r.lv,.int .i64 r.ma,s,d,t,p]] w' (.int .i64 (gC r)):=fun w' hk=>eD (h.keeps hk) cI
 have hX:=QF r (cJ l)
 have hA:SP r (cJ l)=aV [gC r,bW (decide ((16:Int)<(l.length:Nat))) 5]:=by unfold SP;rw [nD]
 unfold RA
 refine ah Tryz.func171 rfl rfl ?_
 (refine Jr<|Jy rfl rfl fun _ _=>Ja rfl<|Jn<|Jq<|Jr<|ab (cL .here) rfl<|ai bL rfl (fun w' aB=>(fK w' (Mem.keeps aB)))<|Jv rfl<|JI rfl<|JE rfl<|ai bd rfl (fun w' aB=>(dU _ 5 w'))<|bo (aD (.cons (.of rfl) (.cons (.of rfl) .nil)) rfl rfl rfl rfl) rfl fun _ _=>ai bL rfl (fun w' aB=>(dN (Mem.dh aB .here rfl rfl) (bU.cons (bU.cons bU.nil))))<|Ja rfl<|Ji<|Jv rfl<|JD rfl<|Jn<|fP rfl (fun ar=>?_) fun ar=>?_;refine Jr<|Jv rfl<|Ja rfl<|Jn<|Ju<|JT ?_;rotate_left;refine Jk<|Jr<|Ja rfl<|Jn<|Jq<|Jr<|Jv rfl<|JI rfl<|Jv rfl<|Jn<|J0 ?_;rotate_right)
 ·rw [hX,hA,if_pos ar]
 have Fb:SP r (cJ l)=0:=by rw [hA];exact Zo.1 ar
 rw [if_neg (not_not_intro Fb),nD] at hX
 clear ar
 rename_i b2 sW bq mN
 refine aX (fun k:Nat=>k≤l.length∧∀ i,i<k→AE r (cJ l) i=0) (fun k=>[(23,.int .i64 (k:Nat)),(22,.int .i64 (l.length:Nat)),(21,.slice aw l.length cw),(6,.int .i64 (Gk l k)),(2,.pointer (some ⟨b2,0,none⟩))])
  (fun k=>[JP b2 r s d t p]) (fun k=>l.length-k) ?_ ?_
 ·apply aI 0 ⟨Zi _,fun i hi=>by omega⟩
  case hs1=>exact cd
  case ht=>(try simp only [Ze,Zf,Za]);exact .cons (.there .here) .nil
 rintro k ⟨hk,hf⟩
 by_cases aK:k<l.length
 ·have Kr:=U6 (qb aK)
  have aC:=(Kn k _ (q9 aK)).2
  unfold gG.cells at aC
  have hx:=hM _ (Zj aK)
  have jd:=IM (r:=r) aK
  have DM:=Gj aK
  generalize l[k]=x at aC hx jd DM ⊢
  obtain ⟨xf,xt,xv⟩:=x
  dsimp only at aC hx jd DM ⊢
  have fa:=Rd.one hx.1
  have htk:∀ w',aH [] w w'→aj Tryz.prog 164 [.agg #[.int .i64 r.lv,.int .i64 r.ma,s,d,t,p],xv] w' (.int .i64 (tr r (bZ xt))):=fun w' hk=>rC (h.keeps hk) (hx.1.keeps hk) (hx.2.keeps hk)
  (refine Jr<|JA rfl<|Jn<|Jq<|Jd rfl fun ar=>Jk<|Jq<|J0<|Jr<|ab (az (.of rfl) (.of rfl) Kr (by omega) ar bj) rfl<|ab (gS (eF.base aC rfl)) rfl<|Jz rfl rfl fun _ _=>aq (.of rfl) (.of rfl) .here rfl rfl (fN rfl fa) (bF rfl) ak<|Jn<|Jq<|Jq ?_)
  with_reducible refine cQ 13 (by kernel_rfl) ?_
  (refine an kB rfl<|an (gT .here) rfl<|aT eK rfl (fun w' aB=>(mj xf 0 10000000 w'))<|an kB rfl<|an (gT .here) rfl<|an kA rfl<|an (k9 (.of rfl) (.of rfl)) rfl<|aT bd rfl (fun w' aB=>(dU _ 11 w'))<|an (cL (.there .here)) rfl<|an kB rfl<|an (gT .here) rfl<|aT bd rfl (fun w' aB=>(htk w' (Mem.keeps aB)))<|ek (aD (.cons (.of rfl) (.cons (.of rfl) (.cons (.of rfl) .nil))) rfl rfl rfl rfl) rfl rfl ?_)
  with_reducible refine dp rfl fun b55 YG=>?_
  (refine ai bL rfl (fun w' aB=>(dN (Mem.dh aB .here rfl rfl) (bU.cons (bU.cons (bU.cons bU.nil)))))<|Ja rfl<|Ji<|Jv rfl<|JD rfl<|Jn<|fP rfl (fun ar=>?_) fun ar=>?_;refine Jr<|Jv rfl<|Ja rfl<|Jn<|Ju<|Jm<|Jh<|Jh<|Jm<|Jh<|JT ?_;rotate_left;refine Jk<|Jg<|bP rfl rfl ae<|JL rfl (.there .here) rfl<|Ja rfl<|Jx<|Jj<|Jt<|Jg<|JB rfl (by omega)<|Jv rfl<|Jn ?_;rotate_right)
  ·rw [← jd] at ar ⊢
   have hB:iy (AE r (cJ l)) l.length=AE r (cJ l) k:=ep hf aK ar
   rw [hX,hB]
  have hz:AE r (cJ l) k=0:=by rw [jd];exact Zo.1 ar
  rw [← DM]
  apply aJ (k+1) ⟨by omega,fun i hi=>by
   by_cases e:i=k
   ·rw [e];exact hz
   ·exact hf i (by omega)⟩ (by omega)
  case hs1=>exact cd
  case ht=>(try simp only [Ze,Zf,Za]);exact .cons bT .nil
 ·obtain rfl:k=l.length:=by omega
  have Vj:iy (AE r (cJ l)) l.length=0:=dj.2 hf
  refine Jr<|JA rfl<|Jn<|Jq<|Jc rfl fun ar=>Jp<|Jl<|Jo<|Jt<|Jr<|Ja rfl<|Jn<|Je<|JT ?_
  rw [hX,Vj]
set_option maxHeartbeats 2000000 in
theorem H3 {r:Ro} {s d t p kv:Value} {l:List gG} {w:World} (h:RR w r s d t p) (AL:gC r=0) (hw:Rd w kv 2 (lf l)) (hM:wX w l) (hO:G5 r (cJ l)) :
  bh Tryz.prog 172 [RA r s d t p,kv] w [] (fun _:Value×Value×Value×Value=>True) (fun x=>.tuple #[RA (fI r (cJ l)).1 x.1 x.2.1 x.2.2.1 x.2.2.2,.int .i64 (fI r (cJ l)).2.1,.int .i64 (fI r (cJ l)).2.2]) (fun x=>pC (fI r (cJ l)).1 x):=by
 have eG:=G9 AL
 have zR:=eG.lim
 have DM:=eG.len
 have cI:lz r:=by unfold lz;omega
 have Pd:=mO eG eG.val
 have hlf:=hO.DZ
 rw [jR] at hlf
 have nD:=jR l
 have h1:=Rd.one h.sr
 have h2:=Rd.one h.de
 have h3:=Rd.one h.ti
 have h4:=Rd.one h.po
 obtain ⟨a,cp,b,o,rfl,c7,bQ,ha,hc⟩:=hw
 rw [eZ] at *
 unfold maxLen at bQ
 have hX:fI r (cJ l)=if iy (q8 r (cJ l)) l.length=0 then (CE r (cJ l) l.length,0,0) else (Ro.nil,((OA (q8 r (cJ l)) l.length:Nat):Int),iy (q8 r (cJ l)) l.length):=by unfold fI;rw [nD]
 unfold RA
 refine aQ Tryz.func172 rfl rfl ?_
 refine Jr<|Jy rfl rfl fun _ _=>Jz rfl rfl fun _ _=>Ja rfl<|Ja rfl<|Ji<|ab (cL (.there .here)) rfl ?_
 rename_i b2 sW b4 wb
 refine JN bL rfl (fun w1 aR=>zq (h.keeps aR.keeps) cI (by omega)) ?_
 intro y _
 dsimp only [id_eq,Zb,Za]
 obtain ⟨s1,d1,t1,p1⟩:=y
 dsimp only
 unfold RA PB
 refine dq (r:=r) (s:=s1) (d:=d1) (t:=t1) (p:=p1) (by unfold pC PB;exact .cons .here (.cons .here (.cons .here (.cons .here .nil)))) fun k1 k2 k3 k4=>?_
 (refine Jz rfl rfl fun _ _=>aq (.of rfl) (.of rfl) .here rfl rfl (gE rfl rfl k1 k2 k3 k4) (bF rfl) ak<|Jn<|Jq<|Jr<|Jv rfl<|JI rfl<|Jv rfl<|Jn<|J0 ?_)
 rename_i b7 U5
 refine aX (ι:=Nat×(Value×Value×Value×Value)×List Po) (fun y=>y.1≤l.length∧Ej r (cJ l) y.1 y.2.2∧(∀ j,j<y.1→q8 r (cJ l) j=0)∧y.2.1.1.oneCell'=true∧y.2.1.2.1.oneCell'=true∧y.2.1.2.2.1.oneCell'=true∧y.2.1.2.2.2.oneCell'=true) (fun y=>[(17,.int .i64 (y.1:Nat)),(16,.int .i64 (l.length:Nat)),(15,.slice a l.length cp),(7,.pointer (some ⟨b7,0,none⟩)),(4,.pointer (some ⟨b4,0,none⟩))])
  (fun y=>[JP b7 r (y.2.1.1) (y.2.1.2.1) (y.2.1.2.2.1) (y.2.1.2.2.2),J1 r y.2.1.1,J2 r y.2.1.2.1,J3 r y.2.1.2.2.1,row 188 3 y.2.1.2.2.2 y.2.2.length (gR y.2.2),bG b4 (.cells #[.int .i64 0,.int .i64 0,.slice none 0 0,.slice none 0 0,.slice none 0 0,.slice none 0 0] 41 (0,0))]) (fun y=>l.length-y.1) ?_ ?_
 ·apply aI (0,(s1,d1,t1,p1),r.po) ⟨Zi _,⟨rfl,eG.val⟩,fun j hj=>absurd hj (ZO j),k1,k2,k3,k4⟩
  case hs1=>exact cd
  case ht=>exact lU
 clear k1 k2 k3 k4 s1 d1 t1 p1
 rintro ⟨i,⟨s1,d1,t1,p1⟩,q⟩ ⟨hi,R4,NO,k1,k2,k3,k4⟩
 dsimp only at hi R4 NO k1 k2 k3 k4 ⊢
 have hqf:=mO eG R4.val
 by_cases aK:i<l.length
 ·have cB:=ha (qb aK)
  have aC:=(hc i _ (q9 aK)).2
  have iv:=Zj aK
  have hx:=hM _ iv
  have nf:i<(cJ l).length:=by omega
  have O9:=oh aK
  have hti:=hO.tk i nf
  have RH:(cJ l)[i].tk=bZ l[i].tk:=by
   rw [Zk,Zc nf,Zaj] at O9
   rw [O9]
  rw [RH] at hti
  have Gy:q8 r (cJ l) i=(jm (r.wp q) (bZ l[i].tk)).2.2:=by unfold q8;rw [R4.eq,O9]
  have bb:CE r (cJ l) (i+1)=(jm (r.wp q) (bZ l[i].tk)).1:=by rw [CE,R4.eq,O9]
  have jE:=fun h0=>R4.next AL hO nf h0
  unfold gG.cells at aC
  generalize l[i]=x at *
  obtain ⟨xf,xt,xv⟩:=x
  dsimp only at *
  have fa:=Rd.one hx.1
  (refine Jr<|JA rfl<|Jn<|Jq<|Jd rfl fun ar=>Jk<|Jq<|J0<|Jr<|Jv rfl<|ab (fG cB ar) rfl<|ab (gS (eF.base aC rfl)) rfl<|Jz rfl rfl fun _ _=>Ja rfl<|aq (.of rfl) (.of rfl) .here rfl rfl (fN rfl fa) (bF rfl) ak<|Ji<|ab (cL (.there .here)) rfl<|bP rfl rfl ae<|JL rfl .here rfl ?_)
  refine JN bd rfl (fun w1 aR=>EB (r:=r.wp q) (RR.wp (cW aR bT rfl) (cX aR c6 rfl) (cV aR dO rfl) (cM aR fk rfl)) (eG.wp R4.val) (by show q.length≤500;omega) (hx.1.keeps aR.keeps) (hx.2.keeps aR.keeps) (hti.wp q)) ?_
  have gH:∀ q',jm (r.wp q) (bZ xt)=(r.wp q',0,0)→True:=fun _ _=>trivial
  generalize jm (r.wp q) (bZ xt)=R at *
  obtain ⟨R,at_,e_⟩:=R
  rintro ⟨s2,d2,t2,p2⟩ _
  dsimp only at Gy bb ⊢
  unfold RA
  refine dq (r:=R) (s:=s2) (d:=d2) (t:=t2) (p:=p2) (bn _ _) fun m1 m2 m3 m4=>?_
  clear gH
  (refine Jv rfl<|JJ rfl rfl<|JJ rfl rfl<|JJ rfl rfl<|Jz rfl rfl fun _ _=>aq (.of rfl) (.of rfl) .here rfl rfl (gE rfl rfl m1 m2 m3 m4) (bF rfl) ak<|Ja rfl<|Ja rfl<|Jn<|Jq<|Jr<|Jv rfl<|JD rfl<|Jn<|fP rfl (fun ar=>?_) fun ar=>?_;refine Jr<|ab (aS .nil ak) rfl<|Jv rfl<|Jv rfl<|aq (.of rfl) (.of rfl) CB rfl rfl (gE rfl rfl rfl rfl rfl rfl) (bF rfl) ak<|Ja rfl<|Ja rfl<|Jn<|Ju<|Jm<|Jh<|Jh<|Jm<|Jh ?_;rotate_left;refine Jk<|Jg<|ab (cL .here) rfl<|aq (.of rfl) (.of rfl) jo rfl rfl (gE rfl rfl m1 m2 m3 m4) (bF rfl) ak<|Jx<|Jj<|Jt<|Jg<|JB rfl (by omega)<|Jv rfl<|Jn ?_;rotate_right)
  ·have hne:q8 r (cJ l) i≠0:=by rw [Gy];exact ar
   have hE:iy (q8 r (cJ l)) l.length=e_:=(ep NO aK hne).trans Gy
   have e4:fI r (cJ l)=(Ro.nil,((i:Nat):Int),e_):=by rw [hX,hE,if_neg ar,FA NO aK hne]
   rw [e4]
   dsimp only
   refine aP 186 2<|aP 90 3<|aP 187 3<|aP 188 3 ?_
   first | with_reducible apply aN | with_reducible apply aO
   case he=>exact jT rfl inferInstance rfl dO ak (by rfl) (by rfl) (by rfl)
   case hR=>
    intro w' aB
    exact aF (.slice none 0 0,.slice none 0 0,.slice none 0 0,.slice none 0 0) trivial (by exact .cons c6 (.cons bT (.cons (.there .here) (.cons .here .nil)))) aB rfl
  have hz:e_=0:=Zo.1 ar
  have ho0:q8 r (cJ l) i=0:=Gy.trans hz
  obtain ⟨q',vY,_⟩:=jE ho0
  have NW:R=r.wp q':=bb.symm.trans vY.eq
  subst NW
  apply aJ (i+1,(s2,d2,t2,p2),q') ⟨by show i+1≤_;omega,vY,fun j hj=>by
   by_cases e:j=i
   ·rw [e];exact ho0
   ·exact NO j (by have:j<i+1:=hj;omega),m1,m2,m3,m4⟩ (by show l.length-(i+1)<l.length-i;omega)
  case hs1=>exact cd
  case ht=>
   dsimp only
   have w1:(r.wp q').lv=r.lv:=rfl
   have w2:(r.wp q').ma=r.ma:=rfl
   have w3:(r.wp q').sr=r.sr:=rfl
   have w4:(r.wp q').de=r.de:=rfl
   have w5:(r.wp q').ti=r.ti:=rfl
   have w6:(r.wp q').po=q':=rfl
   try unfold J1 J2 J3
   try unfold J4
   rw [w1,w2,w3,w4,w5,w6]
   exact .cons .here (.cons (.there .here) (.cons (.there .here) (.cons (.there .here) (.cons (.there .here) (.cons jo .nil)))))
 ·have e:i=l.length:=by omega
  subst e
  (refine Jr<|JA rfl<|Jn<|Jq<|Jc rfl fun ar=>Jp<|Jl<|Jo<|Jt<|Jr<|ab (cL .here) rfl<|aq (.of rfl) (.of rfl) fk rfl rfl (gE rfl rfl k1 k2 k3 k4) (bF rfl) ak<|Ja rfl<|Ja rfl<|Jn<|Je ?_)
  have hE:iy (q8 r (cJ l)) l.length=0:=dj.2 NO
  have e4:fI r (cJ l)=(r.wp q,0,0):=by rw [hX,hE,if_pos rfl,R4.eq]
  rw [e4]
  dsimp only
  first | with_reducible apply aN | with_reducible apply aO
  case he=>exact jT rfl inferInstance rfl .here ak (by rfl) (by rfl) (by rfl)
  case hR=>
   intro w' aB
   exact aF (s1,d1,t1,p1) trivial (by exact .cons bT (.cons bT (.cons bT (.cons bT .nil)))) aB rfl
def wA (r:Ro) (l:List Od):Ro×Int×Int:=if CG r l≠0 then (Ro.nil,0,CG r l) else fI r l
theorem Ix {r:Ro} {l:List Od} (h:CG r l=0):gC r=0∧G5 r l:=by
 unfold CG at h
 by_cases c:gC r=0
 ·rw [if_neg (not_not_intro c)] at h
  exact ⟨c,ods h⟩
 ·rw [if_pos c] at h;exact absurd h c
set_option maxHeartbeats 1000000 in
theorem VY {r:Ro} {s d t p kv:Value} {l:List gG} {w:World} (h:RR w r s d t p) (cI:lz r) (hw:Rd w kv 2 (lf l)) (hM:wX w l) :
  bh Tryz.prog 62 [RA r s d t p,kv] w [] (fun _:Value×Value×Value×Value=>True) (fun x=>.tuple #[RA (wA r (cJ l)).1 x.1 x.2.1 x.2.2.1 x.2.2.2,.int .i64 (wA r (cJ l)).2.1,.int .i64 (wA r (cJ l)).2.2]) (fun x=>pC (wA r (cJ l)).1 x):=by
 have h1:=Rd.one h.sr
 have h2:=Rd.one h.de
 have h3:=Rd.one h.ti
 have h4:=Rd.one h.po
 have UN:=Rd.one hw
 have Gy:∀ w',aH [] w w'→aj Tryz.prog 171 [.agg #[.int .i64 r.lv,.int .i64 r.ma,s,d,t,p],kv] w' (.int .i64 (CG r (cJ l))):=fun w' hk=>pO (h.keeps hk) cI (hw.keeps hk) (hM.keeps hk)
 unfold RA
 refine aQ Tryz.func62 rfl rfl ?_
 (refine Jr<|Jy rfl rfl fun _ _=>Jz rfl rfl fun _ _=>Ja rfl<|Ja rfl<|Jn<|Jq<|Jr<|ab (cL (.there .here)) rfl<|Jv rfl<|ai bd rfl (fun w' aB=>(Gy w' (Mem.keeps aB)))<|Ja rfl<|Ji<|Jv rfl<|JD rfl<|Jn<|fP rfl (fun ar=>?_) fun ar=>?_;refine Jr<|ab (aS .nil ak) rfl<|Jv rfl<|aq (.of rfl) (.of rfl) .here rfl rfl (gE rfl rfl rfl rfl rfl rfl) (bF rfl) ak<|Ja rfl<|Ja rfl<|Jn<|Ju ?_;rotate_left;refine Jk<|Jr<|ab (cL (.there .here)) rfl<|Jv rfl ?_;rotate_right)
 ·have e:wA r (cJ l)=(Ro.nil,0,CG r (cJ l)):=if_pos ar
  rw [e]
  dsimp only
  refine aP 186 2<|aP 90 3<|aP 187 3<|aP 188 3 ?_
  first | with_reducible apply aN | with_reducible apply aO
  case he=>exact jT rfl inferInstance rfl dO ak (by rfl) (by rfl) (by rfl)
  case hR=>
   intro w' aB
   exact aF (.slice none 0 0,.slice none 0 0,.slice none 0 0,.slice none 0 0) trivial (by exact .cons c6 (.cons bT (.cons (.there .here) (.cons .here .nil)))) aB rfl
 have e:wA r (cJ l)=fI r (cJ l):=if_neg ar
 obtain ⟨AL,hO⟩:=Ix (Zo.1 ar)
 rw [e]
 refine JN bd rfl (fun w1 aR=>H3 (h.keeps aR.keeps) AL (hw.keeps aR.keeps) (hM.keeps aR.keeps) hO) ?_
 generalize fI r (cJ l)=R
 obtain ⟨R,at_,e_⟩:=R
 rintro ⟨s1,d1,t1,p1⟩ _
 dsimp only
 unfold RA
 refine dq (r:=R) (s:=s1) (d:=d1) (t:=t1) (p:=p1) (bn _ _) fun k1 k2 k3 k4=>?_
 (refine JJ rfl rfl<|JJ rfl rfl<|JJ rfl rfl<|aq (.of rfl) (.of rfl) dO rfl rfl (gE rfl rfl k1 k2 k3 k4) (bF rfl) ak<|Ja rfl<|Ja rfl<|Jn<|Je ?_)
 first | with_reducible apply aN | with_reducible apply aO
 case he=>exact jT rfl inferInstance rfl .here ak (by rfl) (by rfl) (by rfl)
 case hR=>
  intro w' aB
  exact aF (s1,d1,t1,p1) trivial (by exact .cons (.there .here) (.cons (.there .here) (.cons (.there .here) (.cons (.there .here) .nil)))) aB rfl
end Go.Proofs.A1
namespace Go.SL
open Go
def zj (l:List Oper) (m:Nat) (p:List Nat):Bool:=
 l.all mU&&tE l 0&&kH l.toArray (l.take m) 0&&(List.range' m (l.length-m)).all (fun k=>(List.range m).all fun i=>p.any (Nat.beq i)||((iC l []).getD k 0).testBit i)&&Nat.ble m l.length
structure FF (l:List Oper) (m:Nat) (p:List Nat):Prop where
 op:∀ o∈l,mU o=true
 ac:tE l 0=true
 By:kH l.toArray (l.take m) 0=true
 tail:∀ k,m≤k→k<l.length→∀ i,i<m→i ∉ p→((iC l []).getD k 0).testBit i=true
 le:m≤l.length
theorem zi {l:List Oper} {m:Nat} {p:List Nat} (h:zj l m p=true):FF l m p:=by
 simp only [zj,Zm,Z3] at h
 obtain ⟨⟨⟨⟨h1,h2⟩,h3⟩,h5⟩,h6⟩:=h
 refine ⟨h1,h2,h3,fun k hk aK i hi hne=>?_,by simpa using h6⟩
 have:=h5 k (ZaK.2 ⟨hk,by omega⟩) i (ZT.2 hi)
 rw [ZP] at this
 refine this.resolve_left fun h=>hne ?_
 obtain ⟨x,hx,hxe⟩:=ZM.1 h
 rw [Zae hxe];exact hx
theorem o5 {l:List Oper} {m:Nat} {p:List Nat} (hc:FF l m p) {i j:Nat} {x y:Oper} (wF:i<j) (hj:j<m) (hx:l[i]? = some x) (hy:l[j]? = some y):pX l.toArray x y i=true:=by
 have:=mT hc.By (i:=i) (j:=j) wF (by rw [ZC,if_pos (by omega)];exact hx) (by rw [ZC,if_pos hj];exact hy)
 simpa using this
theorem zk {l:List Oper} {m:Nat} {p:List Nat} (hc:FF l m p) {listed:Array Bool} (hsz:listed.size=l.length) (wJ:DC l (Ls listed)) {i:Nat} (hi:i∈Region.ready .any l.toArray listed) (hm:m≤i):∀ j,j<m→j ∉ p→Ls listed j:=by
 intro j hj Yc
 obtain ⟨o,ho,hn,hd⟩:=(dE hsz).1 hi
 have aK:i<l.length:=(Zl.1 ho).1
 have DR:DC l (fun k=>k=i∨Ls listed k):=by
  intro k ok hk hL e he hb
  rcases hL with e' | hL
  ·subst e'
   rw [ho] at hk;cases hk
   exact .inr (hd e he hb)
  ·exact .inr (wJ k ok hk hL e he hb)
 rcases gZ DR hc.ac i aK (.inl rfl) j (hc.tail i hm aK j hj Yc) with h | h
 ·omega
 ·exact h
section
variable {P:Program} {c:Cx} {D:List Nat} {sl:aG} {hs:List a8} {Q:Exit→Act→World→Prop} {l:List Oper} {m:Nat}
theorem MY {p:List Nat} (hc:FF l m p) (Gv:∀ q∈p,q<m→Az l q) (WC:∀ c a w,¬ Q (.panic c) a w) {S:List cD} {nH:(Nat→Value)→aG} (Uv:tp P c hs l 0 (l.take m) (fun _=>sl) [] S nH) {a0:Act} (h0:bR sl a0) (Kc:a0.tmps.size=c.nt)
  (tail:∀ β a w,St c D (nH β) (dQ β (fun _=>true) S 0++hs) a w→wpAnyIn (FR none) 0 P .any l.toArray Q (l.length-m) (lH l.length m) a w) :
  ∀ (fuel:Nat) (listed:Array Bool) (a:Act) (w:World),OF c D hs l m S a0 fuel listed a w→wpAnyIn (FR none) 0 P .any l.toArray Q fuel listed a w:=by
 have hle:=hc.le
 have J8:nu sl [] (fun _=>sl) []:=fun β t v hv=>.inr ⟨fun oj h=>(Zq h).elim,hv⟩
 obtain ⟨B6,_,kL,fW⟩:=Uv.spec (sl:=sl) [] rfl rfl J8
 rw [Za] at kL fW
 rw [ZB,Zp,Zbi hle] at B6
 have dY:∀ (j:Nat) (o:Oper),j<m→l[j]? = some o→(l.take m)[j]? = some o:=fun j o hj ho=>by rw [ZC,if_pos hj];exact ho
 have fu:∀ (j:Nat) (o:Oper),(l.take m)[j]? = some o→j<m∧l[j]? = some o:=fun j o ho=>by
  rw [ZC] at ho
  split at ho
  ·exact ⟨by assumption,ho⟩
  ·cases ho
 have Pm:∀ j,j<m→∃ s,S[j]? = some s:=fun j hj=>⟨S[j]'(by omega),Zc (by omega)⟩
 have mA:∀ fuel listed a w,OF c D hs l m S a0 fuel listed a w→(∀ i,i<m→Ls listed i)→wpAnyIn (FR none) 0 P .any l.toArray Q fuel listed a w:=by
  intro fuel listed a w hI dT
  have hL:∀ i,i<l.length→(Ls listed i↔i<m):=fun i _=>⟨fun h=>ZQ fun hm=>hI.hi i hm h,dT i⟩
  obtain ⟨U,wK,ql,r7⟩:=hI.left
  have ic:U.Perm (List.range' m (l.length-m)):=by
   rw [Zaz wK (Zby)]
   intro i
   rw [ql i,ZaK]
   constructor
   ·rintro ⟨h1,h2⟩
    exact ⟨ZaQ fun h=>h2 (dT i h),by omega⟩
   ·rintro ⟨h1,h2⟩
    exact ⟨by omega,hI.hi i h1⟩
  have hlen:fuel=l.length-m:=by rw [← r7,ic.length_eq,Zbv]
  have Kd:listed=lH l.length m:=by
   have u9:(lH l.length m).size=l.length:=by simp [lH];omega
   apply Array.ext
   ·rw [hI.sz,u9]
   ·intro i h1 h2
    rw [hI.sz] at h1
    have h3:=hL i h1
    unfold Ls at h3
    rw [Zy,Zas (by rw [hI.sz];exact h1),Zaj] at h3
    have h4:(lH l.length m)[i]=decide (i<m):=by
     simp only [lH,List.getElem_toArray]
     by_cases hi:i<m
     ·rw [Zat (by simpa using hi)];simp [hi]
     ·rw [Zao (by simpa using hi)];simp [hi]
    rw [h4]
    by_cases hi:i<m
    ·rw [h3.2 hi];simp [hi]
    ·have:¬ listed[i]=true:=fun h=>hi (h3.1 h)
     simp [hi,this]
  subst hlen
  rw [Kd]
  obtain ⟨β,hm,gH⟩:=hI.own
  have e:dQ β (fun i=>listed.getD i false) S 0=dQ β (fun _=>true) S 0:=im fun j s hj=>by
   have ig:j<m:=by have:=(Zl.1 hj).1;omega
   rw [ZB]
   exact ⟨dT j ig,fun _=>rfl⟩
  rw [e] at hm
  refine tail β a w ⟨by rw [Zh];exact hm,fun t v hv=>?_,hI.size,hI.defers⟩
  rcases kL β t v hv with ⟨j,oj,s,h1,h2,h3,h4⟩ | ⟨h1,h2⟩
  ·obtain ⟨ig,l8⟩:=fu j oj h1
   rw [h4];exact gH j oj t s l8 h2 h3 (dT j ig)
  ·rw [hI.BA t fun j oj hj jF=>h1 oj (ZW (dY j oj (ZQ fun hm=>hI.hi j hm jF) hj))]
   exact h0 t v h2
 intro fuel
 induction fuel with
 | zero =>
  intro listed a w hI
  obtain ⟨U,_,ql,r7⟩:=hI.left
  have hU:U=[]:=Zan.1 r7
  refine mA 0 listed a w hI fun i hi=>Classical.byContradiction fun hn=>?_
  have:=(ql i).2 ⟨by omega,hn⟩
  rw [hU] at this;cases this
 | succ fuel ih =>
  intro listed a w hI
  by_cases dT:∀ i,i<m→Ls listed i
  ·exact mA _ listed a w hI dT
  ·have hex:∃ i,i<m∧¬ Ls listed i:=Classical.byContradiction fun hh=>dT fun i hi=>Classical.byContradiction fun hn=>hh ⟨i,hi,hn⟩
   obtain ⟨i0,wG,px⟩:=hex
   have main:∀ i,i∈Region.ready .any l.toArray listed→i<m→wpOpIn (FR none) 0 P l.toArray Q i (wpAnyIn (FR none) 0 P .any l.toArray Q fuel (listed.setIfInBounds i true)) a w∧(i∈p→wpAnyIn (FR none) 0 P .any l.toArray Q (fuel+1) listed a w):=by
    intro i hi o8
    obtain ⟨o,ho,hn,lQ⟩:=(dE hI.sz).1 hi
    obtain ⟨d,FE,s,hd,fH,rp,sU,eG⟩:=fW i o (Zi _) (dY i o o8 ho)
    obtain ⟨zI,zJ,B,hB,iu⟩:=eG
    obtain ⟨β,hm,gH⟩:=hI.own
    have kr:∀ (j:Nat),eR o j=true→Ls listed j:=fun j hw=>by
     obtain ⟨e,he,hb,nL⟩:=c5 hw
     rw [← nL];exact lQ e he hb
    have u7:∀ (j:Nat),kc l o j=true→Ls listed j:=fun j hw=>by
     unfold kc at hw
     rw [ZP] at hw
     rcases hw with hw | hw
     ·exact kr j hw
     ·obtain ⟨k,_,hk⟩:=ZM.1 hw
      rw [Zm] at hk
      have GK:=kr k hk.1
      cases hq:l[k]? with
      | none=>rw [hq] at hk;cases hk.2
      | some q =>
       rw [hq] at hk
       obtain ⟨e,he,hb,nL⟩:=c5 hk.2
       rw [← nL]
       exact hI.dc k q hq GK e he hb
    have pI:∀ (j:Nat) (oj:Oper) (e:Nat),l[j]? = some oj→j<m→j≠i→oj.dst=some e→d≠e:=by
     intro j oj e hj ig hne he
     rcases Zbm j i with h | h
     ·exact fun e'=>(di (o5 hc h o8 hj ho) he hd).1 e'.symm
     ·exact (di (o5 hc (show i<j by omega) ig ho hj) hd he).1
    have iw:i<listed.size:=by rw [hI.sz];omega
    have CI:mU o=true:=hc.op o (ZW ho)
    -- AD cS P9 AD operation looks at
    have hT:∀ t∈o.looksAt l.toArray,∀ v,cK (FE β) t=some v→a.tmps[t]? = some v:=by
     intro t ht v hv
     rcases sU β t v hv with ⟨j,oj,sj,h1,h2,h3,h4⟩ | ⟨h1,h2⟩
     ·have nq:j<i:=by have:=(Zl.1 h1).1;rw [Zp] at this;omega
      rw [ZC,if_pos nq] at h1 h3
      obtain ⟨ig,l8⟩:=fu j oj h1
      have jF:=kr j ((di (o5 hc nq o8 l8 ho) h2 hd).2 (.inl ht))
      rw [h4];exact gH j oj t sj l8 h2 h3 jF
     ·rw [hI.BA t fun j oj hj jF iE=>?_]
      ·exact h0 t v h2
      ·have ig:j<m:=ZQ fun hm=>hI.hi j hm jF
       rcases Zak j i with h | h | h
       ·exact h1 oj (ZW (by rw [ZC,if_pos h];exact dY j oj ig hj)) iE
       ·subst h;exact hn jF
       ·have hw:=(di (o5 hc h ig ho hj) hd iE).2 (.inr ht)
        obtain ⟨e,he,hb,nL⟩:=c5 hw
        have:=hI.dc j oj hj jF e he hb
        rw [nL] at this
        exact hn this
    have vj:∀ t v,cK (FE β) t=some v→t<c.nt:=by
     intro t v hv
     rcases sU β t v hv with ⟨j,oj,sj,h1,h2,_,_⟩ | ⟨_,h2⟩
     ·have nq:j<i:=by have:=(Zl.1 h1).1;rw [Zp] at this;omega
      rw [ZC,if_pos nq] at h1
      obtain ⟨d',_,_,wa,zU,_⟩:=fW j oj (Zi _) h1
      rw [h2] at wa;cases wa
      exact zU
     ·have:=h0 t v h2
      rw [← Kc]
      exact (ZX.1 this).1
    obtain ⟨a',lR,jz,_⟩:=oG hI.size vj hT
    have zW:jD c hs (S.take i) B β w:=by
     rintro A (rfl | ⟨j,hj,sj,h1,rfl⟩)
     ·exact hm.sublist ((ZaE _ _).trans (ZaP _ _))
     ·have nq:j<i:=by have:=(Zl.1 h1).1;rw [Zp] at this;omega
      rw [ZC,if_pos nq] at h1
      have jF:=u7 j (hB j hj)
      exact hm.sublist ((qT (lst:=fun i=>listed.getD i false) (i:=0) h1 (by rw [ZB];exact jF)).append (ZaE _ _))
    have hq:=iu β a' w lR zW
    have hex:=ix (o:=o) (ops:=l.toArray) CI jz
    -- PY a done operation TB VD not Vc on this one
    have oD:∀ j,Ls listed j→∀ x k,vO l j k=true→β k=uq β i x k:=by
     intro j jF x k hk
     refine (uo fun e=>?_).symm
     subst e
     unfold vO at hk
     rw [ZP] at hk
     rcases hk with hk | hk
     ·have:j=k:=by simpa using hk
      subst this;exact hn jF
     ·have RE:j<l.length:=by
       have ig:j<m:=ZQ fun hm=>hI.hi j hm jF
       omega
      exact hn (gZ hI.dc hc.ac j RE jF k hk)
    have gL:∀ v w',G6 i s β w v w'→wpAnyIn (FR none) 0 P .any l.toArray Q fuel (listed.setIfInBounds i true) (a.put o.dst v) w':=by
     rintro v w' ⟨x,rfl,hk,fp,kU,ir,r6⟩
     refine ih _ _ _ ⟨by simpa using hI.sz,?_,?_,by rw [hd];exact hI.defers,by simpa [Act.put,hd] using hI.size,?_,?_,uq β i x,?_,?_⟩
     ·intro k ok rH hL e he hb
      rw [ct iw] at hL ⊢
      rcases hL with e' | hL
      ·subst e'
       rw [ho] at rH;cases rH
       exact .inr (lQ e he hb)
      ·exact .inr (hI.dc k ok rH hL e he hb)
     ·intro k rH hL
      rw [ct iw] at hL
      rcases hL with e | hL
      ·omega
      ·exact hI.hi k rH hL
     ·intro t ht
      have h1:d≠t:=fun e=>by subst e;exact ht i o ho ((ct iw).2 (.inl rfl)) hd
      rw [hd]
      simp only [Act.put,ZH h1]
      exact hI.BA t fun j oj hj hL=>ht j oj hj ((ct iw).2 (.inr hL))
     ·obtain ⟨U,wK,ql,r7⟩:=hI.left
      refine ⟨U.erase i,wK.erase i,fun k=>?_,?_⟩
      ·rw [wK.mem_erase_iff,ql k,ct iw]
       constructor
       ·rintro ⟨h1,h2,h3⟩
        exact ⟨h2,fun h=>h.elim h1 h3⟩
       ·rintro ⟨h1,h2⟩
        exact ⟨fun e=>h2 (.inl e),h1,fun h=>h2 (.inr h)⟩
      ·have RF:i∈U:=(ql i).2 ⟨by omega,hn⟩
       rw [ZaD RF,r7];rfl
     ·have l7:Mem c (s.A (uq β i x)++(dQ β (fun i=>listed.getD i false) S 0++(hs++mw D))) w':=Mem.Pp (As:=[]) hm fun r9 _ hf=>by
       rw [show r9=[] from hf]
       exact ⟨hk,fp,kU,ir,fun b hb=>.inr (r6 b hb)⟩
      have e1:dQ β (fun i=>listed.getD i false) S 0=dQ (uq β i x) (fun i=>listed.getD i false) S 0:=im fun j sj hj=>by
       refine ⟨rfl,fun hl=>?_⟩
       rw [ZB] at hl
       have ig:j<m:=by have:=(Zl.1 hj).1;omega
       obtain ⟨oj,J9⟩:∃ oj,l[j]? = some oj:=⟨l[j]'(by omega),Zc (by omega)⟩
       obtain ⟨_,_,s2,_,_,hs2,_,vg⟩:=fW j oj (Zi _) (dY j oj ig J9)
       rw [hj] at hs2;cases hs2
       exact vg.zJ _ _ (oD j hl x)
      rw [e1,← Zh] at l7
      refine l7.perm ((qV (k:=i) rp ?_ ?_ ?_).append_right _)
      ·rw [ZB]
       show listed.getD i false=false
       have:¬ listed.getD i false=true:=hn
       simpa using this
      ·rw [ZB];exact (ct iw).2 (.inl rfl)
      ·intro j hj
       rw [ZB] at hj
       simp [Zy,ZH (Ne.symm hj)]
     ·intro j oj e sj hj he jH hL
      rw [ct iw] at hL
      by_cases nq:j=i
      ·subst nq
       rw [ho] at hj;cases hj
       rw [hd] at he;cases he
       rw [rp] at jH;cases jH
       rw [hd]
       simp [Act.put,hI.size,fH]
      ·have AN:=hL.resolve_left nq
       have ig:j<m:=ZQ fun hm=>hI.hi j hm AN
       obtain ⟨_,_,s2,_,_,hs2,_,vg⟩:=fW j oj (Zi _) (dY j oj ig hj)
       rw [jH] at hs2;cases hs2
       rw [hd]
       simp only [Act.put,ZH (pI j oj e hj ig nq he)]
       rw [← vg.zI _ _ (oD j AN x)]
       exact gH j oj e sj hj he jH AN
    have O4:=hq
    refine ⟨?_,fun UP=>?_⟩
    rotate_left
    ·obtain ⟨d',x',k',WO,pos',af',BY,Rb,eP⟩:=Gv i UP o8
     rw [ho] at BY;cases BY
     rw [if_pos (by simp [Region.wanted])] at O4
     unfold pz at O4
     obtain ⟨v,hv,B5⟩:=Cb O4
     have r6:Region.free .any l.toArray listed i=true:=yk eP fun j hj hne hb=>by
      have l8:j<l.length:=by simpa using hj
      have dA:((iC l []).getD i 0).testBit j=true:=by
       rw [Zy] at hb
       simpa [l8] using hb
      have Yb:j<listed.size:=by rw [hI.sz];exact l8
      rcases xL hc.ac hI.sz hI.dc hi dA with e | hL
      ·exact absurd e hne
      ·unfold Ls at hL
       rw [Zy,Zas Yb] at hL ⊢
       exact hL
     refine wpAnyIn_take (oi:=⟨some d',.extract x' k',WO,pos',af',none⟩) (v:=v) rfl (by simpa using ho) Rb r6 (by simpa using hi) (fun c a w h=>(WC c _ w h).elim) ⟨.inl ⟨by simp [Region.wanted],fun w2=>by rw [← hex];exact B5 w2⟩,fun w2=>rfl⟩ (gL v w hv)
    unfold wpOpIn
    rw [show l.toArray[i]? = some o from by simpa using ho]
    simp only []
    rw [gU jz] at hq
    split
    ·rename_i hw
     rw [if_pos hw] at hq
     refine ⟨dM _ _ _ _ _,?_⟩
     rw [Oper.semAt_eq _ _ _ (fun cc he=>by simp [mU,he] at CI),← hex]
     unfold pz at hq
     revert hq
     generalize (execOp a'.eval o).run P w=res
     intro hq
     match res,hq with
     | .ok (.value v) w',hq=>exact gL v w' hq
     | .ok (.enter f args) w', ⟨e, cr⟩ =>
      subst e
      refine ⟨by simp [FR,Fence.wide],(ie cr).mono fun e wh h=>?_⟩
      obtain ⟨v,rfl,hq⟩:=h
      exact gL v wh hq
    ·rename_i hw
     rw [if_neg hw] at hq
     exact ⟨fun _ _=>trivial,gL undef w hq⟩
   by_cases hp:∃ q,q∈p∧q<m∧q∈Region.ready .any l.toArray listed
   ·obtain ⟨q,NF,ye,Ur⟩:=hp
    exact (main q Ur ye).2 NF
   ·refine ⟨fun hr=>?_,fun i hi=>?_⟩
    ·obtain ⟨i,hi⟩:=ji hI.sz hc.ac ⟨i0,by omega,px⟩
     rw [hr] at hi;cases hi
    ·have o8:i<m:=ZQ fun hm=>by
      have LL:=zk hc hI.sz hI.dc hi hm
      have B5:∀ q,q<m→Ls listed q:=by
       intro q
       induction q using Nat.strongRecOn with
       | _ q ih =>
        intro XG
        by_cases ND:q∈p
        ·by_cases hLq:Ls listed q
         ·exact hLq
         ·refine absurd ⟨q,ND,XG,(dE hI.sz).2 ⟨l[q]'(by omega),Zc (by omega),hLq,fun e he hb=>?_⟩⟩ hp
          have aK:=jO hc.ac (Zc (show q<l.length by omega)) e he hb
          exact ih e.on (by omega) (by omega)
        ·exact LL q XG ND
      exact px (B5 i0 wG)
     exact (main i hi o8).1
theorem xr {id:Nat} (m:Nat) (p:List Nat) [qh:SG P] (fK:zj l m p=true) (Gv:∀ q∈p,Az l q) (k:oQ P c D hs l Q m 0 m l (fun _=>sl) []):Tr c D sl hs (WP P none (.region id l.toArray true) Q):=fun a w bb=>by
 obtain ⟨S,nH,hp,ht⟩:=k
 have h:(Code.region id l.toArray true).wpIn (FR none) 0 P (NP Q) a w:=wpIn_region_any qh.eq (by
  refine MY (p:=p) (zi fK) (fun q hq _=>Gv q hq) (fun c a w h=>h.elim) hp bb.cS bb.size (fun β a w bb=>ht β a w bb) l.toArray.size _ _ _ ⟨by simp,?_,?_,bb.defers,bb.size,fun t _=>rfl,?_,fun _=>undef,?_,?_⟩
  ·exact fun k o _ hL=>absurd hL (eQ _ _)
  ·exact fun k _ hL=>eQ _ _ hL
  ·exact ⟨List.range l.length,Zbs,fun i=>⟨fun h=>⟨by simpa using h,eQ _ _⟩,fun h=>by simpa using h.1⟩,by simp⟩
  ·have e:∀ (T:List cD) (i:Nat),dQ (fun _=>undef) (fun i=>(Array.replicate l.toArray.size false).getD i false) T i=[]:=by
    intro T
    induction T with
    | nil=>intro i;rfl
    | cons s T ih =>
     intro i
     have:=eQ l.toArray.size i
     unfold Ls at this
     unfold dQ
     rw [if_neg this,ih];rfl
   rw [e]
   exact bb.mem.drew
  ·exact fun j o d s _ _ _ hL=>absurd hL (eQ _ _))
 exact wpIn_mono h fun e a' w' h=>by
  cases e with
  | panic c=>exact h.elim
  | _=>exact h
end
theorem tR {l:List Oper} {p d k:Nat} {x:Operand} {ty:TypeId} {pos:String} {af:Array Edge} (h:l[p]? = some ⟨some d,.extract x k,ty,pos,af,none⟩) (h2:Region.noSelect l.toArray=true) (h3:Region.free .any l.toArray ((List.range l.length).map fun j=>((iC l []).getD p 0).testBit j).toArray p=true):Az l p:=⟨d,x,k,ty,pos,af,h,h2,h3⟩
end Go.SL
namespace Go.Proofs.A1
open Go Go.SL
def g4:Value→Value×Value×Value×Value
 | .agg a=>(a.getD 0 (.slice none 0 0),a.getD 1 (.slice none 0 0),a.getD 2 (.slice none 0 0),a.getD 3 (.slice none 0 0))
 | _=>(.slice none 0 0,.slice none 0 0,.slice none 0 0,.slice none 0 0)
theorem rr (x:Value×Value×Value×Value):∃ v,g4 v=x:=⟨.agg #[x.1,x.2.1,x.2.2.1,x.2.2.2],rfl⟩
def Dd (r:Ro) (o:ByteArray) (f:Int):Int:=aV [pb r o,fy f 0 10000000]
def nB (r:Ro) (l:List Od) (o:ByteArray) (f:Int):Int:=if CG r l≠0 then CG r l else if Dd r o f≠0 then Dd r o f else (fI r (l.take (fO l f))).2.2
def pT (r:Ro) (l:List Od) (o:ByteArray) (f:Int):List ByteArray:=if nB r l o f≠0 then [] else br (fI r (l.take (fO l f))).1 o
theorem Nu (l:List gG) (f:Int):gP (fun x:gG=>decide (f<x.fr)) l=if fO (cJ l) f<l.length then ((fO (cJ l) f:Nat):Int) else -1:=by
 have hn:fO (cJ l) f=l.findIdx fun x=>decide (f<x.fr):=by
  unfold fO cJ
  rw [List.findIdx_map];rfl
 rw [hn]
 by_cases c:(l.findIdx fun x=>decide (f<x.fr))<l.length
 ·rw [if_pos c]
  refine gp (fun i hi=>?_) c (List.findIdx_getElem (w:=c))
  have:=List.not_of_lt_findIdx hi
  rw [Zc (by omega)]
  simpa using this
 ·rw [if_neg c]
  refine fv fun i hi=>?_
  have:=List.not_of_lt_findIdx (p:=fun x:gG=>decide (f<x.fr)) (xs:=l) (i:=i) (by omega)
  rw [Zc hi]
  simpa using this
theorem G5.take {r:Ro} {l:List Od} (h:G5 r l) (n:Nat):G5 r (l.take n):=by
 refine ⟨by rw [Zp];have:=h.DZ;omega,fun k hk=>?_,fun i j hi hj wF=>?_,fun k hk=>?_⟩
 ·rw [Zp] at hk;rw [ZaJ];exact h.fr k (by omega)
 ·rw [Zp] at hi hj;rw [ZaJ,ZaJ];exact h.inc i j (by omega) (by omega) wF
 ·rw [Zp] at hk;rw [ZaJ];exact h.tk k (by omega)
theorem EG {r:Ro} {l:List Od} (hc:gC r=0) (hO:G5 r l) (h:(fI r l).2.2=0):∃ q,iZ r q∧(fI r l).1=r.wp q:=by
 unfold fI at h ⊢
 by_cases c:iy (q8 r l) l.length=0
 ·rw [if_pos c]
  obtain ⟨q,hq⟩:=Dj hc hO l.length (Zz _) (dj.1 c)
  exact ⟨q,hq.val,hq.eq⟩
 ·rw [if_neg c] at h;exact absurd h c
set_option maxHeartbeats 2000000 in
theorem Lr {r:Ro} {s d t p kv:Value} {l:List gG} (o:ByteArray) (f:Int) {w:World} (h:RR w r s d t p) (cI:lz r) (hw:Rd w kv 2 (lf l)) (hM:wX w l) :
  bh Tryz.prog 64 [RA r s d t p,kv,.string o,.int .i64 f] w [] (fun _:Value=>True) (fun v=>.tuple #[v,.int .i64 (nB r (cJ l) o f)]) (fun v=>[row 9 1 v (pT r (cJ l) o f).length (aM (pT r (cJ l) o f))]):=by
 have h1:=Rd.one h.sr
 have h2:=Rd.one h.de
 have h3:=Rd.one h.ti
 have h4:=Rd.one h.po
 have AF:=hw
 obtain ⟨a,cp,b,ow,rfl,c7,bQ,ha,hc⟩:=hw
 rw [eZ] at *
 unfold maxLen at bQ
 have nD:=jR l
 have Gy:∀ w',aH [] w w'→aj Tryz.prog 171 [.agg #[.int .i64 r.lv,.int .i64 r.ma,s,d,t,p],.slice a l.length cp] w' (.int .i64 (CG r (cJ l))):=fun w' hk=>pO (h.keeps hk) cI (AF.keeps hk) (hM.keeps hk)
 have mh:∀ w',aH [] w w'→aj Tryz.prog 112 [.agg #[.int .i64 r.lv,.int .i64 r.ma,s,d,t,p],.string o] w' (.int .i64 (pb r o)):=fun w' hk=>ew o (h.keeps hk)
 unfold RA
 refine aQ Tryz.func64 rfl rfl ?_
 (refine Jr<|Jy rfl rfl fun _ _=>Jy rfl rfl fun _ _=>Ja rfl<|Ja rfl<|Jn<|Jq<|Jr<|ab (cL (.there .here)) rfl<|Jv rfl<|ai bd rfl (fun w' aB=>(Gy w' (Mem.keeps aB)))<|Ja rfl<|Ji<|Jv rfl<|JD rfl<|Jn<|fP rfl (fun ar=>?_) fun ar=>?_;refine Jr<|Jv rfl<|Ja rfl<|Ja rfl<|Jn<|Ju ?_;rotate_left;refine Jk<|Jq<|Jq ?_;rotate_right)
 ·have e1:nB r (cJ l) o f=CG r (cJ l):=if_pos ar
  have e2:pT r (cJ l) o f=[]:=if_pos (by rw [e1];exact ar)
  rw [e1,e2]
  refine aP 9 1 ?_
  first | with_reducible apply aN | with_reducible apply aO
  case he=>exact fY rfl rfl rfl
  case hR=>
   intro w' aB
   exact aF (.slice none 0 0) trivial (by exact .cons .here .nil) aB rfl
 have S8:nB r (cJ l) o f=if Dd r o f≠0 then Dd r o f else (fI r ((cJ l).take (fO (cJ l) f))).2.2:=if_neg ar
 obtain ⟨AL,hO⟩:=Ix (Zo.1 ar)
 clear ar
 rename_i b4 wb b7 U5
 with_reducible refine cQ 6 (by kernel_rfl) ?_
 (refine an (cL (.there .here)) rfl<|an kA rfl<|aT bd rfl (fun w' aB=>(mh w' (Mem.keeps aB)))<|an (gT .here) rfl<|aT eK rfl (fun w' aB=>(mj f 0 10000000 w'))<|ek (aD (.cons (.of rfl) (.cons (.of rfl) .nil)) rfl rfl rfl rfl) rfl rfl ?_)
 with_reducible refine dp rfl fun bq mN=>?_
 (refine ai bL rfl (fun w' aB=>(dN (Mem.dh aB .here rfl rfl) (bU.cons (bU.cons bU.nil))))<|Ja rfl<|Ji<|Jv rfl<|JD rfl<|Jn<|fP rfl (fun ar=>?_) fun ar=>?_;refine Jr<|Jv rfl<|Ja rfl<|Ja rfl<|Jn<|Ju ?_;rotate_left;refine Jk<|Jr<|Jv rfl<|ab (bA .nil (.cons (.of rfl) .nil)) rfl ?_;rotate_right)
 ·have e1:nB r (cJ l) o f=Dd r o f:=by rw [S8];exact if_pos ar
  have e2:pT r (cJ l) o f=[]:=if_pos (by rw [e1];exact ar)
  rw [e1,e2]
  refine aP 9 1 ?_
  first | with_reducible apply aN | with_reducible apply aO
  case he=>exact fY rfl rfl rfl
  case hR=>
   intro w' aB
   exact aF (.slice none 0 0) trivial (by exact .cons .here .nil) aB rfl
 have eq2:nB r (cJ l) o f=(fI r ((cJ l).take (fO (cJ l) f))).2.2:=by rw [S8];exact if_neg ar
 clear S8
 have S8:=eq2
 have hsd:o∈cy r:=by
  have:=(bK (by decide)).1 (cq.1 (Zo.1 ar) (pb r o) (by simp))
  rwa [decide_eq_false_iff_not,cm,Classical.not_not] at this
 clear ar eq2
 with_reducible apply ai
 case hr=>exact bd
 case hd=>rfl
 case hc=>
  intro w' aB
  have f7:w'.cell? ⟨b7,0,none⟩=some (.int .i64 f):=At.lit (by exact Take.there .here) rfl w' aB
  exact Nw (f:=174) (p:=fun x:gG=>decide (f<x.fr)) (first:=[]) (cap:=[.pointer (some ⟨b7,0,none⟩)]) (AF.keeps aB.keeps) (fun x _ w2 eH=>MA (cn f7 rfl eH))
 rw [Nu]
 have LI:=CV (cJ l) f
 rw [nD] at LI
 by_cases kz:fO (cJ l) f<l.length
 ·rw [if_pos kz]
  have Q4:fO (cJ l) f≤l.length:=LI
  have Q5:fO (cJ l) f=fO (cJ l) f:=rfl
  refine Ja rfl<|Jn<|Jq<|Jr<|Jv rfl<|JA rfl<|Jn<|Jc rfl fun ar=>Jk<|Jq ?_
  have vb:nB r (cJ l) o f=(fI r ((cJ l).take (fO (cJ l) f))).2.2∧pT r (cJ l) o f=if (fI r ((cJ l).take (fO (cJ l) f))).2.2≠0 then [] else br (fI r ((cJ l).take (fO (cJ l) f))).1 o:=by
   have x1:nB r (cJ l) o f=(fI r ((cJ l).take (fO (cJ l) f))).2.2:=by rw [S8,Q5]
   refine ⟨x1,?_⟩
   unfold pT
   rw [x1,Q5]
  have R5:=hO.take (fO (cJ l) f)
  have nL:(cJ l).take (fO (cJ l) f)=cJ (l.take (fO (cJ l) f)):=by unfold cJ;rw [ZaT]
  rw [nL] at vb R5
  have vf:=EG AL R5
  have ve:Rd w (Go.sliced a 0 (((fO (cJ l) f):Nat):Int).toNat cp 2) 2 (lf (l.take (fO (cJ l) f))):=by
   have:=AF.sliced (l:=0) (m:=(fO (cJ l) f)) (Zi _) Q4
   rw [ZG]
   rwa [List.drop_zero,show (lf l).take (fO (cJ l) f)=lf (l.take (fO (cJ l) f)) by unfold lf;rw [ZaT]] at this
  have YV:wX w (l.take (fO (cJ l) f)):=fun x hx=>hM x (Zbl hx)
  rw [vb.1,vb.2]
  have rj:∀ w',aH [] w w'→bh Tryz.prog 172 [.agg #[.int .i64 r.lv,.int .i64 r.ma,s,d,t,p],Go.sliced a 0 (((fO (cJ l) f):Nat):Int).toNat cp 2] w' [] (fun _:Value×Value×Value×Value=>True) (fun x=>.tuple #[RA (fI r (cJ (l.take (fO (cJ l) f)))).1 x.1 x.2.1 x.2.2.1 x.2.2.2,.int .i64 (fI r (cJ (l.take (fO (cJ l) f)))).2.1,.int .i64 (fI r (cJ (l.take (fO (cJ l) f)))).2.2]) (fun x=>pC (fI r (cJ (l.take (fO (cJ l) f)))).1 x):=fun w' hk=>H3 (h.keeps hk) AL (ve.keeps hk) (YV.keeps hk) R5
  generalize fI r (cJ (l.take (fO (cJ l) f)))=R at vf rj ⊢
  obtain ⟨R,at_,e_⟩:=R
  dsimp only at vf rj ⊢
  with_reducible refine xr 10 [7,8] (by kernel_rfl) (ZA.2 ⟨tR rfl (by kernel_rfl) (by kernel_rfl),ZA.2 ⟨tR rfl (by kernel_rfl) (by kernel_rfl),fun _ h=>absurd h Zq⟩⟩) ?_
  (refine au (fun β=>(bS (.of rfl) bT ak (by rfl))) dz rfl<|au (fun β=>(a7 (.of rfl))) dz rfl<|au (fun β=>(a7 (.of rfl))) dz rfl<|au (fun β=>(gY (.of rfl) (.of rfl) (by omega) (by omega))) dz rfl ?_)
  dsimp only [Nat.zero_add,Nat.reduceAdd]
  with_reducible apply dH (ι:=Value×Value×Value×Value) (Φ:=fun _=>True) (val:=fun x=>.tuple #[.agg #[.int .i64 R.lv,.int .i64 R.ma,x.1,x.2.1,x.2.2.1,x.2.2.2],.int .i64 at_,.int .i64 e_]) (own:=fun x=>[J1 R x.1,J2 R x.2.1,J3 R x.2.2.1,J4 R x.2.2.2]) (g:=g4) (B:=[]) (args:=fun _=>[.agg #[.int .i64 r.lv,.int .i64 r.ma,s,d,t,p],Go.sliced a 0 (((fO (cJ l) f):Nat):Int).toNat cp 2])
  case hg=>exact rr
  case hB=>rfl
  case hr=>exact fun β=>aY (.of rfl) (.cons (.of rfl) (.cons (.of rfl) .nil)) inferInstance rfl
  case hd=>rfl
  case hc=>exact fun β w' hb=>rj w' hb.mem.keeps
  dsimp only [Nat.reduceAdd]
  with_reducible apply au
  case hr=>(intro β;exact a7 (.of rfl))
  case hi=>exact fun β β' h=>by simp only [h 4 (by kernel_rfl)]
  case hd=>rfl
  dsimp only [Nat.reduceAdd]
  with_reducible apply au
  case hr=>(intro β;exact dx (.of rfl) rfl)
  case hi=>exact fun β β' h=>by simp only [h 4 (by kernel_rfl)]
  case hd=>rfl
  dsimp only [Nat.reduceAdd]
  (refine au (fun β=>(dx (.of rfl) rfl)) dz rfl<|au (fun β=>(dx (.of rfl) rfl)) dz rfl ?_)
  refine lu (fun β=>(qS rfl)) (fun _ _ _=>rfl) rfl ?_
  refine fh fun β=>?_
  dsimp only [eu,Za,Zb,List.append_eq,Nat.reduceAdd]
  generalize fL (β 9)=CM
  generalize g4 (β 4)=y
  obtain ⟨s1,d1,t1,p1⟩:=y
  clear β
  dsimp only
  refine dq (r:=R) (s:=s1) (d:=d1) (t:=t1) (p:=p1) (by unfold pC PB;exact .cons .here (.cons .here (.cons .here (.cons .here .nil)))) fun m1 m2 m3 m4=>?_
  refine cu (rs:=[10]) (by kernel_rfl) (by simp) (ZA.2 ⟨?_,fun _ h=>absurd h Zq⟩)
  refine cG rfl ?_
  (refine aq (.of rfl) (.of rfl) dO rfl rfl (gE rfl rfl m1 m2 m3 m4) (bF rfl) ak<|Jn ?_)
  refine cu (rs:=[11]) (by kernel_rfl) (by simp) (ZA.2 ⟨?_,fun _ h=>absurd h Zq⟩)
  refine cG rfl ?_
  refine Ja rfl<|Jn ?_
  refine cu (rs:=[12]) (by kernel_rfl) (by simp) (ZA.2 ⟨?_,fun _ h=>absurd h Zq⟩)
  refine cG rfl ?_
  refine Ja rfl<|Jn ?_
  with_reducible refine cH (by kernel_rfl) ?_
  clear rj
  by_cases AI:e_=0
  ·obtain ⟨q,YR,NW⟩:=vf AI
   clear vf
   rw [if_neg (not_not_intro AI)]
   subst NW
   subst AI
   have Ux:=(G9 AL).wp YR
   have zR:=Ux.lim
   have DM:=Ux.len
   (refine Jt<|Jq<|Jr<|Jv rfl<|JD rfl<|Jn<|Jc rfl fun ar=>Jk<|Jr<|ab (cL .here) rfl<|Jv rfl ?_)
   have XX:(br (r.wp q) o).length=(r.wp q).lv.toNat:=by unfold br;simp
   rw [XX]
   generalize r.wp q=R at *
   refine JN bd rfl (fun w1 aR=>vl (r:=R) o ⟨cW aR (by exact Take.there .here) rfl,cX aR bT rfl,cV aR c6 rfl,cM aR dO rfl⟩ (by omega) (by omega)) ?_
   intro hv _
   dsimp only [id_eq,Zb,Za]
   refine aW (E:=9) (sz:=1) (v:=hv) (by exact .here) fun va vc e=>?_
   subst e
   refine Ja rfl<|Ja rfl<|Jn<|Je ?_
   first | with_reducible apply aN | with_reducible apply aO
   case he=>exact fY rfl rfl rfl
   case hR=>
    intro w' aB
    exact aF (.slice va R.lv.toNat vc) trivial (by exact .cons .here .nil) aB rfl
  ·clear vf
   rw [if_pos AI]
   refine Jt<|Jq<|Jr<|Jv rfl<|JD rfl<|Jn<|Jd rfl fun ar=>Jr<|Jv rfl<|Ja rfl<|Ja rfl<|Jn<|Ju ?_
   refine aP 9 1 ?_
   first | with_reducible apply aN | with_reducible apply aO
   case he=>exact fY rfl rfl rfl
   case hR=>
    intro w' aB
    exact aF (.slice none 0 0) trivial (by exact .cons .here .nil) aB rfl
 ·rw [if_neg kz]
  have Q4:l.length≤l.length:=Zz _
  have Q5:fO (cJ l) f=l.length:=by omega
  refine Ja rfl<|Jn<|Jq<|Jr<|Jv rfl<|JA rfl<|Jn<|Jd rfl fun ar=>Jg<|Jv rfl<|JI rfl<|Ja rfl<|Jn<|Jq ?_
  have vb:nB r (cJ l) o f=(fI r ((cJ l).take l.length)).2.2∧pT r (cJ l) o f=if (fI r ((cJ l).take l.length)).2.2≠0 then [] else br (fI r ((cJ l).take l.length)).1 o:=by
   have x1:nB r (cJ l) o f=(fI r ((cJ l).take l.length)).2.2:=by rw [S8,Q5]
   refine ⟨x1,?_⟩
   unfold pT
   rw [x1,Q5]
  have R5:=hO.take l.length
  have nL:(cJ l).take l.length=cJ (l.take l.length):=by unfold cJ;rw [ZaT]
  rw [nL] at vb R5
  have vf:=EG AL R5
  have ve:Rd w (Go.sliced a 0 ((l.length:Nat):Int).toNat cp 2) 2 (lf (l.take l.length)):=by
   have:=AF.sliced (l:=0) (m:=l.length) (Zi _) Q4
   rw [ZG]
   rwa [List.drop_zero,show (lf l).take l.length=lf (l.take l.length) by unfold lf;rw [ZaT]] at this
  have YV:wX w (l.take l.length):=fun x hx=>hM x (Zbl hx)
  rw [vb.1,vb.2]
  have rj:∀ w',aH [] w w'→bh Tryz.prog 172 [.agg #[.int .i64 r.lv,.int .i64 r.ma,s,d,t,p],Go.sliced a 0 ((l.length:Nat):Int).toNat cp 2] w' [] (fun _:Value×Value×Value×Value=>True) (fun x=>.tuple #[RA (fI r (cJ (l.take l.length))).1 x.1 x.2.1 x.2.2.1 x.2.2.2,.int .i64 (fI r (cJ (l.take l.length))).2.1,.int .i64 (fI r (cJ (l.take l.length))).2.2]) (fun x=>pC (fI r (cJ (l.take l.length))).1 x):=fun w' hk=>H3 (h.keeps hk) AL (ve.keeps hk) (YV.keeps hk) R5
  generalize fI r (cJ (l.take l.length))=R at vf rj ⊢
  obtain ⟨R,at_,e_⟩:=R
  dsimp only at vf rj ⊢
  with_reducible refine xr 10 [7,8] (by kernel_rfl) (ZA.2 ⟨tR rfl (by kernel_rfl) (by kernel_rfl),ZA.2 ⟨tR rfl (by kernel_rfl) (by kernel_rfl),fun _ h=>absurd h Zq⟩⟩) ?_
  (refine au (fun β=>(bS (.of rfl) bT ak (by rfl))) dz rfl<|au (fun β=>(a7 (.of rfl))) dz rfl<|au (fun β=>(a7 (.of rfl))) dz rfl<|au (fun β=>(gY (.of rfl) (.of rfl) (by omega) (by omega))) dz rfl ?_)
  dsimp only [Nat.zero_add,Nat.reduceAdd]
  with_reducible apply dH (ι:=Value×Value×Value×Value) (Φ:=fun _=>True) (val:=fun x=>.tuple #[.agg #[.int .i64 R.lv,.int .i64 R.ma,x.1,x.2.1,x.2.2.1,x.2.2.2],.int .i64 at_,.int .i64 e_]) (own:=fun x=>[J1 R x.1,J2 R x.2.1,J3 R x.2.2.1,J4 R x.2.2.2]) (g:=g4) (B:=[]) (args:=fun _=>[.agg #[.int .i64 r.lv,.int .i64 r.ma,s,d,t,p],Go.sliced a 0 ((l.length:Nat):Int).toNat cp 2])
  case hg=>exact rr
  case hB=>rfl
  case hr=>exact fun β=>aY (.of rfl) (.cons (.of rfl) (.cons (.of rfl) .nil)) inferInstance rfl
  case hd=>rfl
  case hc=>exact fun β w' hb=>rj w' hb.mem.keeps
  dsimp only [Nat.reduceAdd]
  with_reducible apply au
  case hr=>(intro β;exact a7 (.of rfl))
  case hi=>exact fun β β' h=>by simp only [h 4 (by kernel_rfl)]
  case hd=>rfl
  dsimp only [Nat.reduceAdd]
  with_reducible apply au
  case hr=>(intro β;exact dx (.of rfl) rfl)
  case hi=>exact fun β β' h=>by simp only [h 4 (by kernel_rfl)]
  case hd=>rfl
  dsimp only [Nat.reduceAdd]
  (refine au (fun β=>(dx (.of rfl) rfl)) dz rfl<|au (fun β=>(dx (.of rfl) rfl)) dz rfl ?_)
  refine lu (fun β=>(qS rfl)) (fun _ _ _=>rfl) rfl ?_
  refine fh fun β=>?_
  dsimp only [eu,Za,Zb,List.append_eq,Nat.reduceAdd]
  generalize fL (β 9)=CM
  generalize g4 (β 4)=y
  obtain ⟨s1,d1,t1,p1⟩:=y
  clear β
  dsimp only
  refine dq (r:=R) (s:=s1) (d:=d1) (t:=t1) (p:=p1) (by unfold pC PB;exact .cons .here (.cons .here (.cons .here (.cons .here .nil)))) fun m1 m2 m3 m4=>?_
  refine cu (rs:=[10]) (by kernel_rfl) (by simp) (ZA.2 ⟨?_,fun _ h=>absurd h Zq⟩)
  refine cG rfl ?_
  (refine aq (.of rfl) (.of rfl) dO rfl rfl (gE rfl rfl m1 m2 m3 m4) (bF rfl) ak<|Jn ?_)
  refine cu (rs:=[11]) (by kernel_rfl) (by simp) (ZA.2 ⟨?_,fun _ h=>absurd h Zq⟩)
  refine cG rfl ?_
  refine Ja rfl<|Jn ?_
  refine cu (rs:=[12]) (by kernel_rfl) (by simp) (ZA.2 ⟨?_,fun _ h=>absurd h Zq⟩)
  refine cG rfl ?_
  refine Ja rfl<|Jn ?_
  with_reducible refine cH (by kernel_rfl) ?_
  clear rj
  by_cases AI:e_=0
  ·obtain ⟨q,YR,NW⟩:=vf AI
   clear vf
   rw [if_neg (not_not_intro AI)]
   subst NW
   subst AI
   have Ux:=(G9 AL).wp YR
   have zR:=Ux.lim
   have DM:=Ux.len
   (refine Jt<|Jq<|Jr<|Jv rfl<|JD rfl<|Jn<|Jc rfl fun ar=>Jk<|Jr<|ab (cL .here) rfl<|Jv rfl ?_)
   have XX:(br (r.wp q) o).length=(r.wp q).lv.toNat:=by unfold br;simp
   rw [XX]
   generalize r.wp q=R at *
   refine JN bd rfl (fun w1 aR=>vl (r:=R) o ⟨cW aR (by exact Take.there .here) rfl,cX aR bT rfl,cV aR c6 rfl,cM aR dO rfl⟩ (by omega) (by omega)) ?_
   intro hv _
   dsimp only [id_eq,Zb,Za]
   refine aW (E:=9) (sz:=1) (v:=hv) (by exact .here) fun va vc e=>?_
   subst e
   refine Ja rfl<|Ja rfl<|Jn<|Je ?_
   first | with_reducible apply aN | with_reducible apply aO
   case he=>exact fY rfl rfl rfl
   case hR=>
    intro w' aB
    exact aF (.slice va R.lv.toNat vc) trivial (by exact .cons .here .nil) aB rfl
  ·clear vf
   rw [if_pos AI]
   refine Jt<|Jq<|Jr<|Jv rfl<|JD rfl<|Jn<|Jd rfl fun ar=>Jr<|Jv rfl<|Ja rfl<|Ja rfl<|Jn<|Ju ?_
   refine aP 9 1 ?_
   first | with_reducible apply aN | with_reducible apply aO
   case he=>exact fY rfl rfl rfl
   case hR=>
    intro w' aB
    exact aF (.slice none 0 0) trivial (by exact .cons .here .nil) aB rfl
end Go.Proofs.A1
namespace Go.Proofs
open Go.Shelf
def Tryz.sQ:Go.Shelf.Ren:=⟨fun | 156=>278 | 165=>326 | 166=>327 | 169=>328 | 240=>357 | 241=>358 | 276=>379 | 277=>380 | n=>n,fun | 31=>32 | 9=>9 | 3=>3 | 4=>4 | 0=>0 | 20=>20 | 72=>397 | 76=>401 | 70=>395 | 37=>351 | 75=>400 | 127=>421 | 164=>437 | 5=>5 | 80=>197 | n=>n,fun | n=>n⟩
theorem Tryz.EZ:Go.Proofs.Lays.n156 Tryz.prog Tryz.sQ:={
 mixed:=by kernel_rfl
 f156:=Tryz.func278.trans (congrArg some (by kernel_rfl))
 f165:=Tryz.func326.trans (congrArg some (by kernel_rfl))
 f166:=Tryz.func327.trans (congrArg some (by kernel_rfl))
 f169:=Tryz.func328.trans (congrArg some (by kernel_rfl))
 f240:=Tryz.func357.trans (congrArg some (by kernel_rfl))
 f241:=Tryz.func358.trans (congrArg some (by kernel_rfl))
 f276:=Tryz.func379.trans (congrArg some (by kernel_rfl))
 f277:=Tryz.func380.trans (congrArg some (by kernel_rfl))
 t0:=Tryz.underlying0
 a0:=Tryz.isAgg0
 z0:=Tryz.sizeOf0
 v0:=Tryz.zeroValue0
 t3:=Tryz.underlying3
 a3:=Tryz.isAgg3
 z3:=Tryz.sizeOf3
 v3:=Tryz.zeroValue3
 t4:=Tryz.underlying4
 a4:=Tryz.isAgg4
 z4:=Tryz.sizeOf4
 v4:=Tryz.zeroValue4
 t9:=Tryz.underlying9
 a9:=Tryz.isAgg9
 z9:=Tryz.sizeOf9
 v9:=Tryz.zeroValue9
 t20:=Tryz.underlying20
 a20:=Tryz.isAgg20
 z20:=Tryz.sizeOf20
 v20:=Tryz.zeroValue20
 t31:=Tryz.underlying32
 a31:=Tryz.isAgg32
 z31:=Tryz.sizeOf32
 v31:=Tryz.zeroValue32
 t37:=Tryz.underlying351
 a37:=Tryz.isAgg351
 z37:=Tryz.sizeOf351
 v37:=Tryz.zeroValue351
 t70:=Tryz.underlying395
 a70:=Tryz.isAgg395
 z70:=Tryz.sizeOf395
 v70:=Tryz.zeroValue395
 t72:=Tryz.underlying397
 a72:=Tryz.isAgg397
 z72:=Tryz.sizeOf397
 v72:=Tryz.zeroValue397
 t75:=Tryz.underlying400
 a75:=Tryz.isAgg400
 z75:=Tryz.sizeOf400
 v75:=Tryz.zeroValue400
 t76:=Tryz.underlying401
 a76:=Tryz.isAgg401
 z76:=Tryz.sizeOf401
 v76:=Tryz.zeroValue401
 t127:=Tryz.underlying421
 a127:=Tryz.isAgg421
 z127:=Tryz.sizeOf421
 v127:=Tryz.zeroValue421
 t164:=Tryz.underlying437
 a164:=Tryz.isAgg437
 z164:=Tryz.sizeOf437
 v164:=Tryz.zeroValue437 }
theorem Tryz.lV:Builder.Extra Tryz.prog Tryz.sQ:={
 sizeBuilder:=by kernel_rfl
 liesBuilder:=by kernel_rfl
 t5:=Tryz.underlying5
 a5:=Tryz.isAgg5
 z5:=Tryz.sizeOf5
 v5:=Tryz.zeroValue5
 infoByte:=by kernel_rfl
 cellsByte:=by kernel_rfl
 sizeByte:=by kernel_rfl
 neB5:=by decide }
open Go.RowKit in
theorem Tryz.strings_Join_none (a:Option Addr) (c:Nat) (sep:ByteArray) (w:World) :
  Calls Tryz.prog 278 #[.slice a 0 c,.string sep] w fun e w'=>e=.returned (.string ⟨#[]⟩)∧w'=w:=Any.strings_Join_none Tryz.EZ Tryz.lV a c sep w
open Go.RowKit in
theorem Tryz.strings_Join (bk o c:Nat) (xs:List ByteArray) (sep:ByteArray) (w:World) (RP:∀ (j:Nat) x,xs[j]? = some x→w.cell? ⟨bk,o+j,none⟩=some (.string x)) (hbk:bk<w.heap.size) (hN:xs.length≤140737488355328) (c7:xs.length≤c) (hlen:(Lib.join (xs.map (·.data.toList)) sep.data.toList).length≤140737488355328) :
  Calls Tryz.prog 278 #[.slice (some ⟨bk,o,none⟩) xs.length c,.string sep] w fun e w'=>e=.returned (.string ⟨(Lib.join (xs.map (·.data.toList)) sep.data.toList).toArray⟩)∧Below w.heap.size w w':=Any.strings_Join Tryz.EZ Tryz.lV bk o c xs sep w RP hbk hN c7 hlen
def Tryz.BI:Go.Shelf.Ren:=⟨fun | 243=>279 | 246=>329 | 283=>359 | 284=>360 | 285=>361 | 286=>362 | 129=>313 | 317=>381 | 318=>382 | 319=>383 | 320=>384 | 337=>393 | 338=>394 | n=>n,fun | 3=>3 | 9=>9 | 2=>2 | 4=>4 | 171=>422 | 0=>0 | 53=>383 | 37=>351 | 5=>5 | 173=>424 | 212=>441 | 51=>381 | 20=>20 | 213=>442 | 46=>318 | 232=>449 | 233=>450 | n=>n,fun | 17=>1 | 18=>3 | 19=>4 | n=>n⟩
theorem Tryz.Nn:Go.Proofs.Lays.n243 Tryz.prog Tryz.BI:={
 mixed:=by kernel_rfl
 f129:=Tryz.func313.trans (congrArg some (by kernel_rfl))
 f243:=Tryz.func279.trans (congrArg some (by kernel_rfl))
 f246:=Tryz.func329.trans (congrArg some (by kernel_rfl))
 f283:=Tryz.func359.trans (congrArg some (by kernel_rfl))
 f284:=Tryz.func360.trans (congrArg some (by kernel_rfl))
 f285:=Tryz.func361.trans (congrArg some (by kernel_rfl))
 f286:=Tryz.func362.trans (congrArg some (by kernel_rfl))
 f317:=Tryz.func381.trans (congrArg some (by kernel_rfl))
 f318:=Tryz.func382.trans (congrArg some (by kernel_rfl))
 f319:=Tryz.func383.trans (congrArg some (by kernel_rfl))
 f320:=Tryz.func384.trans (congrArg some (by kernel_rfl))
 f337:=Tryz.func393.trans (congrArg some (by kernel_rfl))
 f338:=Tryz.func394.trans (congrArg some (by kernel_rfl))
 t0:=Tryz.underlying0
 a0:=Tryz.isAgg0
 z0:=Tryz.sizeOf0
 v0:=Tryz.zeroValue0
 t2:=Tryz.underlying2
 a2:=Tryz.isAgg2
 z2:=Tryz.sizeOf2
 v2:=Tryz.zeroValue2
 t3:=Tryz.underlying3
 a3:=Tryz.isAgg3
 z3:=Tryz.sizeOf3
 v3:=Tryz.zeroValue3
 t4:=Tryz.underlying4
 a4:=Tryz.isAgg4
 z4:=Tryz.sizeOf4
 v4:=Tryz.zeroValue4
 t5:=Tryz.underlying5
 a5:=Tryz.isAgg5
 z5:=Tryz.sizeOf5
 v5:=Tryz.zeroValue5
 t9:=Tryz.underlying9
 a9:=Tryz.isAgg9
 z9:=Tryz.sizeOf9
 v9:=Tryz.zeroValue9
 t20:=Tryz.underlying20
 a20:=Tryz.isAgg20
 z20:=Tryz.sizeOf20
 v20:=Tryz.zeroValue20
 t37:=Tryz.underlying351
 a37:=Tryz.isAgg351
 z37:=Tryz.sizeOf351
 v37:=Tryz.zeroValue351
 t46:=Tryz.underlying318
 a46:=Tryz.isAgg318
 z46:=Tryz.sizeOf318
 v46:=Tryz.zeroValue318
 t51:=Tryz.underlying381
 a51:=Tryz.isAgg381
 z51:=Tryz.sizeOf381
 v51:=Tryz.zeroValue381
 t53:=Tryz.underlying383
 a53:=Tryz.isAgg383
 z53:=Tryz.sizeOf383
 v53:=Tryz.zeroValue383
 t171:=Tryz.underlying422
 a171:=Tryz.isAgg422
 z171:=Tryz.sizeOf422
 v171:=Tryz.zeroValue422
 t173:=Tryz.underlying424
 a173:=Tryz.isAgg424
 z173:=Tryz.sizeOf424
 v173:=Tryz.zeroValue424
 t212:=Tryz.underlying441
 a212:=Tryz.isAgg441
 z212:=Tryz.sizeOf441
 v212:=Tryz.zeroValue441
 t213:=Tryz.underlying442
 a213:=Tryz.isAgg442
 z213:=Tryz.sizeOf442
 t232:=Tryz.underlying449
 a232:=Tryz.isAgg449
 z232:=Tryz.sizeOf449
 v232:=Tryz.zeroValue449
 t233:=Tryz.underlying450
 a233:=Tryz.isAgg450
 z233:=Tryz.sizeOf450
 v233:=Tryz.zeroValue450
 g17:=by kernel_rfl
 g18:=by kernel_rfl
 g19:=by kernel_rfl }
open Go.RowKit Go.Sort Go.Lib in
theorem Tryz.internal_strconv_Itoa_small (i:Nat) (hi:i<100) (w:World) :
  Calls Tryz.prog 279 #[.int .i64 i] w fun e w'=>e=.returned (.string ⟨(Lib.decDigits i).toArray⟩)∧w'=w:=Any.internal_strconv_Itoa_small Tryz.Nn i hi w
end Go.Proofs
namespace Go
def Result.up {α:Type} (w:World):Result α→Prop
  | .ok _ w'=>w.drawn≤w'.drawn
  | .halt _ w'=>w.drawn≤w'.drawn
theorem Result.dy {α:Type} {w w':World} (h:w.drawn≤w'.drawn) {r:Result α} (k:r.up w'):r.up w:=by
  cases r <;> exact Nat.le_trans h k
theorem SD {α:Type} (a:Ask α):∀ w:World,w.drawn≤(w.ask a).2.drawn:=by
  induction a with
  | done a=>intro w;exact Nat.le_refl _
  | ask PY range k ih =>
    intro w
    unfold World.ask
    dsimp only
    split
    · exact ih _ w
    · exact Nat.le_trans (Nat.le_succ _) (ih _ { w with drawn:=w.drawn+1 })
theorem Qa (w:World) (c:Sys):w.drawn≤(w.sys c).2.drawn:=by
  unfold World.sys
  have h:=SD (Kernel.perform c w.os) w
  generalize w.ask (Kernel.perform c w.os)=r at h
  obtain ⟨⟨x,os⟩,w'⟩:=r
  cases x <;> first | exact Nat.le_refl _ | exact h
theorem yG {p:Program} {w:World} {at_:Addr} {u:TypeId} {k:Addr} {v:Value} {atomic:Bool} {r:World×List Addr}
    (h:w.viewStore p at_ u k v atomic=.ok r):r.1.drawn=w.drawn:=by
  unfold World.viewStore at h
  simp only [bind,Except.bind,pure,Except.pure,throw,throwThe,MonadExceptOf.throw] at h
  repeat' split at h
  all_goals first | (cases h;rfl) | (injection h with h;rw [← h]) | nomatch h
theorem Ca {p:Program} {w:World} {a:Addr} {v:Value} {atomic:Bool} {r:World×List Addr}
    (h:w.farStore p a v atomic=.ok r):r.1.drawn=w.drawn:=by
  unfold World.farStore at h
  split at h
  · split at h
    · next e=>injection h with h;rw [← h];exact yG e
    · nomatch h
  · nomatch h
theorem GO (w:World) (a:Addr) (n:Nat):(w.freeze a n).drawn=w.drawn:=by
  unfold World.freeze;split <;> rfl
theorem y9 {α:Type} (p:Program) (s:Sem α):∀ w:World,(s.run p w).up w:=by
  induction s with
  | pure a=>intro w;exact Nat.le_refl _
  | load m a k ih =>
    intro w;unfold Sem.run
    split
    · exact ih _ w
    · split
      · exact ih _ w
      · exact Nat.le_refl _
  | store m a v k ih =>
    intro w
    cases v <;> first
      | exact Nat.le_refl _
      | (simp only [Sem.run]
         split
         · split
           · exact Nat.le_refl _
           · exact ih (w.setCell _ _)
         · split
           · next hf=>exact Result.dy (Nat.le_of_eq (Ca hf).symm) (ih _)
           · exact Nat.le_refl _)
  | new o k ih=>intro w;exact ih _ _
  | shape r k ih=>intro w;exact ih _ w
  | freeze a n k ih=>intro w;exact Result.dy (Nat.le_of_eq (GO w a n).symm) (ih (w.freeze a n))
  | frozen a k ih=>intro w;exact ih _ w
  | getObj r k ih =>
    intro w;unfold Sem.run
    split
    · exact Nat.le_refl _
    · exact ih _ w
    · exact Nat.le_refl _
  | setObj r o k ih =>
    intro w;unfold Sem.run
    split
    · exact Nat.le_refl _
    · exact ih _
    · exact Nat.le_refl _
  | choose q k ih =>
    intro w;unfold Sem.run
    split
    · exact ih _ w
    · exact Result.dy (Nat.le_succ w.drawn) (ih _ { w with drawn:=w.drawn+1 })
  | sys c k ih=>intro w;exact Result.dy (Qa w c) (ih _ _)
  | program k ih=>intro w;exact ih _ w
  | mark m k ih=>intro w;exact ih w
  | halt h=>intro w;exact Nat.le_refl _
theorem qO {α:Type} (p:Program) (s:Sem α) (w:World) (es:Array Event):(s.runT p w es).1.up w:=by
  rw [Sem.runT_fst];exact y9 p s w
theorem gK {α:Type} {p:Program} {s:Sem α} {w w':World} {a:α} (h:s.run p w=.ok a w'):w.drawn≤w'.drawn:=by
  have k:=y9 p s w
  rw [h] at k;exact k
theorem NU {α:Type} {p:Program} {s:Sem α} {w w':World} {a:Halt} (h:s.run p w=.halt a w'):w.drawn≤w'.drawn:=by
  have k:=y9 p s w
  rw [h] at k;exact k
theorem QL {α:Type} {p:Program} {s:Sem α} {w w':World} {es N9:Array Event} {a:α} (h:s.runT p w es=(.ok a w',N9)):w.drawn≤w'.drawn:=by
  have k:=qO p s w es
  rw [h] at k;exact k
theorem Kt {α:Type} {p:Program} {s:Sem α} {w w':World} {es N9:Array Event} {a:Halt} (h:s.runT p w es=(.halt a w',N9)):w.drawn≤w'.drawn:=by
  have k:=qO p s w es
  rw [h] at k;exact k
theorem jv {α:Type} {p:Program} {s:Sem α} {w w':World} {es:Array Event} {a:α} (h:(s.runT p w es).1=.ok a w'):w.drawn≤w'.drawn:=by
  have k:=qO p s w es
  rw [h] at k;exact k
theorem kV {α:Type} {p:Program} {s:Sem α} {w w':World} {es:Array Event} {a:Halt} (h:(s.runT p w es).1=.halt a w'):w.drawn≤w'.drawn:=by
  have k:=qO p s w es
  rw [h] at k;exact k
def GStep.up (w:World):GStep→Prop
  | .go _ w' _=>w.drawn≤w'.drawn
  | .comm _ _ _ _ w' _=>w.drawn≤w'.drawn
  | .spawn _ _ w' _=>w.drawn≤w'.drawn
  | .count _ w' _=>w.drawn≤w'.drawn
  | .timer _ _ w' _=>w.drawn≤w'.drawn
  | .alone _ _ w' _=>w.drawn≤w'.drawn
  | .newcoro _ _ _ w' _=>w.drawn≤w'.drawn
  | .coroswitch _ _ _ w' _=>w.drawn≤w'.drawn
  | .collect _ w' _=>w.drawn≤w'.drawn
  | .watch _ w' _=>w.drawn≤w'.drawn
  | .ended _ _ _=>True
theorem GStep.dy {w w':World} (h:w.drawn≤w'.drawn) {s:GStep} (k:s.up w'):s.up w:=by
  cases s <;> first | trivial | exact Nat.le_trans h k
theorem GStep.yH {w:World} {c:Prop} [Decidable c] {s t:GStep} (h:s.up w) (k:t.up w):(if c then s else t).up w:=by
  split
  · exact h
  · exact k
theorem GStep.iS {w:World} (es:Array Event) {s:GStep} (k:s.up w):(s.after es).up w:=by
  cases s <;> exact k
theorem oH (fr:Frame) (m:String) (w:World):(endThrow fr m w).up w:=Nat.le_refl _
theorem D4 (w0 w:World) (fd:Nat) (text:ByteArray) (o:Outcome):(endWith w fd text o).up w0:=by
  unfold endWith;dsimp only
  split
  · split <;> trivial
  · trivial
  · trivial
theorem oI (p:Program) (fr:Frame) (v:Value) (w:World):(endPrinting p fr v w).up w:=by
  unfold endPrinting;dsimp only
  split
  · exact oH _ _ _
  · trivial
theorem td (p:Program) (fr:Frame) (callers:List Frame) (dying:Option Dying) (m:String) (w:World):(endFatal p fr callers dying m w).up w:=by
  unfold endFatal;dsimp only
  split
  · next h=>exact gK h
  · trivial
  · trivial
theorem CQ (p:Program) (fr:Frame) (d:Dying) (f:Fatal) (w:World):(writeOn p fr d f w).up w:=by
  unfold writeOn;dsimp only
  split
  · trivial
  · split
    · next h=>exact QL h
    · next h=>exact Kt h
    · trivial
    · trivial
theorem Si (p:Program) (fr:Frame) (d:Dying) (w:World):(die p fr d w).up w:=by
  unfold die;dsimp only
  split
  · exact CQ _ _ _ _ _
  · split
    · split
      · exact Nat.le_refl _
      · exact D4 _ _ _ _ _
    · split
      · exact Nat.le_refl _
      · split
        · next h=>exact gK h
        · trivial
      · apply GStep.iS
        split
        · next h=>exact jv h
        · next h=>exact jv h
        · trivial
        · next h=>exact GStep.dy (kV h) (oI _ _ _ _)
        · trivial
      · trivial
theorem j9 (p:Program) (main:Bool) (fr:Frame) (callers:List Frame) (dying:Option Dying) (v:Value) (w:World) :
    (doReturn p main fr callers dying v w).up w:=by
  unfold doReturn;dsimp only
  repeat' split
  all_goals first | trivial | exact Nat.le_refl _
theorem tD (p:Program) (fr:Frame) (callers:List Frame) (dying:Option Dying) (d:Deferred) (w:World) :
    (callDeferred p fr callers dying d w).up w:=by
  unfold callDeferred;dsimp only
  apply GStep.yH
  · trivial
  · apply GStep.iS
    repeat' split
    all_goals first
      | trivial
      | exact jv (by assumption)
      | exact kV (by assumption)
      | exact GStep.dy (kV (by assumption)) (td _ _ _ _ _ _)
      | exact GStep.dy (kV (by assumption)) (oH _ _ _)
theorem FK (p:Program) (main:Bool) (fr:Frame) (callers:List Frame) (dying:Option Dying) (w:World) :
    (unwind p main fr callers dying w).up w:=by
  unfold unwind;dsimp only
  split
  · apply GStep.iS
    split
    · next h=>exact jv h
    · trivial
  · exact tD _ _ _ _ _ _
  · split
    · trivial
    · split
      · trivial
      · split
        · exact Nat.le_refl _
        · split
          · split
            · exact Nat.le_refl _
            · split
              · next h=>exact gK h
              · trivial
              · trivial
          · split
            · exact oI _ _ _ _
            · trivial
    · split
      · exact j9 _ _ _ _ _ _ _
      · apply GStep.iS
        split
        · next h=>exact GStep.dy (jv h) (j9 _ _ _ _ _ _ _)
        · trivial
        · trivial
theorem KJ (p:Program) (fr:Frame) (callers:List Frame) (dying:Option Dying) (g:Nat) (w:World) :
    (early p fr callers dying g w).up w:=by
  unfold early;dsimp only
  repeat' split
  all_goals first
    | trivial
    | exact Nat.le_refl _
    | (next h _=>have k:=gK h;exact k)
    | (next h _ _=>have k:=gK h;exact k)
    | (next h=>have k:=gK h;exact k)
    | (next h _ _ _=>have k:=gK h;exact k)
    | (next h _ _ _ _=>have k:=gK h;exact k)
theorem rD (p:Program) (listen:Bool) (fr:Frame) (callers:List Frame) (dying:Option Dying) (s:Sem Next) (w:World) :
    (stepG.apply p listen fr callers dying s w).up w:=by
  unfold stepG.apply;dsimp only
  apply GStep.iS
  have hr:∃ r:Result Next×Array Event,(if listen=true then s.runT p w #[] else (s.run p w,#[]))=r∧r.1.up w:=by
    refine ⟨_,rfl,?_⟩
    split
    · exact qO p s w #[]
    · exact y9 p s w
  obtain ⟨r,hr,hu⟩:=hr
  rw [hr]
  generalize r.1=r1 at hu ⊢
  repeat' split
  all_goals first
    | trivial
    | exact Tn hu (by assumption)
    | exact Ma hu (by assumption)
    | exact hu
    | (refine GStep.dy ?_ (oH _ _ _);first | exact hu | exact Tn hu (by assumption) | exact Ma hu (by assumption))
    | (refine GStep.dy ?_ (td _ _ _ _ _ _);exact hu)
    | (refine GStep.dy ?_ (KJ _ _ _ _ _ _);exact hu)
theorem EO (p:Program) (listen:Bool) (fr:Frame) (callers:List Frame) (dying:Option Dying) (w:World) :
    (stepG.oper p listen fr callers dying w).up w:=by
  unfold stepG.oper
  repeat' split
  all_goals first | trivial | exact rD _ _ _ _ _ _ _
theorem N7 (p:Program) (main listen:Bool) (fr:Frame) (callers:List Frame) (dying:Option Dying) (w:World) :
    (stepG.exec p main listen fr callers dying w).up w:=by
  unfold stepG.exec;dsimp only
  split
  all_goals first
    | trivial
    | exact Nat.le_refl _
    | (split
       · first | exact Nat.le_refl _ | (apply GStep.yH <;> first | exact Nat.le_refl _ | trivial) | trivial
       · apply GStep.iS
         split
         · next h=>exact GStep.dy (jv h) (j9 _ _ _ _ _ _ _)
         · trivial)
    | (split <;> first | exact Nat.le_refl _ | trivial)
    | (generalize exitTo _ _ = o; cases o with
       | none =>
         split
         · first | exact Nat.le_refl _ | (apply GStep.yH <;> first | exact Nat.le_refl _ | trivial) | trivial
         · apply GStep.iS
           split
           · next h=>exact GStep.dy (jv h) (j9 _ _ _ _ _ _ _)
           · trivial
       | some k=>exact Nat.le_refl _)
    | (generalize gotoIn _ _ = o; cases o with
       | none =>
         split
         · first | exact Nat.le_refl _ | (apply GStep.yH <;> first | exact Nat.le_refl _ | trivial) | trivial
         · apply GStep.iS
           split
           · next h=>exact GStep.dy (jv h) (j9 _ _ _ _ _ _ _)
           · trivial
       | some k=>exact Nat.le_refl _)
    | (apply GStep.iS
       split
       · next h=>first | (have k:=jv h;exact k) | exact GStep.dy (jv h) (rD _ _ _ _ _ _ _)
       · first | trivial | (next h=>have k:=kV h;exact k)
       done)
    | (apply GStep.iS
       split
       · next h=>(have k:=jv h;exact k)
       · next h=>(have k:=kV h;exact k)
       · trivial)
    | exact rD _ _ _ _ _ _ _
    | exact EO _ _ _ _ _ _
    | (generalize Extern.next _ = o; cases o with
       | none=>trivial
       | some e=>exact rD _ _ _ _ _ _ _)
    | (split
       · exact Nat.le_refl _
       · split
         · next h=>have k:=gK h;exact k
         · trivial)
    | (split
       · exact EO _ _ _ _ _ _
       · exact Nat.le_refl _)
    | skip
theorem HL (p:Program) (main:Bool) (g:Goroutine) (w:World) (listen:Bool):(stepG p main g w listen).up w:=by
  unfold stepG
  split
  split
  · exact Si _ _ _ _
  · exact N7 _ _ _ _ _ _ _
  · exact FK _ _ _ _ _ _
def Stepped.up (w:World):Stepped→Prop
  | .next m=>w.drawn≤m.world.drawn
  | .ended _ _=>True
theorem Stepped.dy {w w':World} (h:w.drawn≤w'.drawn) {s:Stepped} (k:s.up w'):s.up w:=by
  cases s <;> first | trivial | exact Nat.le_trans h k
theorem zB (p:Program) (gs:Array Goroutine) (rest:Rest) (w:World):(look p gs rest w).up w:=by
  unfold look;dsimp only
  split
  · split
    · trivial
    · split
      · trivial
      · split
        · next h=>have k:=gK h;exact k
        · trivial
        · trivial
  · trivial
theorem yF {rest:Rest} {cases:Array CommCase} {w w':World} (h:waitingAt rest cases w=some w'):w.drawn≤w'.drawn:=by
  unfold waitingAt at h
  split at h
  · split at h
    · injection h with h;rw [← h];exact Nat.le_refl _
    · nomatch h
  · injection h with h;rw [← h];exact Nat.le_refl _
theorem vE (p:Program) (rest:Rest) (gs:Array Goroutine) (i:Nat) (g:Goroutine) (cases:Array CommCase) (Cq:Bool)
    (shape:CommShape) (w:World):(communicate p rest gs i g cases Cq shape w).1.up w:=by
  unfold communicate;dsimp only
  split
  · trivial
  · split
    · split
      · split
        · next h=>exact yF h
        · trivial
      · exact Nat.le_refl _
    · split
      · trivial
      · next h=>
        have k:=gK h
        split
        · split
          · next h2=>
            have k2:=NU h2
            exact Nat.le_trans k k2
          · trivial
        · exact k
        · exact k
        · split
          · exact k
          · split
            · next h3=>have k3:=gK h3;exact Nat.le_trans k k3
            · trivial
        · exact k
        · exact k
        · trivial
theorem KK (w:World) (c:Nat):(drain w c).2.drawn=w.drawn:=by
  unfold drain;split <;> rfl
theorem xJ (m:Machine) (k:Nat) (t:Timer) (when period:Nat):(retime m k t when period).2.world.drawn=m.world.drawn:=by
  unfold retime;dsimp only
  split
  · exact KK _ _
  · rfl
theorem BG {m:Machine} {var:Addr} {f:Nat→Timer→Value×Machine} {n:Nat} (hf:∀ k t,(f k t).2.world.drawn=n) {r:Value×Machine}
    (h:timerOp.named m var f=.ok r):r.2.world.drawn=n:=by
  unfold timerOp.named at h
  split at h
  · injection h with h;rw [← h];exact hf _ _
  · nomatch h
theorem Gf {m m':Machine} {var:Addr} (h:timerOp.opened m var=some m'):m'.world.drawn=m.world.drawn:=by
  unfold timerOp.opened at h
  split at h
  · split at h
    · injection h with h;rw [← h]
    · nomatch h
  · injection h with h;rw [← h]
theorem C5 {m:Machine} {op:TimerOp} {r:Value×Machine} (h:timerOp m op=.ok r):r.2.world.drawn=m.world.drawn:=by
  unfold timerOp at h
  split at h
  · split at h
    · injection h with h;rw [← h];rfl
    · split at h
      · split at h
        · nomatch h
        · injection h with h;rw [← h]
      · nomatch h
  · exact BG (fun k t=>xJ m k t 0 t.period) h
  · split at h
    · next ho=>exact (BG (fun k t=>xJ _ k t _ _) h).trans (Gf ho)
    · nomatch h
  · injection h with h;rw [← h];rfl
theorem HV (p:Program) (m:Machine) (k:Nat):(serve p m k).up m.world:=by
  unfold serve;dsimp only
  split
  · trivial
  · exact Nat.le_refl _
  · split
    · trivial
    · exact Nat.le_refl _
def Move.up (w:World):Move→Prop
  | .goroutine m _=>w.drawn≤m.world.drawn
  | .machine s _=>s.up w
theorem vL (p:Program) (m:Machine):(askOn p m).up m.world:=by
  unfold askOn;dsimp only
  split
  · trivial
  · next h=>
    have k:=gK h
    split
    · exact Stepped.dy k (HV _ _ _)
    · split
      · split
        · exact k
        · split
          · exact k
          · split
            · trivial
            · trivial
      · split
        · split
          · trivial
          · next h0=>
            have k0:=gK h0
            split
            · exact Nat.le_trans k k0
            · split
              · trivial
              · next h3=>have k3:=gK h3;exact Nat.le_trans k (Nat.le_trans k0 k3)
        · split
          · trivial
          · next h2=>
            have k2:=gK h2
            split
            · trivial
            · next h0=>
              have k0:=gK h0
              split
              · exact Nat.le_trans (Nat.le_trans k k2) k0
              · split
                · trivial
                · next h3=>have k3:=gK h3;exact Nat.le_trans (Nat.le_trans k k2) (Nat.le_trans k0 k3)
          · next h2=>have k2:=gK h2;exact Nat.le_trans k k2
          · next h2=>
            have k2:=gK h2
            split
            · trivial
            · next h0=>
              have k0:=gK h0
              split
              · exact Nat.le_trans (Nat.le_trans k k2) k0
              · split
                · trivial
                · next h3=>have k3:=gK h3;exact Nat.le_trans (Nat.le_trans k k2) (Nat.le_trans k0 k3)
theorem Move.dy {w w':World} (h:w.drawn≤w'.drawn) {s:Move} (k:s.up w'):s.up w:=by
  cases s with
  | goroutine m i=>exact Nat.le_trans h k
  | machine s ops=>exact Stepped.dy h k
theorem FB (p:Program) (m:Machine):(Go.ask p m).up m.world:=by
  unfold Go.ask
  split
  · split
    · trivial
    · next h=>
      have k:=gK h
      split
      · next hl=>
        have k2:=zB p m.gs m.rest ‹World›
        rw [hl] at k2
        exact Move.dy (Nat.le_trans k k2) (vL _ _)
      · exact Stepped.dy k (zB _ _ _ _)
    · next h=>have k:=gK h;exact Move.dy k (vL _ _)
  · exact vL _ _
theorem Nc (p:Program) (m:Machine):(move p m).up m.world:=by
  unfold move
  split
  · split
    · exact Nat.le_refl _
    · trivial
  · split
    · split
      · exact Nat.le_refl _
      · exact FB p { m with rest:=_ }
    · exact FB p m
theorem zd (p:Program) (m:Machine) (i:Nat) (listen:Bool):(Go.runT p m i listen).1.up m.world:=by
  unfold Go.runT;dsimp only
  have h:=HL p (i==0) (m.gs.swapAt! i { (default:Goroutine) with status:=.finished }).1 m.world listen
  generalize stepG p (i==0) (m.gs.swapAt! i { (default:Goroutine) with status:=.finished }).1 m.world listen=s at h ⊢
  cases s with
  | ended o w es=>trivial
  | comm g cases Cq shape w es=>exact Stepped.dy h (vE _ _ _ _ _ _ _ _ _)
  | go g w es=>exact h
  | spawn g child w es=>exact h
  | count g w es =>
    dsimp only
    split
    · trivial
    · exact h
  | alone g on w es=>exact h
  | collect g w es=>exact Stepped.dy h (zB _ _ _ _)
  | watch g w es=>exact h
  | newcoro g c d w es=>exact h
  | coroswitch g c exit w es =>
    dsimp only
    split
    · exact h
    · exact h
    · trivial
  | timer g op w es =>
    dsimp only
    split
    · next ht=>have k:=C5 ht;exact Nat.le_trans h (Nat.le_of_eq k.symm)
    · exact h
    · trivial
    · trivial
theorem Ms (p:Program) (m:Machine):(step p m).up m.world:=by
  unfold step stepT
  have h:=Nc p m
  generalize move p m=v at h ⊢
  cases v with
  | goroutine m' i=>exact Stepped.dy h (zd p m' i true)
  | machine s ops=>exact h
theorem MH (p:Program) (n:Nat):∀ m:Machine,(runN p n m).up m.world:=by
  induction n with
  | zero=>intro m;exact Nat.le_refl _
  | succ n ih =>
    intro m
    have h:=Ms p m
    unfold runN
    generalize step p m=s at h ⊢
    cases s with
    | next m'=>exact Stepped.dy h (ih m')
    | ended o w=>trivial
theorem Steps.up {P:Program} {m m':Machine} (h:Steps P m m'):m.world.drawn≤m'.world.drawn:=by
  obtain ⟨n,hn⟩:=h
  have k:=MH P n m
  rw [hn] at k;exact k
theorem Calls.up {P:Program} {f:FuncId} {args:Array Value} {w:World} {v:Value} {R:World→Prop}
    (h:Calls P f args w fun e w'=>e=.returned v∧R w'):Calls P f args w fun e w'=>e=.returned v∧R w'∧w.drawn≤w'.drawn:=by
  intro cs
  obtain ⟨e,w',fr,⟨rfl,hR⟩,hc,hf,hl⟩:=h cs
  exact ⟨_,w',fr,⟨rfl,hR,Steps.up hc⟩,hc,hf,hl⟩
end Go
