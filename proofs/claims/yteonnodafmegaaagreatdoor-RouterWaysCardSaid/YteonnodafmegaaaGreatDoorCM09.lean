/- Parts of the proof: KL KM KNq TryzSort KN KO KP KQ. -/
import Derived.Test.YteonnodafmegaaaGreatDoorCM08
import Derived.Test.YteonnodafmegaaaGreatDoorCM04
import Derived.Test.YteonnodafmegaaaGreatDoorCM02
import Derived.Shelf.Sort.Plain
import Derived.Ground.NamesProg
import Derived.Ground.Names2Prog
import Derived.Test.YteonnodafmegaaaGreatDoorProg
import Derived.Test.YteonnodafmegaaaGreatDoorCM03
import Derived.Shelf.Slices.In.SortNone
set_option linter.unusedSectionVars false
set_option linter.unusedVariables false
set_option linter.unusedSimpArgs false
namespace Go.Proofs.A1
open Go Go.SL
open Tryz
open Tryz renaming prog->T_
def mg (r:Ro) (v:Int) (so de:ByteArray):Option (List Nat):=match (dE r r.po v so).all (jV r de) ((dE r r.po v so).n+1) [] with
 | []=>none
 | a::l=>some (jM (dE r r.po v so).lt a l)
theorem xQ {r:Ro} {v:Int} {so de:ByteArray} {p:List Nat} (h:(dE r r.po v so).least (jV r de) p):mg r v so de=some p:=by
 unfold mg;split
 ·rename_i e;exact absurd h.2.1 (Wn.all_none e p h.1)
 ·rename_i a l e;rw [Wn.Dr (Wn.Sa e) h]
theorem xR {r:Ro} {v:Int} {so de:ByteArray} (h:∀ q,(dE r r.po v so).ok q->(dE r r.po v so).fin q≠jV r de):mg r v so de=none:=by
 unfold mg;split
 ·rfl
 ·rename_i a l e;have:=Wn.Sa e;exact absurd this.2.1 (h _ this.1)
theorem LV {r:Ro} {v:Int} {so de:ByteArray} {p:List Nat} (h:(dE r r.po v so).least (jV r de) p):∀ i∈p,i<r.ti.length:=Wn.tw h.1
def jw (r:Ro) (v:Int) (so de:ByteArray):Int:=aV [gB r,BI r v,Lk r so,tW r de]
theorem S1 {n:Int} (h0:0<=n) (h1:n<9223372036854775808):IntKind.i64.wrap n=n:=by simp [IntKind.wrap,IntKind.bits,IntKind.signed];omega
theorem rm {r:Ro} {v:Int} {so de:ByteArray} (h:jw r v so de=0):rb r/\(0<=v/\v<r.lv)/\so∈ct r/\de∈cz r:=by
 unfold jw at h;rw [bI] at h;have h1:=Di (h _ List.mem_cons_self);have h2:=h (BI r v) (by simp);have h3:=(bD (by decide)).1 (h (Lk r so) (by simp));have h4:=(bD (by decide)).1 (h (tW r de) (by simp));have hl:=h1.lim;unfold BI at h2;rw [S1 (by omega) (by omega),iJ] at h2;rw [decide_eq_false_iff_not,cq,Classical.not_not] at h3 h4;exact ⟨h1,by omega,h3,h4⟩
theorem nK {r:Ro} {s d t p:Value} (v:Int) (so de:ByteArray) {w:World} (h:RR w r s d t p) (cL:np r):aj T_ 151 [RA r s d t p,.int .i64 v,.string so,.string de] w (.int .i64 (jw r v so de)):=by
 obtain ⟨h1,h2,h3,h4⟩:=h.one;have jk:∀ w',aD [] w w'->aj T_ 34 [.agg #[.int .i64 r.lv,.int .i64 r.ma,s,d,t,p]] w' (.int .i64 (gB r)):=fun w' hk=>eN (h.keeps hk) cL
 have hle:∀ w',aD [] w w'->aj T_ 114 [.agg #[.int .i64 r.lv,.int .i64 r.ma,s,d,t,p],.int .i64 v] w' (.int .i64 (BI r v)):=fun w' hk=>kY v (h.keeps hk)
 have uP:∀ w',aD [] w w'->aj T_ 122 [.agg #[.int .i64 r.lv,.int .i64 r.ma,s,d,t,p],.string so] w' (.int .i64 (Lk r so)):=fun w' hk=>qE so (h.keeps hk)
 have lM:∀ w',aD [] w w'->aj T_ 112 [.agg #[.int .i64 r.lv,.int .i64 r.ma,s,d,t,p],.string de] w' (.int .i64 (tW r de)):=fun w' hk=>eG de (h.keeps hk)
 unfold RA;refine ah func151 I I ?_;refine Jr<|Jy I I fun _ _=>Ja I<|Jn<|Jq ?_
 with_reducible refine cC 12 (by kernel_rfl) ?_
 (refine ak (cr .here) I ?_;refine aQ bN I (fun w' aq=>(jk w' (Mem.keeps aq))) ?_;refine ak (cr .here) I ?_;refine ak jP I ?_;refine aQ aX I (fun w' aq=>(hle w' (Mem.keeps aq))) ?_;refine ak (cr .here) I ?_;refine ak jP I ?_;refine aQ aX I (fun w' aq=>(uP w' (Mem.keeps aq))) ?_;refine ak (cr .here) I ?_;refine ak jP I ?_;refine aQ aX I (fun w' aq=>(lM w' (Mem.keeps aq))) ?_;refine dX (aB (.cons (.of I) (.cons (.of I) (.cons (.of I) (.cons (.of I) .nil)))) I I I I) I I ?_)
 with_reducible refine cY I fun bq mA=>?_
 (refine ai bN I (fun w' aq=>(dF (Mem.df aq .here I I) (bQ.cons (bQ.cons (bQ.cons (bQ.cons bQ.nil)))))) ?_;refine Ja I<|Jn<|Je<|JT ?_)
 rfl
theorem QI {lv:Value} {l:List Nat} {g:Nat->ByteArray} {f:FuncId} {first cap:List Value} [bU T_ f] {w:World} (h:Rd w lv 1 (ints (nz l))) (hn:l.length<=1000000)
  (cn:∀ i∈l,∀ w',aD [] w w'->aj T_ f (first++[.int .i64 (i:Nat)]++cap) w' (.string (g i))) :
  bh T_ 176 [lv,.func (.func f) first.toArray cap.toArray] w [] (fun _:Value=>True) id (fun v=>[row 9 1 v l.length (aM (l.map g))]):=by
 obtain ⟨a,cp,b,o,rfl,c8,bV,ha,hc⟩:=h;rw [c5,sK] at *;unfold maxLen at bV;refine aR func176 I I ?_;refine Jr<|Ja I<|Ji<|Ja I<|Jn<|Jq<|Jr<|Jv I<|JI I<|Jv I<|Jn<|J0 ?_;refine aP 9 1 ?_;refine aY (ι:=Nat×Value) (fun x=>x.1<=l.length) (fun x=>[(10,.int .i64 x.1),(9,.int .i64 l.length),(8,.slice a l.length cp),(5,x.2),(1,.func (.func f) first.toArray cap.toArray)]) (fun x=>[row 9 1 x.2 x.1 (aM ((l.take x.1).map g))]) (fun x=>l.length-x.1) ?_ ?_
 ·apply aK (0,.slice none 0 0) (Zi _)
  case hs1=>exact cj
  case ht=>
   exact .cons .here .nil
 rintro ⟨k,v⟩ hk;dsimp only at hk ⊢;by_cases aL:k<l.length
 ·have Zo:k<(nz l).length:=by rw [sK];exact aL
  have cM:=ha (jI Zo);have hgz:(nz l)[k]=((l[k]:Nat):Int):=by simp [nz]
  have c0:w.cell? ⟨b,o+k*1,none⟩=some (.int .i64 (l[k]:Nat)):=by rw [<- hgz];exact (hc k _ (iC Zo)).2 0 _ I
  have iH:=cn _ (Zj aL);have I4:aM ((l.take (k+1)).map g)=aM ((l.take k).map g)++[.string (g l[k])]:=by
   rw [List.take_succ_eq_append_getElem aL,List.map_append,eQ];rfl
  have wZ:(aM ((l.take k).map g)).length=k*1:=by rw [dd,Zd,List.length_take_of_le (by omega),Nat.mul_one]
  generalize g l[k]=gk at iH I4
  (refine Jr<|JA I<|Jn<|Jq<|Jd I fun ar=>Jk<|Jq<|J0<|Jr<|ab (gj cM ar) I ?_;refine ab (ag (.of I) (At.base c0 I)) I ?_;refine Ja I<|Jn<|Jg<|Jv I<|Jv I<|Jv I ?_)
  refine ai bN I (fun w' aq=>(iH w' (Mem.keeps aq))) ?_;refine bb (aB (.cons (.of I) .nil) I I I I) I (fun _ _=>?_);refine bE (.of I) (.of I) (.there .here) .here an (by rfl) (eF I) (by rfl) (by rfl) (by rfl) eV (by rfl) ?_;intro v';refine Ja I<|Jx<|Jj<|Jt<|Jg<|JB I (by omega)<|Jv I<|Jn ?_;apply aJ (k+1,v') (by show k+1<=l.length;omega) (by show l.length-(k+1)<l.length-k;omega)
  case hs1=>exact cj
  case ht=>
   show bn _ [row 9 1 v' (k+1) (aM ((l.take (k+1)).map g))] _;rw [I4];exact .cons .here .nil
 ·obtain rfl:k=l.length:=by omega
  rw [List.take_length];refine Jr<|JA I<|Jn<|Jq<|Jc I fun ar=>Jp<|Jl<|Jo<|Jt<|Jr<|Jv I<|Ja I<|Jn<|Je ?_
  first | with_reducible apply aN | with_reducible apply aO
  case he=>exact dJ I I
  case hR=>
   intro w' aq;exact aG v trivial (by exact .cons .here .nil) aq I
theorem PZ {r:Ro} {s d t p:Value} (i:Nat) (hi:i<r.ti.length) {b1:Nat} {w:World} (h:RR w r s d t p) (hA:BR w b1 (RC r s d t p)) :
  aj T_ 177 [.int .i64 (i:Nat),.pointer (some ⟨b1,0,none⟩)] w (.string (dG r i)):=by
 have tI:dG r i=(r.ti[i]).nm:=by unfold dG;rw [lV hi]
 have hti:=h.ti;obtain ⟨a,cp,b,o',rfl,c8,bV,ha,hc⟩:=hti;rw [bO] at *;have cM:=ha (eO hi);have aF:=(hc i _ (dY hi)).2;unfold Ti.cells at aF;have c0:=aF 0 _ I;have c4:w.cell? ⟨b1,4,none⟩=some (.slice a r.ti.length cp):=hA 4 _ I;rw [tI];refine ah func177 I I ?_
 (refine Jr<|Ja I<|Ji<|bK I I ae ?_;refine ab (ag (.of I) (At.base c4 I)) I ?_;refine Jv I<|ab (az (.of I) (.of I) cM (by omega) (by omega) ba) I ?_;refine bK I I ae ?_;refine ab (ag (.of I) (At.base c0 I)) I ?_;refine Ja I<|Jn<|Je<|JT ?_)
 rfl
def rk (r:Ro) (v:Int) (so de:ByteArray):Int:=if jw r v so de≠0 then jw r v so de else if (mg r v so de).isNone then 18 else 0
def mf (r:Ro) (v:Int) (so de:ByteArray):List ByteArray:=if jw r v so de≠0 then [] else ((mg r v so de).getD []).map (dG r)
theorem Vo {r:Ro} {s d t p:Value} (v:Int) (so de:ByteArray) {w:World} (h:RR w r s d t p) (cL:np r):bh T_ 70 [RA r s d t p,.int .i64 v,.string so,.string de] w [] (fun _:Value=>True) (fun x=>.tuple #[x,.int .i64 (rk r v so de)]) (fun x=>[row 9 1 x (mf r v so de).length (aM (mf r v so de))]):=by
 obtain ⟨h1,h2,h3,h4⟩:=h.one;unfold RA;refine aR func70 I I ?_
 (refine Jr<|Jy I I fun _ _=>Ja I<|Ja I<|Jn<|Jq<|Jr<|ab (cr .here) I ?_;refine Jv I<|Jv I<|Jv I ?_)
 rename_i b4 uQ;refine ai nO I (fun w' aq=>nK (s:=s) (d:=d) (t:=t) (p:=p) v so de (h.keeps aq.keeps) cL) ?_
 (refine Ja I<|Ji<|Jv I<|JD I<|Jn<|gl I (fun ar=>?_) fun ar=>?_;refine Jr<|Jv I<|Ja I<|Ja I<|Jn<|Ju ?_;rotate_left;refine Jk<|Jr<|ab (cr .here) I ?_;refine Jv I<|Jv I<|Jv I ?_;rotate_right)
 ·have e1:mf r v so de=[]:=if_pos ar;have e2:rk r v so de=jw r v so de:=if_pos ar;rw [e1,e2];refine aP 9 1 ?_
  first | with_reducible apply aN | with_reducible apply aO
  case he=>exact fW I I I
  case hR=>
   intro w' aq;exact aG (.slice none 0 0) trivial (by exact .cons .here .nil) aq I
 have e0:jw r v so de=0:=Decidable.not_not.1 ar;obtain ⟨dU,hv,rR,fH⟩:=rm e0;have e1:mf r v so de=((mg r v so de).getD []).map (dG r):=if_neg ar;have e2:rk r v so de=if (mg r v so de).isNone then 18 else 0:=if_neg ar
 clear ar;rw [e1,e2];refine JN nO I (fun w1 aS=>OH (s:=s) (d:=d) (t:=t) (p:=p) v so de (h.keeps aS.keeps) dU.ue dU.val dU.N3 rR fH) ?_;rintro ⟨Wb,⟨xv,xp,xf⟩,kJ⟩ ⟨VI,VH,TN⟩;dsimp only [Wy.cells] at VI VH TN ⊢;dsimp only [id_eq,Zb,Za];cases Wb with
 | false =>
  rw [xR (VH I)]
  (refine Jv I<|JJ I I<|JJ I I<|Jz I I fun _ _=>au (.of I) (.of I) .here I I (ie TN I) (bF I) an ?_;refine Ja I<|Jn<|Jq<|Jr<|Jv I<|JH I<|Jn<|cE (.of I) ?_;refine Jr<|Ja I<|Ja I<|Jn<|Ju ?_)
  refine aP 9 1 ?_
  first | with_reducible apply aN | with_reducible apply aO
  case he=>exact fW I I I
  case hR=>
   intro w' aq;exact aG (.slice none 0 0) trivial (by exact .cons .here .nil) aq I
 | true =>
  obtain ⟨hl,my⟩:=VI rfl;rw [xQ hl];have hrw:(((some xp).getD []:List Nat).map (dG r)).length=xp.length:=by simp
  rw [hrw];have aL:=LV hl;have Zw:xp.length<=6:=Nat.le_trans (Wn.sH hl.1) dU.len.2.2
  (refine Jv I<|JJ I I<|JJ I I<|Jz I I fun _ _=>au (.of I) (.of I) .here I I (ie TN I) (bF I) an ?_;refine Ja I<|Jn<|Jq<|Jr<|Jv I<|JH I<|Jn<|bR (.of I) ?_;refine Jk<|Jr<|bK I I ae ?_;refine JL I .here I<|ab (bo .nil (.cons (.of I) .nil)) I ?_)
  with_reducible apply jh
  case hr=>exact aX
  case hd=>rfl
  case ht=>exact bn.nil
  case hc=>
   intro w1 fp aS _ hs1;obtain rfl:fp=[]:=hs1;have hA:BR w1 b4 [.int .i64 r.lv,.int .i64 r.ma,s,d,t,p]:=BR.of aS bT;have hR:=h.keeps aS.keeps;have Xe:Rd w1 xv 1 (ints (nz xp)):=by
    rcases my with my | my
    ·exact D1 aS (by exact Take.there .here) my
    ·cases my;exact Rd.nil w1 1
   exact QI (f:=177) (g:=dG r) (first:=[]) (cap:=[.pointer (some ⟨b4,0,none⟩)]) Xe (by omega) (fun i hi w2 eR=>PZ i (aL i hi) (hR.keeps eR) (hA.keeps eR))
  intro x _;dsimp only [id_eq,Zb,Za];refine Ja I<|Ja I<|Jn<|Je ?_
  first | with_reducible apply aN | with_reducible apply aO
  case he=>exact fW I I I
  case hR=>
   intro w' aq;exact aG x trivial (by exact .cons .here .nil) aq I
def qi (r:Ro) (wy:List ByteArray) (k:Nat):Int:=(wy[k]?.map fun x=>aV [bG (!fI (cd r) x) 10,bG (fI (wy.take k) x) 9]).getD 0
theorem rj {r:Ro} {wy:List ByteArray} {k:Nat} (h:k<wy.length):qi r wy k=aV [bG (!fI (cd r) wy[k]) 10,bG (fI (wy.take k) wy[k]) 9]:=by
 unfold qi;rw [Zc h];rfl
def R5 (r:Ro) (v:Int) (so de:ByteArray) (wy:List ByteArray):Int:=aV [jw r v so de,bG (decide ((6:Int)<(wy.length:Nat))) 5]
def PC (r:Ro) (wy:List ByteArray):Int:=jq (qi r wy) wy.length
def GD (r:Ro) (v:Int) (so de:ByteArray) (wy:List ByteArray):Int:=match Lg r r.po v so true (mi r so) wy with
 | none=>19
 | some m=>bG (decide (m≠jV r de)) 19
def KB (r:Ro) (v:Int) (so de:ByteArray) (wy:List ByteArray):Int:=if R5 r v so de wy≠0 then R5 r v so de wy else if PC r wy≠0 then PC r wy else GD r v so de wy
theorem EC {P:Program} {c:Cx} {sl:aI} {hs:List a8} {dst:Option Tmp} {ty:TypeId} {pos:String} {af:Array Edge} {g:Option (Nat×Bool)} {k:IntKind} {t u:TypeId} {x y:Operand} {a b:Int} (hx:Is sl x (.int k a)) (hy:Is sl y (.int k b)) (e:a≠b) :
  cQ P c sl hs ⟨dst,.binOp .neq t x y u,ty,pos,af,g⟩ (.bool true):=by
 have:=fZ (P:=P) (c:=c) (hs:=hs) (dst:=dst) (ty:=ty) (pos:=pos) (af:=af) (g:=g) (t:=t) (u:=u) hx hy;rwa [decide_eq_true e] at this
theorem ED {P:Program} {c:Cx} {sl:aI} {hs:List a8} {dst:Option Tmp} {ty:TypeId} {pos:String} {af:Array Edge} {g:Option (Nat×Bool)} {k:IntKind} {t u:TypeId} {x y:Operand} {a b:Int} (hx:Is sl x (.int k a)) (hy:Is sl y (.int k b)) (e:a=b) :
  cQ P c sl hs ⟨dst,.binOp .neq t x y u,ty,pos,af,g⟩ (.bool false):=by
 have:=fZ (P:=P) (c:=c) (hs:=hs) (dst:=dst) (ty:=ty) (pos:=pos) (af:=af) (g:=g) (t:=t) (u:=u) hx hy;rwa [decide_eq_false (not_not_intro e)] at this
theorem NQ {r:Ro} (dU:rb r) {x:ByteArray} (hx:x∈cd r):∃ l,l<r.ti.length/\dG r l=x/\ia (fun y=>decide (x=y)) (cd r)=(l:Nat)/\j9 r x=(gq r l).fr/\jR r x=(gq r l).to:=by
 obtain ⟨l,hl,e⟩:=List.getElem_of_mem hx;have tL:l<r.ti.length:=by unfold cd at hl;rwa [Zd] at hl
 have tI:dG r l=x:=by rw [<- pJ tL];exact e
 obtain ⟨_,_,n3,_,_,_⟩:=dU.N3.parts;refine ⟨l,tL,tI,?_,?_,?_⟩
 ·have h1:=vL (fun y:ByteArray=>y) (cd r) x
  rw [List.map_id'] at h1;have h2:(fun y=>decide (x=y))=fun y:ByteArray=>decide (y=x):=funext fun y=>by rw [decide_eq_decide];exact eq_comm
  rw [h2,h1];exact pY n3 hl e
 ·rw [<- tI];exact uI dU.ue n3 tL
 ·rw [<- tI];exact rQ dU.ue n3 tL
set_option maxHeartbeats 2000000 in
theorem Ec {r:Ro} {s d t p wv:Value} (v:Int) (so de:ByteArray) {wy:List ByteArray} {w:World} (h:RR w r s d t p) (cL:np r) (hw:Rd w wv 1 (fG wy)) :
  aj T_ 71 [RA r s d t p,.int .i64 v,.string so,.string de,wv] w (.int .i64 (KB r v so de wy)):=by
 obtain ⟨h1,h2,h3,h4⟩:=h.one;have AM:=hw;obtain ⟨aw,cw,bw,ow,rfl,Kc,vR,Ph,B2⟩:=hw;rw [bA] at *;unfold maxLen at vR;have X4:∀ w',aD [] w w'->aj T_ 151 [.agg #[.int .i64 r.lv,.int .i64 r.ma,s,d,t,p],.int .i64 v,.string so,.string de] w' (.int .i64 (jw r v so de)):=fun w' hk=>nK v so de (h.keeps hk) cL
 unfold RA;refine ah func71 I I ?_
 (refine Jr<|Jy I I fun _ _=>Ja I<|Jn<|Jq<|Jr<|ab (cr .here) I ?_;refine Jv I<|Jv I<|Jv I<|ai nO I (fun w' aq=>(X4 w' (Mem.keeps aq))) ?_;refine Jv I<|JI I<|JE I<|ai aX I (fun w' aq=>(dP _ 5 w')) ?_;refine bb (aB (.cons (.of I) (.cons (.of I) .nil)) I I I I) I fun _ _=>?_;refine ai bN I (fun w' aq=>(dF (Mem.df aq .here I I) (bQ.cons (bQ.cons bQ.nil)))) ?_;refine Ja I<|Ji<|Jv I<|JD I<|Jn<|gl I (fun ar=>?_) fun ar=>?_;refine Jr<|Jv I<|Ja I<|Jn<|Ju<|JT ?_;rotate_left;refine Jk<|Jr<|bK I I ae ?_;refine JL I (.there .here) I ?_;rotate_right)
 ·have e1:KB r v so de wy=R5 r v so de wy:=if_pos ar;rw [e1];rfl
 have G1:R5 r v so de wy=0:=Decidable.not_not.1 ar;have hX:KB r v so de wy=if PC r wy≠0 then PC r wy else GD r v so de wy:=if_neg ar
 clear ar;obtain ⟨dU,hv,rR,fH⟩:=rm (bI.1 G1 _ List.mem_cons_self);have h6:wy.length<=6:=by
  have:=(bD (by decide)).1 (bI.1 G1 (bG (decide ((6:Int)<(wy.length:Nat))) 5) (by simp));simp only [decide_eq_false_iff_not] at this;omega
 have Y4:=dU.len.2.2;rename_i b5 G0 bq mA;refine JN aX I (fun w1 aS=>EO (f:=119) (first:=[]) (cap:=[]) (g:=Ti.nm) (h.keeps aS.keeps).ti (by omega) (fun x _ w2 _=>Dl x w2)) ?_
 intro nv _;dsimp only [id_eq,Zb,Za];refine aW (by exact .here) fun na nc e=>?_;subst e;have rT:(cd r).length=r.ti.length:=by unfold cd;rw [Zd]
 rw [show r.ti.map Ti.nm=cd r from I];refine Ja I<|Jn<|Jq<|Jr<|Jv I<|JI I<|Jv I<|Jn<|J0 ?_
 refine aY (fun k:Nat=>k<=wy.length/\∀ i,i<k->qi r wy i=0) (fun k=>[(41,.int .i64 (k:Nat)),(40,.int .i64 (wy.length:Nat)),(39,.slice aw wy.length cw),(12,.slice na r.ti.length nc),(4,.slice aw wy.length cw),(5,.pointer (some ⟨b5,0,none⟩)),(1,.int .i64 v),(2,.string so),(3,.string de)])
  (fun k=>[row 9 1 (.slice na r.ti.length nc) r.ti.length (aM (cd r)),JP b5 r s d t p]) (fun k=>wy.length-k) ?_ ?_
 ·apply aK 0 ⟨Zi _,fun i hi=>by omega⟩
  case hs1=>exact cj
  case ht=>(try simp only [Ze,Zf,Za]);exact .cons .here (.cons (.there .here) .nil)
 rintro k ⟨hk,hf⟩;by_cases aL:k<wy.length
 ·have Ak:=Ph (iy aL);have c0:w.cell? ⟨bw,ow+k*1,none⟩=some (.string wy[k]):=(B2 k _ (fF aL)).2 0 _ I;have ja:=rj (r:=r) aL;have X6:∀ (w':World),Rd w' (.slice na r.ti.length nc) 1 (fG (cd r))->aj T_ 179 [.slice na r.ti.length nc,.string wy[k]] w' (.bool (fI (cd r) wy[k])):=fun w' hr=>kz _ hr
  have rf:Rd w (Go.sliced aw 0 (k:Int).toNat cw 1) 1 (fG (wy.take k)):=by
   have:=AM.sliced (l:=0) (m:=k) (Zi _) (by omega);rw [Int.toNat_natCast];rwa [List.drop_zero,show (fG wy).take k=fG (wy.take k) by unfold fG;rw [List.map_take]] at this
  have X5:∀ w',aD [] w w'->aj T_ 179 [Go.sliced aw 0 (k:Int).toNat cw 1,.string wy[k]] w' (.bool (fI (wy.take k) wy[k])):=fun w' hk=>kz _ (rf.keeps hk)
  (refine Jr<|JA I<|Jn<|Jq<|Jd I fun ar=>Jk<|Jq<|J0<|Jr<|Jv I<|ab (az (.of I) (.of I) Ak (by omega) ar ba) I ?_;refine ab (ag (.of I) (At.base c0 I)) I ?_;refine Ja I<|Ja I<|Jn<|Jq ?_)
  with_reducible refine cC 12 (by kernel_rfl) ?_
  (refine ak jP I ?_;refine ak jP I ?_;refine aQ aX I (fun w' aq=>(X6 w' (dL aq .here rT))) ?_;refine ak (eY (.of I)) I ?_;refine aQ aX I (fun w' aq=>(dP _ 10 w')) ?_;refine ak jP I ?_;refine ak jP I ?_;refine ak (fY (.of I) (.of I) (by omega) (by omega)) I ?_;refine ak jP I ?_;refine aQ aX I (fun w' aq=>(X5 w' (Mem.keeps aq))) ?_;refine aQ aX I (fun w' aq=>(dP _ 9 w')) ?_;refine dX (aB (.cons (.of I) (.cons (.of I) .nil)) I I I I) I I ?_)
  with_reducible refine cY I fun bq mA=>?_
  (refine ai bN I (fun w' aq=>(dF (Mem.df aq .here I I) (bQ.cons (bQ.cons bQ.nil)))) ?_;refine Ja I<|Ji<|Jv I<|JD I<|Jn<|gl I (fun ar=>?_) fun ar=>?_;refine Jr<|Jv I<|Ja I<|Jn<|Je<|Jm<|Jh<|Jh<|Jm<|Jh<|JT ?_;rotate_left;refine Jw<|Jj<|Jt<|Jg<|JB I (by omega)<|Jv I<|Jn ?_;rotate_right)
  ·rw [<- ja] at ar ⊢;have hB:PC r wy=qi r wy k:=eS hf aL ar;rw [<- hB] at ar ⊢;rw [hX,if_pos ar]
  have hz:qi r wy k=0:=by rw [ja];exact Decidable.not_not.1 ar
  apply aJ (k+1) ⟨by omega,fun i hi=>by
   by_cases e:i=k
   ·rw [e];exact hz
   ·exact hf i (by omega)⟩ (by omega)
  case hs1=>exact cj
  case ht=>(try simp only [Ze,Zf,Za]);exact .cons (.there .here) (.cons (.there .here) .nil)
 ·obtain rfl:k=wy.length:=by omega
  have RM:PC r wy=0:=dN.2 hf;rw [hX,if_neg (by rw [RM];decide)];refine Jr<|JA I<|Jn<|Jq<|Jc I fun ar=>Jp<|Jl<|Jo<|Jt<|Jq ?_;have hti:=h.ti;obtain ⟨a,cp,b,o',rfl,c8,bV,ha,hc⟩:=hti;have Np:=h.sr;obtain ⟨a2,l8,b2,o2,rfl,jK,eE,iT,jL⟩:=Np;have lM:=h.de;obtain ⟨a3,pq,b3,o3,rfl,lo,fD,qA,nW⟩:=lM;rw [bO] at *;rw [cu] at *;rw [bZ] at *;unfold maxLen at bV eE fD;obtain ⟨i0,pW⟩:∃ i:Nat,bd (ct r) so=(i:Nat):=⟨(bd (ct r) so).toNat,by have:=di rR;omega⟩;have Ai:i0<r.sr.length:=by
   obtain ⟨hl,_⟩:=eD (l:=ct r) (s:=so) (by omega);rw [pW,Int.toNat_natCast] at hl;unfold ct at hl;rwa [Zd] at hl
  obtain ⟨j0,tM⟩:∃ i:Nat,bd (cz r) de=(i:Nat):=⟨(bd (cz r) de).toNat,by have:=di fH;omega⟩;have xz:j0<r.de.length:=by
   obtain ⟨hl,_⟩:=eD (l:=cz r) (s:=de) (by omega);rw [tM,Int.toNat_natCast] at hl;unfold cz at hl;rwa [Zd] at hl
  have xy:mi r so=(r.sr[i0]).mx:=by unfold mi;rw [pW,Int.toNat_natCast,List.getD_eq_getElem?_getD,Zc Ai];rfl
  have Rv:jV r de=(r.de[j0]).mx:=by unfold jV;rw [tM,Int.toNat_natCast,List.getD_eq_getElem?_getD,Zc xz];rfl
  have hsrc:∀ w',aD [] w w'->aj T_ 180 [.agg #[.int .i64 r.lv,.int .i64 r.ma,.slice a2 r.sr.length l8,.slice a3 r.de.length pq,.slice a r.ti.length cp,p],.string so] w' (.int .i64 (i0:Nat)):=fun w' hk=>pW ▸ mO so (h.keeps hk)
  have qk:∀ w',aD [] w w'->aj T_ 155 [.agg #[.int .i64 r.lv,.int .i64 r.ma,.slice a2 r.sr.length l8,.slice a3 r.de.length pq,.slice a r.ti.length cp,p],.string de] w' (.int .i64 (j0:Nat)):=fun w' hk=>tM ▸ fw de (h.keeps hk)
  have ql:=iT (gL Ai);have eB:=(jL i0 _ (fk Ai)).2;unfold Sr.cells at eB;have O6:=eB 1 _ I;have ui:=qA (gS xz);have ll:=(nW j0 _ (fu xz)).2;unfold De.cells at ll;have xC:=ll 1 _ I;have dC:∀ x∈wy,x∈cd r:=fun x hx=>by
   obtain ⟨k,hk,rfl⟩:=List.getElem_of_mem hx;have:=hf k hk;rw [rj hk,bI] at this;have h0:=(bD (by decide)).1 (this (bG (!fI (cd r) wy[k]) 10) (by simp));exact ef.1 (by simpa using h0)
  clear hX hf
  with_reducible refine cW 9 (by kernel_rfl) ?_
  (refine mG I I ae ?_;refine aA (gD (.there .here)) I ?_;refine aA (cr (.there .here)) I ?_;refine iv I I ?_;refine c6 aX I (fun w' aq=>(hsrc w' (Mem.keeps aq))) ?_;refine aA (az (.of I) (.of I) ql (by omega) (by omega) ba) I ?_;refine mG I I ae ?_;refine aA (ag (.of I) (At.base O6 I)) I ?_;refine aA (cF (.of I)) I ?_)
  with_reducible refine cZ ?_
  rw [<- xy];refine Jn<|Jq<|Jr<|Jv I<|JI I<|Jv I<|Jn<|J0 ?_
  refine aY (ι:=Nat×Int) (fun x=>x.1<=wy.length/\Lg r r.po v so true (mi r so) wy=Lg r r.po v so (decide (x.1=0)) x.2 (wy.drop x.1)) (fun x=>[(73,.int .i64 (x.1:Nat)),(72,.int .i64 (wy.length:Nat)),(71,.slice aw wy.length cw),(16,.int .i64 x.2),(12,.slice na r.ti.length nc),(5,.pointer (some ⟨b5,0,none⟩)),(1,.int .i64 v),(2,.string so),(3,.string de)])
   (fun _=>[row 9 1 (.slice na r.ti.length nc) r.ti.length (aM (cd r)),JP b5 r (.slice a2 r.sr.length l8) (.slice a3 r.de.length pq) (.slice a r.ti.length cp) p]) (fun x=>wy.length-x.1) ?_ ?_
  ·apply aK (0,mi r so) ⟨Zi _,I⟩
   case hs1=>exact cj
   case ht=>(try simp only [Ze,Zf,Za]);exact .cons .here (.cons .here .nil)
  rintro ⟨k,at_⟩ ⟨hk,I3⟩;dsimp only at hk I3 ⊢;by_cases aL:k<wy.length
  ·have Ak:=Ph (iy aL);have c0:w.cell? ⟨bw,ow+k*1,none⟩=some (.string wy[k]):=(B2 k _ (fF aL)).2 0 _ I;obtain ⟨l,hl,Y3,XM,hom,mz⟩:=NQ dU (dC _ (Zj aL));rw [List.drop_eq_getElem_cons aL,Lg,hom,mz,<- te dU.ue dU.val] at I3;have VY:∀ (w':World),Rd w' (.slice na r.ti.length nc) 1 (fG (cd r))->aj T_ 181 [.slice na r.ti.length nc,.string wy[k]] w' (.int .i64 (l:Nat)):=fun w' hr=>XM ▸ BN wy[k] hr
   have v8:∀ w',aD [] w w'->aj T_ 121 [.agg #[.int .i64 r.lv,.int .i64 r.ma,.slice a2 r.sr.length l8,.slice a3 r.de.length pq,.slice a r.ti.length cp,p],.int .i64 v,.string wy[k]] w' (.bool (gC r.po v wy[k])):=fun w' hk=>pz v _ (h.keeps hk)
   have sS:∀ w',aD [] w w'->aj T_ 126 [.agg #[.int .i64 r.lv,.int .i64 r.ma,.slice a2 r.sr.length l8,.slice a3 r.de.length pq,.slice a r.ti.length cp,p],.int .i64 v,.string wy[k]] w' (.string (jX r v wy[k])):=fun w' hk=>nb v _ (h.keeps hk) (by omega)
   have NK:=ha (eO hl);have iH:=(hc l _ (dY hl)).2;unfold Ti.cells at iH;have o7:=lV hl
   (refine Jr<|JA I<|Jn<|Jq<|Jd I fun ar=>Jk<|Jq<|J0<|Jr<|Jv I<|ab (az (.of I) (.of I) Ak (by omega) ar ba) I ?_;refine ab (ag (.of I) (At.base c0 I)) I ?_;refine Ja I<|Ja I<|Jn<|Jq ?_)
   with_reducible refine cC 8 (by kernel_rfl) ?_
   (refine ak kA I ?_;refine ak (gD (.there .here)) I ?_;refine ak jP I ?_;refine ak jP I ?_;refine aQ aX I (fun w' aq=>(VY w' (dL aq .here rT))) ?_;refine ak (az (.of I) (.of I) NK (by omega) (by omega) ba) I ?_;refine ak (iI (eU.base iH I)) I ?_;refine dX (oM I) I I ?_)
   with_reducible refine cY I fun b19 ad4=>?_
   (refine au (.of I) (.of I) .here I I (fx I I I) (bF I) an ?_;refine Ji<|ab (cr bT) I ?_;refine Jv I<|Jv I ?_)
   cases sq:gC r.po v wy[k] with
   | true =>
    have tP:∀ w',aD [] w w'->aj T_ 121 [.agg #[.int .i64 r.lv,.int .i64 r.ma,.slice a2 r.sr.length l8,.slice a3 r.de.length pq,.slice a r.ti.length cp,p],.int .i64 v,.string wy[k]] w' (.bool true):=fun w' hk=>sq ▸ v8 w' hk
    by_cases VV:k=0
    ·have vU:((k:Nat):Int)=0:=by omega
     by_cases uP:jX r v wy[k]=so
     ·have BQ:=I3;rw [if_pos (by rw [decide_eq_true VV,sq,decide_eq_true uP];rfl),o7] at BQ
      (refine ai dH I (fun w' aq=>(tP w' (Mem.keeps aq))) ?_;refine Ja I<|Ji<|Jv I<|ab (pQ (.of I) (.of I) vU) I ?_;refine Jv I<|JK I I<|Jv I<|ab (cK (.of I) (.of I) (.of I) I) I ?_;refine Jv I<|JK I I<|ab (cr bT) I ?_;refine JK I I<|Jv I<|JK I I<|Jv I<|JK I I<|ai dH I (fun w' aq=>(sS w' (Mem.keeps aq))) ?_;refine JK I I<|Jv I<|JK I I<|ab (rD (.of I) (.of I) uP) I ?_;refine ab (cK (.of I) (.of I) (.of I) I) I ?_;refine Ja I<|Jn<|Jq<|Jr<|Jv I<|JH I<|Jv I<|fM I I I I ?_;refine aC I I inferInstance (fun hg br=>(aZ (.bL hg I))) I ?_;refine ek I I inferInstance (fun hg br=>(ao (.of I) ae)) I ?_;refine ek I I inferInstance (fun hg br=>(have SG:=(KY hg);(ag (.bL SG I) (At.lit .here I)))) I ?_;refine ek I I inferInstance (fun hg br=>(aZ (.of I))) I ?_;refine ek I I inferInstance (fun hg br=>(have SG:=(KY hg);(fZ (.bL SG I) (.bL SG I)))) I ?_;refine aC I I inferInstance (fun hg br=>(ju hg (.bL hg I) I)) I ?_;refine ab (bB (.of I) (.of I) (.of I) I) I ?_;refine Jn<|bR (.of I) ?_;refine Jk<|Jg<|bK I I ae ?_;refine JL I .here I<|Ja I<|Jx<|Jj<|Jt<|Jg<|JB I (by omega)<|Jv I<|Jn ?_)
      apply aJ (k+1,(r.ti[l]).to) ⟨show k+1<=wy.length by omega,by rw [BQ,decide_eq_false (show ¬ k+1=0 by omega)]⟩ (show wy.length-(k+1)<wy.length-k by omega)
      case hs1=>exact cj
      case ht=>(try simp only [Ze,Zf,Za]);exact .cons (.there .here) (.cons (.there .here) .nil)
     ·have hC:GD r v so de wy=19:=by unfold GD;rw [I3,if_neg (by rw [sq,decide_eq_false uP];simp)]
      (refine ai dH I (fun w' aq=>(tP w' (Mem.keeps aq))) ?_;refine Ja I<|Ji<|Jv I<|ab (pQ (.of I) (.of I) vU) I ?_;refine Jv I<|JK I I<|Jv I<|ab (cK (.of I) (.of I) (.of I) I) I ?_;refine Jv I<|JK I I<|ab (cr bT) I ?_;refine JK I I<|Jv I<|JK I I<|Jv I<|JK I I<|ai dH I (fun w' aq=>(sS w' (Mem.keeps aq))) ?_;refine JK I I<|Jv I<|JK I I<|ab (vm (.of I) (.of I) uP) I ?_;refine ab (bB (.of I) (.of I) (.of I) I) I ?_;refine Ja I<|Jn<|Jq<|Jr<|Jv I<|JH I<|Jv I<|JK I I<|Jv I<|JK I I<|Jv I<|aC I I inferInstance (fun hg br=>(ao (.of I) ae)) I ?_;refine aC I I inferInstance (fun hg br=>(ag (.bL hg I) (At.lit .here I))) I ?_;refine fM I I I I ?_;refine aC I I inferInstance (fun hg br=>(fZ (.bL hg I) (.bL hg I))) I ?_;refine JK I I<|ab (cK (.of I) (.of I) (.of I) I) I ?_;refine ab (cK (.of I) (.of I) (.of I) I) I ?_;refine Jn<|cE (.of I) ?_;refine Jr<|Ja I<|Jn<|Ju<|Jm<|Jh<|Jh<|Jm<|Jh<|JT ?_)
      rw [hC]
    ·have vU:((k:Nat):Int)≠0:=by omega
     have hC:GD r v so de wy=19:=by unfold GD;rw [I3,if_neg (by simp [VV,sq])]
     (refine ai dH I (fun w' aq=>(tP w' (Mem.keeps aq))) ?_;refine Ja I<|Ji<|Jv I<|ab (uC (.of I) (.of I) vU) I ?_;refine Jv I<|fM I I I I ?_;refine ab (bB (.of I) (.of I) (.of I) I) I ?_;refine Jv I<|aC I I inferInstance (fun hg br=>(cm (.of I) bT an (by rfl))) I ?_;refine fM I I I I ?_;refine fM I I I I ?_;refine cR I I I I ?_;refine fM I I I I ?_;refine cR I I I I ?_;refine ab (bB (.of I) (.of I) (.of I) I) I ?_;refine Ja I<|Jn<|Jq<|Jr<|Jv I<|JH I<|Jv I<|JK I I<|Jv I<|JK I I<|Jv I<|aC I I inferInstance (fun hg br=>(ao (.of I) ae)) I ?_;refine aC I I inferInstance (fun hg br=>(ag (.bL hg I) (At.lit .here I))) I ?_;refine fM I I I I ?_;refine aC I I inferInstance (fun hg br=>(fZ (.bL hg I) (.bL hg I))) I ?_;refine JK I I<|ab (cK (.of I) (.of I) (.of I) I) I ?_;refine ab (cK (.of I) (.of I) (.of I) I) I ?_;refine Jn<|cE (.of I) ?_;refine Jr<|Ja I<|Jn<|Ju<|Jm<|Jh<|Jh<|Jm<|Jh<|JT ?_)
     rw [hC]
   | false =>
    have tP:∀ w',aD [] w w'->aj T_ 121 [.agg #[.int .i64 r.lv,.int .i64 r.ma,.slice a2 r.sr.length l8,.slice a3 r.de.length pq,.slice a r.ti.length cp,p],.int .i64 v,.string wy[k]] w' (.bool false):=fun w' hk=>sq ▸ v8 w' hk
    by_cases pX:(r.ti[l]).fr=at_
    ·by_cases VV:k=0
     ·have vU:((k:Nat):Int)=0:=by omega
      have BQ:=I3;rw [if_pos (by simp [sq,o7,pX]),o7] at BQ
      (refine ai dH I (fun w' aq=>(tP w' (Mem.keeps aq))) ?_;refine Ja I<|Ji<|Jv I<|ab (pQ (.of I) (.of I) vU) I ?_;refine Jv I<|JK I I<|Jv I<|ab (bB (.of I) (.of I) (.of I) I) I ?_;refine Jv I<|aC I I inferInstance (fun hg br=>(cm (.of I) bT an (by rfl))) I ?_;refine fM I I I I ?_;refine fM I I I I ?_;refine cR I I I I ?_;refine fM I I I I ?_;refine cR I I I I ?_;refine ab (bB (.of I) (.of I) (.of I) I) I ?_;refine Ja I<|Jn<|Jq<|Jr<|Jv I<|JH I<|Jv I<|JK I I<|Jv I<|JK I I<|Jv I<|JK I I<|bK I I ae ?_;refine JK I I<|JL I .here I<|JK I I<|Jv I<|JK I I<|ab (ED (.of I) (.of I) pX) I ?_;refine JK I I<|ab (bB (.of I) (.of I) (.of I) I) I ?_;refine ab (bB (.of I) (.of I) (.of I) I) I ?_;refine Jn<|bR (.of I) ?_;refine Jk<|Jg<|bK I I ae ?_;refine JL I .here I<|Ja I<|Jx<|Jj<|Jt<|Jg<|JB I (by omega)<|Jv I<|Jn ?_)
      apply aJ (k+1,(r.ti[l]).to) ⟨show k+1<=wy.length by omega,by rw [BQ,decide_eq_false (show ¬ k+1=0 by omega)]⟩ (show wy.length-(k+1)<wy.length-k by omega)
      case hs1=>exact cj
      case ht=>(try simp only [Ze,Zf,Za]);exact .cons (.there .here) (.cons (.there .here) .nil)
     ·have vU:((k:Nat):Int)≠0:=by omega
      have BQ:=I3;rw [if_pos (by simp [sq,o7,pX]),o7] at BQ
      (refine ai dH I (fun w' aq=>(tP w' (Mem.keeps aq))) ?_;refine Ja I<|Ji<|Jv I<|ab (uC (.of I) (.of I) vU) I ?_;refine Jv I<|fM I I I I ?_;refine ab (bB (.of I) (.of I) (.of I) I) I ?_;refine Jv I<|aC I I inferInstance (fun hg br=>(cm (.of I) bT an (by rfl))) I ?_;refine fM I I I I ?_;refine fM I I I I ?_;refine cR I I I I ?_;refine fM I I I I ?_;refine cR I I I I ?_;refine ab (bB (.of I) (.of I) (.of I) I) I ?_;refine Ja I<|Jn<|Jq<|Jr<|Jv I<|JH I<|Jv I<|JK I I<|Jv I<|JK I I<|Jv I<|JK I I<|bK I I ae ?_;refine JK I I<|JL I .here I<|JK I I<|Jv I<|JK I I<|ab (ED (.of I) (.of I) pX) I ?_;refine JK I I<|ab (bB (.of I) (.of I) (.of I) I) I ?_;refine ab (bB (.of I) (.of I) (.of I) I) I ?_;refine Jn<|bR (.of I) ?_;refine Jk<|Jg<|bK I I ae ?_;refine JL I .here I<|Ja I<|Jx<|Jj<|Jt<|Jg<|JB I (by omega)<|Jv I<|Jn ?_)
      apply aJ (k+1,(r.ti[l]).to) ⟨show k+1<=wy.length by omega,by rw [BQ,decide_eq_false (show ¬ k+1=0 by omega)]⟩ (show wy.length-(k+1)<wy.length-k by omega)
      case hs1=>exact cj
      case ht=>(try simp only [Ze,Zf,Za]);exact .cons (.there .here) (.cons (.there .here) .nil)
    ·by_cases VV:k=0
     ·have vU:((k:Nat):Int)=0:=by omega
      have hC:GD r v so de wy=19:=by unfold GD;rw [I3,if_neg (by simp [sq,o7,pX])]
      (refine ai dH I (fun w' aq=>(tP w' (Mem.keeps aq))) ?_;refine Ja I<|Ji<|Jv I<|ab (pQ (.of I) (.of I) vU) I ?_;refine Jv I<|JK I I<|Jv I<|ab (bB (.of I) (.of I) (.of I) I) I ?_;refine Jv I<|aC I I inferInstance (fun hg br=>(cm (.of I) bT an (by rfl))) I ?_;refine fM I I I I ?_;refine fM I I I I ?_;refine cR I I I I ?_;refine fM I I I I ?_;refine cR I I I I ?_;refine ab (bB (.of I) (.of I) (.of I) I) I ?_;refine Ja I<|Jn<|Jq<|Jr<|Jv I<|JH I<|Jv I<|JK I I<|Jv I<|JK I I<|Jv I<|JK I I<|bK I I ae ?_;refine JK I I<|JL I .here I<|JK I I<|Jv I<|JK I I<|ab (EC (.of I) (.of I) pX) I ?_;refine JK I I<|ab (cK (.of I) (.of I) (.of I) I) I ?_;refine ab (cK (.of I) (.of I) (.of I) I) I ?_;refine Jn<|cE (.of I) ?_;refine Jr<|Ja I<|Jn<|Ju<|Jm<|Jh<|Jh<|Jm<|Jh<|JT ?_)
      rw [hC]
     ·have vU:((k:Nat):Int)≠0:=by omega
      have hC:GD r v so de wy=19:=by unfold GD;rw [I3,if_neg (by simp [sq,o7,pX])]
      (refine ai dH I (fun w' aq=>(tP w' (Mem.keeps aq))) ?_;refine Ja I<|Ji<|Jv I<|ab (uC (.of I) (.of I) vU) I ?_;refine Jv I<|fM I I I I ?_;refine ab (bB (.of I) (.of I) (.of I) I) I ?_;refine Jv I<|aC I I inferInstance (fun hg br=>(cm (.of I) bT an (by rfl))) I ?_;refine fM I I I I ?_;refine fM I I I I ?_;refine cR I I I I ?_;refine fM I I I I ?_;refine cR I I I I ?_;refine ab (bB (.of I) (.of I) (.of I) I) I ?_;refine Ja I<|Jn<|Jq<|Jr<|Jv I<|JH I<|Jv I<|JK I I<|Jv I<|JK I I<|Jv I<|JK I I<|bK I I ae ?_;refine JK I I<|JL I .here I<|JK I I<|Jv I<|JK I I<|ab (EC (.of I) (.of I) pX) I ?_;refine JK I I<|ab (cK (.of I) (.of I) (.of I) I) I ?_;refine ab (cK (.of I) (.of I) (.of I) I) I ?_;refine Jn<|cE (.of I) ?_;refine Jr<|Ja I<|Jn<|Ju<|Jm<|Jh<|Jh<|Jm<|Jh<|JT ?_)
      rw [hC]
  ·obtain rfl:k=wy.length:=by omega
   rw [List.drop_eq_nil_of_le (Nat.le_refl _)] at I3;have hC:GD r v so de wy=bG (decide (at_≠jV r de)) 19:=by unfold GD;rw [I3];rfl
   rw [hC,Rv];refine Jr<|JA I<|Jn<|Jq<|Jc I fun ar=>Jp<|Jl<|Jo<|Jt<|Jq ?_
   with_reducible refine cW 12 (by kernel_rfl) ?_
   (refine iv I I ?_;refine mG I I ae ?_;refine aA (gD (.there .here)) I ?_;refine aA (cr (.there .here)) I ?_;refine iv I I ?_;refine c6 aX I (fun w' aq=>(qk w' (Mem.keeps aq))) ?_;refine aA (az (.of I) (.of I) ui (by omega) (by omega) ba) I ?_;refine mG I I ae ?_;refine aA (ag (.of I) (At.base xC I)) I ?_;refine aA (fZ (.of I) (.of I)) I ?_;refine c6 aX I (fun w' aq=>(dP _ 19 w')) ?_;refine aA (cF (.of I)) I ?_)
   with_reducible refine cZ ?_
   refine Jn<|Je<|JT ?_
   rfl
def gV (r:Ro) (v:Int) (so:ByteArray):Nat->List Int
  | 0=>[mi r so]
  | k+1=>if xb r v so k&&!(gV r v so k).contains (gq r k).to then gV r v so k++[(gq r k).to] else gV r v so k
theorem Bm (r:Ro) (v:Int) (so:ByteArray):∀ k,(gV r v so k).length<=k+1
  | 0=>Nat.le_refl _
  | k + 1 => by
    have:=Bm r v so k;unfold gV;split
    · rw [Zg];simp;omega
    · omega
theorem vg (r:Ro) (v:Int) (so:ByteArray):∀ k,(gV r v so k).Nodup
  | 0=>by simp [gV]
  | k + 1 => by
    have:=vg r v so k;unfold gV;split
    · rename_i h
      rw [Bool.and_eq_true] at h;rw [List.nodup_append];refine ⟨this,by simp,fun a ha b hb e=>?_⟩;rw [List.mem_singleton] at hb;subst hb;subst e;have:=h.2;rw [List.contains_iff_mem.2 ha] at this;cases this
    · exact this
theorem yr (r:Ro) (v:Int) (so:ByteArray) {m:Int}:∀ {a b:Nat},a<=b->m∈gV r v so a->m∈gV r v so b:=by
  intro a b h
  induction h with
  | refl=>exact id
  | step _ ih =>
    intro hm;have:=ih hm;rw [gV];split
    · exact List.mem_append_left _ this
    · exact this
theorem HX (r:Ro) (v:Int) (so:ByteArray) (k:Nat):mi r so∈gV r v so k:=yr r v so (Zi k) (by simp [gV])
theorem MA {r:Ro} {v:Int} {so:ByteArray} {k t:Nat} (ht:t<k) (h:xb r v so t=true):(gq r t).to∈gV r v so k:=by
  refine yr r v so (show t+1<=k from ht) ?_;rw [gV];split
  · exact List.mem_append_right _ (by simp)
  · rename_i hc
    rw [h,Bool.true_and,Bool.not_eq_true',Bool.not_eq_false] at hc;exact List.contains_iff_mem.1 hc
theorem zI {r:Ro} (dU:rb r) {v:Int} {so:ByteArray} (hs:so∈ct r):∀ k,k<=r.ti.length->∀ m∈gV r v so k,(dE r r.po v so).Rc m
  | 0, _, m, hm => by
    rw [gV,List.mem_singleton] at hm;subst hm;rw [<- oI hs];exact Wn.Rc.D5
  | k + 1, hk, m, hm => by
    rw [gV] at hm;split at hm
    · rename_i h
      rcases List.mem_append.1 hm with hm | hm
      · exact zI dU hs k (by omega) m hm
      · rw [List.mem_singleton] at hm
        subst hm;rw [Bool.and_eq_true,q5 dU.ue dU.val] at h;exact Wn.Rc.ca (N:=dE r r.po v so) (show k<r.ti.length from hk) h.1
    · exact zI dU hs k (by omega) m hm
theorem vr {r:Ro} (dU:rb r) {v:Int} {so:ByteArray} (hs:so∈ct r) {m:Int} (h:(dE r r.po v so).Rc m):0<=m/\m<r.ma:=by
  have SA:∀ i,i<r.ti.length->0<=(gq r i).to/\(gq r i).to<r.ma:=fun i hi=>by
    rw [lV hi];exact (dU.tm _ (Zj hi)).2.1
  cases h with
  | D5 =>
    show 0<=jR r so/\jR r so<r.ma;rw [oI hs];unfold mi;obtain ⟨hl,_⟩:=eD (l:=ct r) (s:=so) (di hs);have tL:(bd (ct r) so).toNat<r.sr.length:=by
                                                           have e:(ct r).length=r.sr.length:=by unfold ct;rw [Zd]
                                                           omega
    rw [List.getD_eq_getElem?_getD,Zc tL];exact dU.sm _ (Zj tL)
  | ca hi _=>exact SA _ hi
  | fe hi _ _=>exact SA _ hi
structure wU (r:Ro) (v:Int) (so:ByteArray) (L:List Int) (i:Nat):Prop where
  nd:L.Nodup
  rc:∀ m∈L,(dE r r.po v so).Rc m
  rt:∀ m∈gV r v so r.ti.length,m∈L
  dn:∀ j x,j<i->L[j]? = some x->∀ t,t<r.ti.length->B5 r v x t=true->(gq r t).to∈L
theorem EX {L:List Int} {n:Nat} (jf:L.Nodup) (h:∀ m∈L,0<=m/\m<(n:Nat)):L.length<=n:=by
  have:=k8 n (L.map Int.toNat) (by
    show List.Pairwise (fun a b=>a≠b) (L.map Int.toNat)
    rw [List.pairwise_map];refine List.Pairwise.imp_of_mem (fun {a b} ha hb hne e=>hne ?_) jf;have:=h a ha;have:=h b hb;omega) (fun x hx=>by
    obtain ⟨m,hm,rfl⟩:=List.mem_map.1 hx;have:=h m hm;omega)
  rwa [Zd] at this
theorem wU.DM {r:Ro} (dU:rb r) {v:Int} {so:ByteArray} (hs:so∈ct r) {L:List Int} {i:Nat} (h:wU r v so L i):L.length<=4:=by
  have hl:=dU.lim;refine EX h.nd fun m hm=>?_;have:=vr dU hs (h.rc m hm);omega
theorem wU.begin {r:Ro} (dU:rb r) {v:Int} {so:ByteArray} (hs:so∈ct r):wU r v so (gV r v so r.ti.length) 0:=
  ⟨vg r v so _,zI dU hs _ (Nat.le_refl _),fun _ h=>h,fun j x h=>absurd h (Nat.not_lt_zero _)⟩
theorem wU.done {r:Ro} (dU:rb r) {v:Int} {so:ByteArray} (hs:so∈ct r) {L:List Int} (h:wU r v so L L.length) (m:Int):m∈L↔(dE r r.po v so).Rc m:=by
  refine Wn.ME (S:=fun m=>m∈L) ⟨?_,fun i hi hc=>?_⟩ (fun m hm=>h.rc m hm) m
  · show jR r so∈L
    rw [oI hs];exact h.rt _ (HX r v so _)
  · rcases hc with hc | ⟨hf,pX⟩
    · rw [<- q5 dU.ue dU.val] at hc
      exact h.rt _ (MA hi hc)
    · obtain ⟨j,hj,e⟩:=List.getElem_of_mem pX
      refine h.dn j _ hj (Zc hj) i hi ?_;rw [qT v so,e,hf];simp
def Ln (r:Ro) (v:Int) (so:ByteArray) (m:Int):Bool:=!((dE r r.po v so).all m ((dE r r.po v so).n+1) []).isEmpty
theorem H6 (r:Ro) (v:Int) (so:ByteArray) (m:Int):Ln r v so m=true↔(dE r r.po v so).Rc m:=by
  unfold Ln;rw [Bool.not_eq_true',List.isEmpty_eq_false_iff];constructor
  · intro h
    obtain ⟨q,hq⟩:=List.exists_mem_of_ne_nil _ h;obtain ⟨h1,h2⟩:=Wn.uM (Wn.ny _) hq;rw [<- h2];exact Wn.Tp h1
  · intro h e
    obtain ⟨p,hp,hf⟩:=Wn.TD h;exact Wn.all_none e p hp hf
def wu (r:Ro) (v:Int) (so:ByteArray):List Int:=((List.range r.ma.toNat).map fun i:Nat=>(i:Int)).filter (Ln r v so)
theorem Cb (r:Ro) (v:Int) (so:ByteArray):(wu r v so).Pairwise (fun a b=>a<b):=by
  unfold wu;refine List.Pairwise.filter _ ?_;rw [List.pairwise_map];exact List.pairwise_lt_range.imp fun h=>by omega
theorem KE {r:Ro} (dU:rb r) {v:Int} {so:ByteArray} (hs:so∈ct r) {m:Int}:m∈wu r v so↔(dE r r.po v so).Rc m:=by
  unfold wu;rw [List.mem_filter,H6];constructor
  · exact fun h=>h.2
  · intro h
    have:=vr dU hs h;exact ⟨List.mem_map.2 ⟨m.toNat,List.mem_range.2 (by omega),by omega⟩,h⟩
theorem KC {r:Ro} (dU:rb r) {v:Int} {so:ByteArray} (hs:so∈ct r) {L S:List Int} (jf:L.Nodup) (hL:∀ m,m∈L↔(dE r r.po v so).Rc m) (hp:S.Perm L) (No:S.Pairwise (fun a b=>a<=b)):S=wu r v so:=by
  have ZL:S.Nodup:=hp.nodup_iff.2 jf;have hSs:S.Pairwise (fun a b=>a<b):=(No.and ZL).imp fun ⟨h1,h2⟩=>by omega
  refine oE (R:=fun a b:Int=>a<b) (fun a b h h'=>by omega) hSs (Cb r v so) ?_;refine (List.perm_ext_iff_of_nodup ZL ((Cb r v so).imp fun h=>by omega)).2 fun m=>?_;rw [hp.mem_iff,hL,KE dU hs]
end Go.Proofs.A1
namespace Go.Proofs
open Go.Shelf
def Tryz.BK:Go.Shelf.Ren:=⟨fun | 189=>156 | 125=>245 | 257=>244 | 128=>312 | 129=>313 | 294=>303 | 295=>304 | 296=>305 | 297=>306 | 298=>307 | 299=>308 | 216=>309 | 300=>310 | 301=>311 | 328=>343 | 329=>344 | 330=>345 | 331=>346 | 332=>347 | 215=>342 | 343=>367 | n=>n,fun | 28=>49 | 3=>3 | 46=>318 | 0=>0 | 51=>381 | 53=>383 | 4=>4 | 183=>374 | 182=>373 | 131=>272 | 5=>5 | 9=>9 | 218=>409 | 222=>413 | 228=>428 | 229=>359 | n=>n,fun | n=>n⟩
theorem Tryz.ET:Go.Proofs.Lays.n189 Tryz.prog Tryz.BK:={
 mixed:=by kernel_rfl
 f125:=Tryz.func245.trans (congrArg some (by kernel_rfl))
 f128:=Tryz.func312.trans (congrArg some (by kernel_rfl))
 f129:=Tryz.func313.trans (congrArg some (by kernel_rfl))
 f189:=Tryz.func156.trans (congrArg some (by kernel_rfl))
 f215:=Tryz.func342.trans (congrArg some (by kernel_rfl))
 f216:=Tryz.func309.trans (congrArg some (by kernel_rfl))
 f257:=Tryz.func244.trans (congrArg some (by kernel_rfl))
 f294:=Tryz.func303.trans (congrArg some (by kernel_rfl))
 f295:=Tryz.func304.trans (congrArg some (by kernel_rfl))
 f296:=Tryz.func305.trans (congrArg some (by kernel_rfl))
 f297:=Tryz.func306.trans (congrArg some (by kernel_rfl))
 f298:=Tryz.func307.trans (congrArg some (by kernel_rfl))
 f299:=Tryz.func308.trans (congrArg some (by kernel_rfl))
 f300:=Tryz.func310.trans (congrArg some (by kernel_rfl))
 f301:=Tryz.func311.trans (congrArg some (by kernel_rfl))
 f328:=Tryz.func343.trans (congrArg some (by kernel_rfl))
 f329:=Tryz.func344.trans (congrArg some (by kernel_rfl))
 f330:=Tryz.func345.trans (congrArg some (by kernel_rfl))
 f331:=Tryz.func346.trans (congrArg some (by kernel_rfl))
 f332:=Tryz.func347.trans (congrArg some (by kernel_rfl))
 f343:=Tryz.func367.trans (congrArg some (by kernel_rfl))
 t0:=Tryz.underlying0
 a0:=Tryz.isAgg0
 z0:=Tryz.sizeOf0
 v0:=Tryz.zeroValue0
 t3:=Tryz.underlying3
 a3:=Tryz.isAgg3
 z3:=Tryz.sizeOf3
 v3:=Tryz.zeroValue3
 t4:=Tryz.underlying4
 a4:=Tryz.isAgg4
 z4:=Tryz.sizeOf4
 v4:=Tryz.zeroValue4
 t5:=Tryz.underlying5
 a5:=Tryz.isAgg5
 z5:=Tryz.sizeOf5
 v5:=Tryz.zeroValue5
 t9:=Tryz.underlying9
 a9:=Tryz.isAgg9
 z9:=Tryz.sizeOf9
 v9:=Tryz.zeroValue9
 t28:=Tryz.underlying49
 a28:=Tryz.isAgg49
 z28:=Tryz.sizeOf49
 v28:=Tryz.zeroValue49
 t46:=Tryz.underlying318
 a46:=Tryz.isAgg318
 z46:=Tryz.sizeOf318
 v46:=Tryz.zeroValue318
 t51:=Tryz.underlying381
 a51:=Tryz.isAgg381
 z51:=Tryz.sizeOf381
 v51:=Tryz.zeroValue381
 t53:=Tryz.underlying383
 a53:=Tryz.isAgg383
 z53:=Tryz.sizeOf383
 v53:=Tryz.zeroValue383
 t131:=Tryz.underlying272
 a131:=Tryz.isAgg272
 z131:=Tryz.sizeOf272
 v131:=Tryz.zeroValue272
 t182:=Tryz.underlying373
 a182:=Tryz.isAgg373
 z182:=Tryz.sizeOf373
 v182:=Tryz.zeroValue373
 t183:=Tryz.underlying374
 a183:=Tryz.isAgg374
 z183:=Tryz.sizeOf374
 v183:=Tryz.zeroValue374
 t218:=Tryz.underlying409
 a218:=Tryz.isAgg409
 z218:=Tryz.sizeOf409
 v218:=Tryz.zeroValue409
 t222:=Tryz.underlying413
 a222:=Tryz.isAgg413
 z222:=Tryz.sizeOf413
 v222:=Tryz.zeroValue413
 t228:=Tryz.underlying428
 a228:=Tryz.isAgg428
 z228:=Tryz.sizeOf428
 v228:=Tryz.zeroValue428
 t229:=Tryz.underlying359
 a229:=Tryz.isAgg359
 z229:=Tryz.sizeOf359
 v229:=Tryz.zeroValue359 }
open Go.Sort Go.RowKit in
theorem Tryz.slices_Sort_int (bC off cap:Nat) (zs:List Int) (w:World) (hH:Holds (Value.int .i64) w bC off zs.toArray) (hblk:bC<w.heap.size) (hsz:zs.length<4611686018427387904) :
  Calls Tryz.prog 156 #[.slice (some ⟨bC,off,none⟩) zs.length cap] w fun e w'=>
   e=.returned (.tuple #[])/\∃ n os,w'=grow (putRow (Value.int .i64) (Sort.ahead w n) bC off (zs.mergeSort fun x y=>decide (x<=y)).toArray) os:=Any.slices_Sort_int Tryz.ET bC off cap zs w hH hblk hsz
end Go.Proofs
namespace Go.Proofs.A1
open Go Go.SL
open Tryz
open Tryz renaming prog->T_
theorem Nb (l:List Int):∀ r∈ints l,r.length=1:=fun r hr=>by obtain ⟨x,_,rfl⟩:=List.mem_map.1 hr;rfl
theorem kS {c:Cx} {hs hs':List a8} {w:World} {l:List Int} {E:TypeId} {v:Value} {n:Nat} (hm:Mem c hs w) (ht:Take hs (row E 1 v n (l.map (Value.int .i64))) hs') (hn:l.length=n):Rd w v 1 (ints l):=hm.qx ht (yM l) (Nb l) (by rw [c5,hn])
set_option maxHeartbeats 1000000 in
theorem EA {r:Ro} {s d t p:Value} (v:Int) (so:ByteArray) {w:World} (h:RR w r s d t p) (cL:r.ti.length<=1000) (Q4:so∈ct r) :
  bh T_ 152 [RA r s d t p,.int .i64 v,.string so] w [] (fun _:Value=>True) id (fun x=>[row 3 1 x (gV r v so r.ti.length).length ((gV r v so r.ti.length).map (Value.int .i64))]):=by
 obtain ⟨h1,h2,h3,h4⟩:=h.one;have hti:=h.ti;obtain ⟨a,cp,b,o',rfl,c8,bV,ha,hc⟩:=hti;have Np:=h.sr;obtain ⟨a2,l8,b2,o2,rfl,jK,eE,iT,jL⟩:=Np;rw [bO] at *;rw [cu] at *;unfold maxLen at bV eE;obtain ⟨i0,pW⟩:∃ i:Nat,bd (ct r) so=(i:Nat):=⟨(bd (ct r) so).toNat,by have:=di Q4;omega⟩;have Ai:i0<r.sr.length:=by
  obtain ⟨hl,_⟩:=eD (l:=ct r) (s:=so) (by omega);rw [pW,Int.toNat_natCast] at hl;unfold ct at hl;rwa [Zd] at hl
 have xy:mi r so=(r.sr[i0]).mx:=by unfold mi;rw [pW,Int.toNat_natCast,List.getD_eq_getElem?_getD,Zc Ai];rfl
 have hsrc:∀ w',aD [] w w'->aj T_ 180 [.agg #[.int .i64 r.lv,.int .i64 r.ma,.slice a2 r.sr.length l8,d,.slice a r.ti.length cp,p],.string so] w' (.int .i64 (i0:Nat)):=fun w' hk=>pW ▸ mO so (h.keeps hk)
 have ql:=iT (gL Ai);have eB:=(jL i0 _ (fk Ai)).2;unfold Sr.cells at eB;have O6:=eB 1 _ I;unfold RA;refine aR func152 I I ?_;refine Jr<|Jy I I fun _ _=>Ja I<|Jn<|Jq ?_;rename_i b3 tQ
 with_reducible refine cC 9 (by kernel_rfl) ?_
 (refine ak kA I ?_;refine ak (gD .here) I ?_;refine ak (cr .here) I ?_;refine ak jP I ?_;refine aQ aX I (fun w' aq=>(hsrc w' (Mem.keeps aq))) ?_;refine ak (az (.of I) (.of I) ql (by omega) (by omega) ba) I ?_;refine ak kA I ?_;refine ak (ag (.of I) (At.base O6 I)) I ?_;refine dX (aB (.cons (.of I) .nil) I I I I) I I ?_)
 with_reducible refine cY I fun bq mA=>?_
 rw [<- xy]
 (refine Ja I<|Jn<|Jq<|Jr<|bK I I ae ?_;refine JL I (.there .here) I<|JI I<|Jv I<|Jn<|J0 ?_)
 refine bY (g:=bq) (E:=3) (ys:=[.int .i64 (mi r so)]) 1 1 (by exact .here) I I I ?_
 refine aY (ι:=Nat×Value) (fun x=>x.1<=r.ti.length) (fun x=>[(22,.int .i64 (x.1:Nat)),(21,.int .i64 (r.ti.length:Nat)),(20,.slice a r.ti.length cp),(7,x.2),(3,.pointer (some ⟨b3,0,none⟩)),(1,.int .i64 v),(2,.string so)])
  (fun x=>[row 3 1 x.2 (gV r v so x.1).length ((gV r v so x.1).map (Value.int .i64)),JP b3 r (.slice a2 r.sr.length l8) d (.slice a r.ti.length cp) p]) (fun x=>r.ti.length-x.1) ?_ ?_
 ·apply aK (0,.slice (some ⟨bq,0,none⟩) 1 1) (Zi _)
  case hs1=>exact cj
  case ht=>
   exact .cons .here (.cons .here .nil)
 rintro ⟨k,ov⟩ hk;dsimp only at hk ⊢;have T2:=Bm r v so k;by_cases aL:k<r.ti.length
 ·have cM:=ha (eO aL);have aF:=(hc k _ (dY aL)).2;unfold Ti.cells at aF;have o7:=lV aL;have tI:dG r k=(r.ti[k]).nm:=by unfold dG;rw [o7]
  have W9:gV r v so (k+1)=if xb r v so k&&!(gV r v so k).contains (r.ti[k]).to then gV r v so k++[(r.ti[k]).to] else gV r v so k:=by rw [gV,o7]
  generalize hL:gV r v so k=L at T2 W9 ⊢;have Gu:L.length=L.length:=rfl;have v8:∀ w',aD [] w w'->aj T_ 121 [.agg #[.int .i64 r.lv,.int .i64 r.ma,.slice a2 r.sr.length l8,d,.slice a r.ti.length cp,p],.int .i64 v,.string (r.ti[k]).nm] w' (.bool (gC r.po v (r.ti[k]).nm)):=fun w' hk=>pz v _ (h.keeps hk)
  have sS:∀ w',aD [] w w'->aj T_ 126 [.agg #[.int .i64 r.lv,.int .i64 r.ma,.slice a2 r.sr.length l8,d,.slice a r.ti.length cp,p],.int .i64 v,.string (r.ti[k]).nm] w' (.string (jX r v (r.ti[k]).nm)):=fun w' hk=>nb v _ (h.keeps hk) (by omega)
  have Kb:∀ (w':World),Rd w' ov 1 (ints L)->aj T_ 154 [ov,.int .i64 (r.ti[k]).to] w' (.bool (L.contains (r.ti[k]).to)):=fun w' hr=>lB _ hr
  have skip:(xb r v so k&&!L.contains (r.ti[k]).to)=false->gV r v so (k+1)=L:=fun e=>by rw [W9,e];rfl
  cases sq:gC r.po v (r.ti[k]).nm with
  | false =>
   have tP:∀ w',aD [] w w'->aj T_ 121 [.agg #[.int .i64 r.lv,.int .i64 r.ma,.slice a2 r.sr.length l8,d,.slice a r.ti.length cp,p],.int .i64 v,.string (r.ti[k]).nm] w' (.bool false):=fun w' hk=>sq ▸ v8 w' hk
   have TZ:=skip (by unfold xb;rw [tI,sq];rfl)
   (refine Jr<|JA I<|Jn<|Jq<|Jd I fun ar=>Jk<|Jq<|J0<|Jr<|ab (gj cM ar) I ?_;refine ab (iI (eU.base aF I)) I ?_;refine Jz I I fun _ _=>au (.of I) (.of I) .here I I (fx I I I) (bF I) an ?_;refine Ji<|ab (cr bT) I ?_;refine Jv I<|bK I I ae ?_;refine JL I .here I<|ai dH I (fun w' aq=>(tP w' (Mem.keeps aq))) ?_;refine Jv I<|aC I I inferInstance (fun hg br=>(cm (.of I) bT an (by rfl))) I ?_;refine fM I I I I ?_;refine aC I I inferInstance (fun hg br=>(ao (.of I) ae)) I ?_;refine aC I I inferInstance (fun hg br=>(ag (.bL br I) (At.lit .here I))) I ?_;refine cR I I I I ?_;refine fM I I I I ?_;refine cR I I I I ?_;refine ab (bB (.of I) (.of I) (.of I) I) I ?_;refine Jv I<|fM I I I I ?_;refine aC I I inferInstance (fun hg br=>(ao (.of I) ae)) I ?_;refine aC I I inferInstance (fun hg br=>(ag (.bL br I) (At.lit .here I))) I ?_;refine cR I I I I ?_;refine aC I I inferInstance (fun hg br=>(eY (.bL br I))) I ?_;refine ab (bB (.of I) (.of I) (.of I) I) I ?_;refine Jn<|bR (.of I) ?_;refine Jw<|Jj<|Jt<|Jg<|JB I (by omega)<|Jv I<|Jn ?_)
   apply aJ (k+1,ov) (show k+1<=r.ti.length by omega) (show r.ti.length-(k+1)<r.ti.length-k by omega)
   case hs1=>exact cj
   case ht=>
    rw [TZ];exact .cons (.there .here) (.cons (.there .here) .nil)
  | true =>
   have tP:∀ w',aD [] w w'->aj T_ 121 [.agg #[.int .i64 r.lv,.int .i64 r.ma,.slice a2 r.sr.length l8,d,.slice a r.ti.length cp,p],.int .i64 v,.string (r.ti[k]).nm] w' (.bool true):=fun w' hk=>sq ▸ v8 w' hk
   by_cases uP:jX r v (r.ti[k]).nm=so
   ·cases Gt:L.contains (r.ti[k]).to with
    | true =>
     have ND:∀ (w':World),Rd w' ov 1 (ints L)->aj T_ 154 [ov,.int .i64 (r.ti[k]).to] w' (.bool true):=fun w' hr=>Gt ▸ Kb w' hr
     have TZ:=skip (by rw [Gt,Bool.not_true,Bool.and_false])
     (refine Jr<|JA I<|Jn<|Jq<|Jd I fun ar=>Jk<|Jq<|J0<|Jr<|ab (gj cM ar) I ?_;refine ab (iI (eU.base aF I)) I ?_;refine Jz I I fun _ _=>au (.of I) (.of I) .here I I (fx I I I) (bF I) an ?_;refine Ji<|ab (cr bT) I ?_;refine Jv I<|bK I I ae ?_;refine JL I .here I<|ai dH I (fun w' aq=>(tP w' (Mem.keeps aq))) ?_;refine Jv I<|JK I I<|ab (cr bT) I ?_;refine JK I I<|Jv I<|JK I I<|bK I I ae ?_;refine JK I I<|JL I .here I<|JK I I<|ai dH I (fun w' aq=>(sS w' (Mem.keeps aq))) ?_;refine JK I I<|Jv I<|JK I I<|ab (rD (.of I) (.of I) uP) I ?_;refine ab (cK (.of I) (.of I) (.of I) I) I ?_;refine Jv I<|JK I I<|Jv I<|JK I I<|bK I I ae ?_;refine JK I I<|JL I .here I<|JK I I<|ai aX I (fun w' aq=>(ND w' (kS aq (.there .here) Gu))) ?_;refine JK I I<|JH I<|ab (bB (.of I) (.of I) (.of I) I) I ?_;refine Jn<|bR (.of I) ?_;refine Jw<|Jj<|Jt<|Jg<|JB I (by omega)<|Jv I<|Jn ?_)
     apply aJ (k+1,ov) (show k+1<=r.ti.length by omega) (show r.ti.length-(k+1)<r.ti.length-k by omega)
     case hs1=>exact cj
     case ht=>
      rw [TZ];exact .cons (.there .here) (.cons (.there .here) .nil)
    | false =>
     have ND:∀ (w':World),Rd w' ov 1 (ints L)->aj T_ 154 [ov,.int .i64 (r.ti[k]).to] w' (.bool false):=fun w' hr=>Gt ▸ Kb w' hr
     have mU:gV r v so (k+1)=L++[(r.ti[k]).to]:=by rw [W9,Gt];unfold xb;rw [tI,sq,decide_eq_true uP];rfl
     have Nv:(L.map (Value.int .i64)).length=L.length*1:=by rw [Zd,Nat.mul_one]
     (refine Jr<|JA I<|Jn<|Jq<|Jd I fun ar=>Jk<|Jq<|J0<|Jr<|ab (gj cM ar) I ?_;refine ab (iI (eU.base aF I)) I ?_;refine Jz I I fun _ _=>au (.of I) (.of I) .here I I (fx I I I) (bF I) an ?_;refine Ji<|ab (cr bT) I ?_;refine Jv I<|bK I I ae ?_;refine JL I .here I<|ai dH I (fun w' aq=>(tP w' (Mem.keeps aq))) ?_;refine Jv I<|JK I I<|ab (cr bT) I ?_;refine JK I I<|Jv I<|JK I I<|bK I I ae ?_;refine JK I I<|JL I .here I<|JK I I<|ai dH I (fun w' aq=>(sS w' (Mem.keeps aq))) ?_;refine JK I I<|Jv I<|JK I I<|ab (rD (.of I) (.of I) uP) I ?_;refine ab (cK (.of I) (.of I) (.of I) I) I ?_;refine Jv I<|JK I I<|Jv I<|JK I I<|bK I I ae ?_;refine JK I I<|JL I .here I<|JK I I<|ai aX I (fun w' aq=>(ND w' (kS aq (.there .here) Gu))) ?_;refine JK I I<|JH I<|ab (cK (.of I) (.of I) (.of I) I) I ?_;refine Jn<|cE (.of I) ?_;refine Jg<|Jv I<|bK I I ae ?_;refine JL I .here I<|bb (aB (.cons (.of I) .nil) I I I I) I fun _ _=>?_)
     refine bE (.of I) (.of I) bT .here an (by rfl) (eF I) (by rfl) (by rfl) (by rfl) eV (by rfl) ?_;intro v';refine Ja I<|Jx<|Jj<|Jt<|Jg<|JB I (by omega)<|Jv I<|Jn ?_;apply aJ (k+1,v') (show k+1<=r.ti.length by omega) (show r.ti.length-(k+1)<r.ti.length-k by omega)
     case hs1=>exact cj
     case ht=>
      rw [mU,Zg,List.map_append];exact .cons .here (.cons bT .nil)
   ·have TZ:=skip (by unfold xb;rw [tI,sq,decide_eq_false uP];rfl)
    (refine Jr<|JA I<|Jn<|Jq<|Jd I fun ar=>Jk<|Jq<|J0<|Jr<|ab (gj cM ar) I ?_;refine ab (iI (eU.base aF I)) I ?_;refine Jz I I fun _ _=>au (.of I) (.of I) .here I I (fx I I I) (bF I) an ?_;refine Ji<|ab (cr bT) I ?_;refine Jv I<|bK I I ae ?_;refine JL I .here I<|ai dH I (fun w' aq=>(tP w' (Mem.keeps aq))) ?_;refine Jv I<|JK I I<|ab (cr bT) I ?_;refine JK I I<|Jv I<|JK I I<|bK I I ae ?_;refine JK I I<|JL I .here I<|JK I I<|ai dH I (fun w' aq=>(sS w' (Mem.keeps aq))) ?_;refine JK I I<|Jv I<|JK I I<|ab (vm (.of I) (.of I) uP) I ?_;refine ab (bB (.of I) (.of I) (.of I) I) I ?_;refine Jv I<|fM I I I I ?_;refine aC I I inferInstance (fun hg br=>(ao (.of I) ae)) I ?_;refine aC I I inferInstance (fun hg br=>(ag (.bL br I) (At.lit .here I))) I ?_;refine cR I I I I ?_;refine aC I I inferInstance (fun hg br=>(eY (.bL br I))) I ?_;refine ab (bB (.of I) (.of I) (.of I) I) I ?_;refine Jn<|bR (.of I) ?_;refine Jw<|Jj<|Jt<|Jg<|JB I (by omega)<|Jv I<|Jn ?_)
    apply aJ (k+1,ov) (show k+1<=r.ti.length by omega) (show r.ti.length-(k+1)<r.ti.length-k by omega)
    case hs1=>exact cj
    case ht=>
     rw [TZ];exact .cons (.there .here) (.cons (.there .here) .nil)
 ·obtain rfl:k=r.ti.length:=by omega
  refine Jr<|JA I<|Jn<|Jq<|Jc I fun ar=>Jp<|Jl<|Jo<|Jt<|Jr<|Jv I<|Ja I<|Jn<|Je ?_
  first | with_reducible apply aN | with_reducible apply aO
  case he=>exact dJ I I
  case hR=>
   intro w' aq;exact aG ov trivial (by exact .cons .here .nil) aq I
end Go.Proofs.A1
namespace Go.Proofs.A1
open Go Go.SL Go.Shelf Go.RowKit
open Tryz
open Tryz renaming prog->T_
def rr (l:List Int):List Int:=l.mergeSort fun x y=>decide (x<=y)
theorem rq (l:List Int):(rr l).length=l.length:=List.length_mergeSort _
theorem HH (l:List Int):List.Perm (rr l) l:=List.mergeSort_perm _ _
theorem Mm (l:List Int):(rr l).Pairwise (·<=·):=by
 have:=List.pairwise_mergeSort (le:=fun x y:Int=>decide (x<=y)) (fun a b c h1 h2=>by simp at *;omega) (fun a b=>by simp;omega) l
 exact this.imp fun h=>by simpa using h
theorem H8 {α:Type} [Inhabited α] {enc:α->Value} {w:World} {g n:Nat} {os:Array Obj} {cur:Array Value} {e:TypeId} {fr:Nat×Nat} (d:Array α) (hb:w.heap[g]? = some (.cells cur e fr)) :
  (Go.Sort.grow (Go.Sort.putRow enc (Go.Sort.ahead w n) g 0 d) os).heap[g]? = some (.cells (Go.Sort.putCells enc 0 d cur) e fr):=by
 have hg:g<w.heap.size:=(Array.getElem?_eq_some_iff.1 hb).1;rw [Go.Sort.heap_grow_old _ _ (by simpa using hg)];simp [Go.Sort.putRow,Go.Sort.mapBlock,Go.Sort.ahead,Array.getElem?_modify,hb,Go.Sort.onCells]
theorem F3 {α:Type} [Inhabited α] {enc:α->Value} {w:World} {g n:Nat} {os:Array Obj} (d:Array α):aD [g] w (Go.Sort.grow (Go.Sort.putRow enc (Go.Sort.ahead w n) g 0 d) os):=by
 refine ⟨I,I,I,Nat.le_add_right _ _,by simp,fun k hk hne=>?_⟩;rw [Go.Sort.heap_grow_old _ _ (by simpa using hk)];have:g≠k:=fun e=>hne (by rw [e];simp)
 simp [Go.Sort.putRow,Go.Sort.mapBlock,Go.Sort.ahead,Array.getElem?_modify,this]
theorem HD {α:Type} [Inhabited α] {enc:α->Value} (cur:Array Value) (ts:List α) (h:ts.length<=cur.size):(Go.Sort.putCells enc 0 ts.toArray cur).toList.take ts.length=ts.map enc:=by
 apply List.ext_getElem?;intro j;by_cases hj:j<ts.length
 ·rw [List.getElem?_take_of_lt hj,Array.getElem?_toList];simp [Go.Sort.putCells,hj,show j<cur.size by omega]
 ·rw [List.getElem?_take_eq_none (by omega),List.getElem?_eq_none (by simp;omega)]
theorem DA {w:World} {g:Nat} {cur:Array Value} {e:TypeId} {l:List Int} (hb:w.heap[g]? = some (.cells cur e (0,0))) (ht:cur.toList.take l.length=l.map (Value.int .i64)):Go.Sort.Holds (Value.int .i64) w g 0 l.toArray:=by
 intro j hj;have kH:j<l.length:=by simpa using hj
 refine ⟨?_,by simp [World.frozen?,hb]⟩;have h1:(cur.toList.take l.length)[j]? = (l.map (Value.int .i64))[j]?:=by rw [ht]
 rw [List.getElem?_take_of_lt kH] at h1;simp only [World.cell?,hb,Nat.zero_add];simp only [Option.isSome_none,Bool.false_eq_true,if_false];rw [Array.getElem?_toList] at h1;rw [h1];simp [kH]
theorem Qf {v:Value} {l:List Int} {n:Nat} {w:World} {fp:List Nat} (hn:n=l.length) (hl:n<=1000000) (hs:ch (hp w) [row 3 1 v n (l.map (Value.int .i64))] fp) :
  bh T_ 156 [v] w fp (fun _:Unit=>True) (fun _=>.tuple #[]) (fun _=>[row 3 1 v n ((rr l).map (Value.int .i64))]):=by
 obtain ⟨f1,f2,rfl,h1,h2⟩:=hs;obtain rfl:f2=[]:=h2;obtain ⟨rfl,hlen,h1⟩:=h1;rw [List.append_nil];rcases h1 with ⟨rfl,h0⟩ | ⟨g,cap,cur,rfl,hg,kc,jL,nW,vZ⟩
 ·have mF:l=[]:=List.eq_nil_of_length_eq_zero (by omega);refine (Any.slices_Sort_int_none Tryz.ET none 0 w).mono fun e w' ⟨he,hw⟩=>?_;subst hw;refine ⟨(),he,trivial,.refl _ _,[],List.nodup_nil,⟨[],[],I,⟨I,?_,.inl ⟨I,h0⟩⟩,I⟩,by simp⟩;rw [Zd,rq];omega
 ·rw [Nat.mul_one] at nW vZ;have LD:g<w.heap.size:=(Array.getElem?_eq_some_iff.1 hg).1;subst hn;refine (slices_Sort_int g 0 cap l w (DA hg vZ) LD (by omega)).mono fun e w' ⟨he,m,os,hw⟩=>?_;subst hw;refine ⟨(),he,trivial,F3 _,[g],by simp,⟨[g],[],I,⟨I,?_,.inr ⟨g,cap,_,I,H8 _ hg,kc,jL,?_,?_⟩⟩,I⟩,by simp [Value.ownBlock]⟩
  ·rw [Zd,rq];omega
  ·simp [Go.Sort.putCells,nW]
  ·rw [Nat.mul_one];have:=HD (enc:=Value.int .i64) cur (rr l) (by rw [rq];omega);rw [rq] at this;exact this
def KD (r:Ro) (v:Int) (so de:ByteArray):Int:=if jw r v so de≠0 then jw r v so de else if Ln r v so (jV r de) then 24 else 0
def GF (r:Ro) (v:Int) (so de:ByteArray):List Int:=if jw r v so de≠0 then [] else if Ln r v so (jV r de) then [] else wu r v so
theorem To {L:List Int} {i:Nat} (h:i<L.length) (cur:List Value):(L.map (Value.int .i64)++cur)[i*1]? = some (.int .i64 L[i]):=by
 rw [Nat.mul_one,List.getElem?_append_left (by rw [Zd];exact h),List.getElem?_map,Zc h];rfl
structure wQ (r:Ro) (v:Int) (so:ByteArray) (L:List Int) (m:Int) (L':List Int) (k:Nat):Prop where
 pre:L <+: L'
 nd:L'.Nodup
 rc:∀ x∈L',(dE r r.po v so).Rc x
 dn:∀ j,j<k->∀ t,(fJ r v m r.ti.length)[j]? = some t->(gq r t).to∈L'
theorem wQ.DM {r:Ro} (dU:rb r) {v:Int} {so:ByteArray} (hs:so∈ct r) {L L':List Int} {m:Int} {k:Nat} (h:wQ r v so L m L' k):L'.length<=4:=by
 have hl:=dU.lim;refine EX h.nd fun x hx=>?_;have:=vr dU hs (h.rc x hx);omega
theorem wQ.stay {r:Ro} {v:Int} {so:ByteArray} {L L':List Int} {m:Int} {k t:Nat} (h:wQ r v so L m L' k) (ht:(fJ r v m r.ti.length)[k]? = some t) (hc:(gq r t).to∈L'):wQ r v so L m L' (k+1):=by
 refine ⟨h.pre,h.nd,h.rc,fun j hj t' Gh=>?_⟩;by_cases e:j=k
 ·subst e;rw [ht] at Gh;cases Gh;exact hc
 ·exact h.dn j (by omega) t' Gh
theorem wQ.add {r:Ro} {v:Int} {so:ByteArray} {L L':List Int} {m:Int} {k t:Nat} (h:wQ r v so L m L' k) (hm:m∈L) (ht:(fJ r v m r.ti.length)[k]? = some t) (hc:¬ (gq r t).to∈L'):wQ r v so L m (L'++[(gq r t).to]) (k+1):=by
 have jT:=List.mem_of_getElem? ht;unfold fJ at jT;rw [List.mem_filter,List.mem_range,qT v so,Bool.and_eq_true,decide_eq_true_eq] at jT;have Xf:(dE r r.po v so).Rc (gq r t).to:=Wn.Rc.fe (N:=dE r r.po v so) jT.1 jT.2.2 (by rw [jT.2.1];exact h.rc m (h.pre.subset hm));have h2:wQ r v so L m (L'++[(gq r t).to]) k:=by
  refine ⟨h.pre.trans (List.prefix_append _ _),?_,fun x hx=>?_,fun j hj t' Gh=>List.mem_append_left _ (h.dn j hj t' Gh)⟩
  ·rw [List.nodup_append];refine ⟨h.nd,by simp,fun a ha b hb e=>?_⟩;rw [List.mem_singleton] at hb;subst hb;subst e;exact hc ha
  ·rcases List.mem_append.1 hx with hx | hx
   ·exact h.rc x hx
   ·rw [List.mem_singleton.1 hx];exact Xf
 exact h2.stay ht (by simp)
theorem wU.next {r:Ro} {v:Int} {so:ByteArray} {L L':List Int} {m:Int} {i:Nat} (h:wU r v so L i) (hi:L[i]? = some m) (hJ:wQ r v so L m L' (fJ r v m r.ti.length).length):wU r v so L' (i+1)/\i+1<=L'.length:=by
 have il:=(List.getElem?_eq_some_iff.1 hi).1;have vO:=hJ.pre.length_le;refine ⟨⟨hJ.nd,hJ.rc,fun x hx=>hJ.pre.subset (h.rt x hx),fun j x hj hx t ht hf=>?_⟩,by omega⟩;have QT:L[j]? = some x:=by
  rw [<- hx];obtain ⟨q,rfl⟩:=hJ.pre;rw [List.getElem?_append_left (by omega)]
 by_cases e:j=i
 ·subst e;rw [hi] at QT;cases QT;have hm:t∈fJ r v m r.ti.length:=by unfold fJ;exact List.mem_filter.2 ⟨List.mem_range.2 ht,hf⟩
  obtain ⟨q,hq,e⟩:=List.getElem_of_mem hm;exact hJ.dn q hq t (by rw [Zc hq,e])
 ·exact hJ.pre.subset (h.dn j x (by omega) QT t ht hf)
set_option maxHeartbeats 2000000 in
theorem Vt {r:Ro} {s d t p:Value} (v:Int) (so de:ByteArray) {w:World} (h:RR w r s d t p) (cL:np r):bh T_ 36 [RA r s d t p,.int .i64 v,.string so,.string de] w [] (fun _:Value=>True) (fun x=>.tuple #[x,.int .i64 (KD r v so de)]) (fun x=>[row 3 1 x (GF r v so de).length ((GF r v so de).map (Value.int .i64))]):=by
 obtain ⟨h1,h2,h3,h4⟩:=h.one;have lM:=h.de;obtain ⟨a3,pq,b3,o3,rfl,lo,fD,qA,nW⟩:=lM;rw [bZ] at *;unfold maxLen at fD;unfold RA;refine aR func36 I I ?_
 (refine Jr<|Jy I I fun _ _=>Ja I<|Ja I<|Jn<|Jq<|Jr<|ab (cr .here) I ?_;refine Jv I<|Jv I<|Jv I ?_)
 rename_i b4 uQ;refine ai nO I (fun w' aq=>nK (s:=s) (d:=.slice a3 r.de.length pq) (t:=t) (p:=p) v so de (h.keeps aq.keeps) cL) ?_
 (refine Ja I<|Ji<|Jv I<|JD I<|Jn<|gl I (fun ar=>?_) fun ar=>?_;refine Jr<|Jv I<|Ja I<|Ja I<|Jn<|Ju ?_;rotate_left;refine Jk<|Jr<|ab (cr .here) I ?_;refine Jv I<|Jv I ?_;rotate_right)
 ·have e1:GF r v so de=[]:=if_pos ar;have e2:KD r v so de=jw r v so de:=if_pos ar;rw [e1,e2];refine aP 3 1 ?_
  first | with_reducible apply aN | with_reducible apply aO
  case he=>exact fW I I I
  case hR=>
   intro w' aq;exact aG (.slice none 0 0) trivial (by exact .cons .here .nil) aq I
 have e0:jw r v so de=0:=Decidable.not_not.1 ar;obtain ⟨dU,hv,rR,fH⟩:=rm e0;have e1:GF r v so de=if Ln r v so (jV r de) then [] else wu r v so:=if_neg ar
 have e2:KD r v so de=if Ln r v so (jV r de) then 24 else 0:=if_neg ar
 clear ar;have Y4:=dU.len.2.2;obtain ⟨j0,tM⟩:∃ i:Nat,bd (cz r) de=(i:Nat):=⟨(bd (cz r) de).toNat,by have:=di fH;omega⟩;have xz:j0<r.de.length:=by
  obtain ⟨hl,_⟩:=eD (l:=cz r) (s:=de) (by omega);rw [tM,Int.toNat_natCast] at hl;unfold cz at hl;rwa [Zd] at hl
 have Rv:jV r de=(r.de[j0]).mx:=by unfold jV;rw [tM,Int.toNat_natCast,List.getD_eq_getElem?_getD,Zc xz];rfl
 have qk:∀ w',aD [] w w'->aj T_ 155 [.agg #[.int .i64 r.lv,.int .i64 r.ma,s,.slice a3 r.de.length pq,t,p],.string de] w' (.int .i64 (j0:Nat)):=fun w' hk=>tM ▸ fw de (h.keeps hk)
 have ui:=qA (gS xz);have ll:=(nW j0 _ (fu xz)).2;unfold De.cells at ll;have xC:=ll 1 _ I;rw [e1,e2];refine JN dH I (fun w1 aS=>EA (s:=s) (d:=.slice a3 r.de.length pq) (t:=t) (p:=p) v so (h.keeps aS.keeps) (by omega) rR) ?_;intro rv _;dsimp only [id_eq,Zb,Za];refine aW (by exact .here) fun ra rc_ e=>?_;subst e;have hC:=wU.begin (v:=v) dU rR;generalize gV r v so r.ti.length=L0 at hC ⊢
 (refine Jz I I fun _ _=>au (.of I) (.of I) .here I I (eF I) (bF I) an ?_;refine Jn<|Jq<|Jr<|Ja I<|Jn<|J0 ?_)
 rename_i PG Yh
 refine En (ι:=Nat×Value×List Int) (fun x=>wU r v so x.2.2 x.1/\x.1<=x.2.2.length) (fun x=>[(12,.int .i64 (x.1:Nat)),(11,.pointer (some ⟨PG,0,none⟩)),(4,.pointer (some ⟨b4,0,none⟩)),(1,.int .i64 v),(2,.string so),(3,.string de)])
  (fun x=>[bC PG (.cells #[x.2.1] 49 (0,0)),row 3 1 x.2.1 x.2.2.length (x.2.2.map (Value.int .i64)),JP b4 r s (.slice a3 r.de.length pq) t p]) (fun x=>4-x.1) ?_ ?_
 ·apply xU (0,.slice ra L0.length rc_,L0) ⟨hC,Zi _⟩
  case hs1=>exact cj
  case ht=>
   exact .cons .here (.cons .here (.cons .here .nil))
 rintro ⟨i,ov,L⟩ ⟨hC,hiL⟩ D;dsimp only at hC hiL ⊢;have h4L:=hC.DM dU rR;have Gu:L.length=L.length:=rfl;refine aW (by exact Take.there .here) fun oa oc e=>?_;subst e;by_cases aL:i<L.length
 ·refine Jq<|Jr<|Jv I<|JL I .here I<|JI I<|JA I<|Jn<|Jd I fun ar=>Jk<|Jq<|J0<|Jq ?_;refine c7 (by exact Take.there .here) (by omega) fun g iu cur e nV BW BS tL=>?_;cases e;have c1:=To aL cur
  with_reducible refine cW 6 (by kernel_rfl) ?_
  (refine aA (cr bT) I ?_;refine iv I I ?_;refine aA (gD (.there .here)) I ?_;refine iv I I ?_;refine aA (az (.of I) (.of I) I (by omega) ar ba) I ?_;refine aA (ag (.of I) (At.lP .here c1)) I ?_)
  with_reducible refine cZ ?_
  refine dx (by exact .here) nV BW BS tL ?_
  with_reducible apply jh
  case hr=>exact dH
  case hd=>rfl
  case ht=>exact bn.nil
  case hc=>
   intro w1 fp aS _ hs1;obtain rfl:fp=[]:=hs1;exact sO (s:=s) (d:=.slice a3 r.de.length pq) (t:=t) (p:=p) v L[i] (h.keeps aS.keeps)
  intro y _;dsimp only [id_eq,Zb,Za];refine Jn<|J0 ?_;have B1:L[i]? = some L[i]:=Zc aL;have jT:L[i]∈L:=Zj aL;generalize L[i]=m at B1 jT ⊢
  refine jt (ps:=[40,41]) (f:=240) (first:=[]) (cap:=[.pointer (some ⟨y.1,0,none⟩),.pointer (some ⟨y.2.1,0,none⟩),.pointer (some ⟨y.2.2,0,none⟩)]) (ι:=Value×List Int) (κ:=Empty)
   (rst:=[JP b4 r s (.slice a3 r.de.length pq) t p]) ?hg
   [JP y.1 r s (.slice a3 r.de.length pq) t p,bC y.2.1 (.cells #[.int .i64 m] 3 (0,0)),bC y.2.2 (.cells #[.int .i64 v] 3 (0,0))] (Lu r v m) ?hit
   (fun k x=>wQ r v so L m x.2 k)
   (fun x=>[bC PG (.cells #[x.1] 49 (0,0)),row 3 1 x.1 x.2.length (x.2.map (Value.int .i64))])
   (fun _=>False) (fun _=>[]) (fun _=>.ret) (.slice (some ⟨g,0,none⟩) L.length oc,L) ⟨List.prefix_rfl,hC.nd,hC.rc,fun j hj=>absurd hj (Nat.not_lt_zero _)⟩ ?ht ?hlen ?hps ?round ?kn ?kj
  case hg=>exact Is.of I
  case hit=>intro w' aq;exact ID v m h RO.nil (by omega)
  case ht=>
   dsimp only [Zb,Za];exact .cons fg (.cons db (.cons .here (.cons .here (.cons .here .nil))))
  case hlen=>intro vs o6;obtain ⟨x,_,rfl⟩:=List.mem_map.1 o6;rfl
  case hps=>intro t ht;simp only [List.mem_cons,List.not_mem_nil,or_false] at ht;rcases ht with rfl | rfl <;> exact Nat.le_of_ble_eq_true rfl
  case kj=>intro y;cases y
  case kn=>
   rintro ⟨OQ,L2⟩ D2 hJ;dsimp only [Zb,Za] at hJ ⊢;rw [uN] at hJ;obtain ⟨hC2,XA⟩:=hC.next B1 hJ;refine Jj<|Jj<|Jt<|Jg<|Jv I<|JB I (by omega)<|Ja I<|Jn ?_;apply A3 (i+1,OQ,L2) ⟨hC2,XA⟩ (show 4-(i+1)<4-i by omega)
   case hs1=>exact cj
   case ht=>
    exact .cons .here (.cons .here (.cons db .nil))
  case round=>
   rintro l2 rc W2 UW k ⟨OQ,L2⟩ vs hsz hk hJ hB hF;dsimp only at hJ;obtain ⟨OK,TU,rfl,il,Rp⟩:=Dp hk;have Zv:=hJ.DM dU rR;have Gu:L2.length=L2.length:=rfl;have Nv:(L2.map (Value.int .i64)).length=L2.length*1:=by rw [Zd,Nat.mul_one]
   have Kb:∀ (w':World) (OQ:Value),Rd w' OQ 1 (ints L2)->aj T_ 154 [OQ,.int .i64 (gq r OK).to] w' (.bool (L2.contains (gq r OK).to)):=fun w' OQ hr=>lB _ hr
   dsimp only [Ti.cells,List.zip_cons_cons,List.zip_nil_right,mq,Zb,Za]
   (refine Jg<|Jz I I fun _ _=>au (.of I) (.of I) .here I I (fx I I I) (bF I) an ?_;refine Jn ?_)
   with_reducible apply mL
   case ht=>exact Take.there .here
   refine aW (E:=3) (sz:=1) db fun va vc e=>?_;subst e
   (refine J0<|Jr<|JL I bT I<|bK I I ae ?_;refine JL I (.there .here) I ?_)
   cases Gt:L2.contains (gq r OK).to with
   | true =>
    have ND:∀ (w':World),Rd w' (.slice va L2.length vc) 1 (ints L2)->aj T_ 154 [.slice va L2.length vc,.int .i64 (gq r OK).to] w' (.bool true):=fun w' hr=>Gt ▸ Kb w' _ hr
    (refine ai aX I (fun w' aq=>(ND w' (kS aq db Gu))) ?_;refine JH I<|Jn<|bR (.of I) ?_;refine Jw<|Jj ?_)
    apply lT (.slice va L2.length vc,L2)
    case ht=>exact .here
    case hx=>exact hJ.stay TU (List.contains_iff_mem.1 Gt)
    case h2=>exact .cons (.there .here) (.cons (.there .here) .nil)
   | false =>
    have ND:∀ (w':World),Rd w' (.slice va L2.length vc) 1 (ints L2)->aj T_ 154 [.slice va L2.length vc,.int .i64 (gq r OK).to] w' (.bool false):=fun w' hr=>Gt ▸ Kb w' _ hr
    (refine ai aX I (fun w' aq=>(ND w' (kS aq db Gu))) ?_;refine JH I<|Jn<|cE (.of I) ?_;refine Jg<|JL I bT I<|bK I I ae ?_;refine JL I (.there .here) I<|bb (aB (.cons (.of I) .nil) I I I I) I fun _ _=>?_)
    refine bE (.of I) (.of I) fg .here an (by rfl) (eF I) (by rfl) (by rfl) (by rfl) eV (by rfl) ?_;intro v';refine aW (by exact .here) fun a' dB e=>?_;subst e
    (refine au (.of I) (.of I) fg I I (eF I) (bF I) an ?_;refine Jx<|Jj ?_)
    apply lT (.slice a' (L2.length+1) dB,L2++[(gq r OK).to])
    case ht=>exact db
    case hx=>exact hJ.add jT TU (fun hm=>by rw [List.contains_iff_mem.2 hm] at Gt;cases Gt)
    case h2=>
     show bn _ [bC PG (.cells #[.slice a' (L2.length+1) dB] 49 (0,0)),row 3 1 (.slice a' (L2.length+1) dB) (L2++[(gq r OK).to]).length ((L2++[(gq r OK).to]).map (Value.int .i64))] _;rw [Zg,List.map_append];exact .cons .here (.cons .here .nil)
 ·obtain rfl:i=L.length:=by omega
  have l5:=hC.done dU rR;have hcb:L.contains (jV r de)=Ln r v so (jV r de):=by rw [Bool.eq_iff_iff,List.contains_iff_mem,l5,H6]
  have ND:∀ (w':World),Rd w' (.slice oa L.length oc) 1 (ints L)->aj T_ 154 [.slice oa L.length oc,.int .i64 (r.de[j0]).mx] w' (.bool (Ln r v so (jV r de))):=fun w' hr=>by
   rw [<- hcb,Rv];exact lB _ hr
  refine Jq<|Jr<|Jv I<|JL I .here I<|JI I<|JA I<|Jn<|Jc I fun ar=>Jp<|Jl<|Jo<|Jt<|Jq<|Jq ?_
  with_reducible refine cW 10 (by kernel_rfl) ?_
  (refine aA (gD .here) I ?_;refine mG I I ae ?_;refine aA (gD bT) I ?_;refine aA (cr bT) I ?_;refine iv I I ?_;refine c6 aX I (fun w' aq=>(qk w' (Mem.keeps aq))) ?_;refine aA (az (.of I) (.of I) ui (by omega) (by omega) ba) I ?_;refine mG I I ae ?_;refine aA (ag (.of I) (At.base xC I)) I ?_;refine c6 aX I (fun w' aq=>(ND w' (kS aq (.there .here) Gu))) ?_)
  with_reducible refine cZ ?_
  cases hrb:Ln r v so (jV r de) with
  | true =>
   (refine Jn<|cE (.of I) ?_;refine Jr<|Ja I<|Ja I<|Jn<|Ju ?_)
   refine aP 3 1 ?_
   first | with_reducible apply aN | with_reducible apply aO
   case he=>exact fW I I I
   case hR=>
    intro w' aq;exact aG (.slice none 0 0) trivial (by exact .cons .here .nil) aq I
  | false =>
   (refine Jn<|bR (.of I) ?_;refine Jk<|Jr<|JL I .here I ?_)
   with_reducible apply gp (As:=[row 3 1 (.slice oa L.length oc) L.length (L.map (Value.int .i64))])
   case hr=>exact bN
   case hd=>rfl
   case ht=>exact oA
   case hc=>
    intro w1 AS aS vQ hs1 CF _;exact Qf I (by omega) hs1
   intro _ _;have No:rr L=wu r v so:=KC dU rR hC.nd l5 (HH L) (Mm L);have VT:(wu r v so).length=L.length:=by rw [<- No,rq]
   rw [No];dsimp only [id_eq,Zb,Za];refine Ji<|JL I (.there .here) I<|Ja I<|Ja I<|Jn<|Je ?_
   first | with_reducible apply aN | with_reducible apply aO
   case he=>exact fW I I I
   case hR=>
    intro w' aq;exact aG (.slice oa L.length oc) trivial (show bn _ [row 3 1 (.slice oa L.length oc) (wu r v so).length ((wu r v so).map (Value.int .i64))] _ by rw [VT];exact .cons .here .nil) aq I
end Go.Proofs.A1
namespace Go.Proofs.A1
open Go Go.SL
open Tryz
open Tryz renaming prog->T_
theorem IY {lv:Value} {l:List Int} {p:Int->Bool} {f:FuncId} {first cap:List Value} [bU T_ f] {w:World} (h:Rd w lv 1 (ints l)) (cn:∀ x∈l,∀ w',aD [] w w'->aj T_ f (first++[.int .i64 x]++cap) w' (.bool (p x))) :
  aj T_ 247 [lv,.func (.func f) first.toArray cap.toArray] w (.int .i64 (ia p l)):=by
 obtain ⟨a,cp,b,o,rfl,c8,bV,ha,hc⟩:=h;rw [c5] at *;unfold maxLen at bV;refine ah func247 I I ?_;refine Jr<|Ja I<|Jn<|Jq<|Jr<|Jv I<|JI I<|Jv I<|Jn<|J0 ?_;refine aY (fun k:Nat=>k<=l.length/\∀ i,i<k->(l[i]?.map p).getD false=false) (fun k=>[(8,.int .i64 k),(7,.int .i64 l.length),(0,.slice a l.length cp),(1,.func (.func f) first.toArray cap.toArray)]) (fun _=>[]) (fun k=>l.length-k) ?_ ?_
 ·apply aK 0 ⟨Zi _,fun i h=>by omega⟩
  case hs1=>exact cj
  case ht=>(try simp only [Ze,Zf,Za]);exact .nil
 rintro k ⟨hk,hf⟩;by_cases aL:k<l.length
 ·have cM:=ha (jI aL);have c0:w.cell? ⟨b,o+k*1,none⟩=some (.int .i64 l[k]):=(hc k _ (iC aL)).2 0 _ I;have iH:=cn _ (Zj aL);have hps:(l[k]?.map p).getD false=p l[k]:=by simp [aL]
  (refine Jr<|JA I<|Jn<|Jq<|Jd I fun ar=>Jk<|Jq<|J0<|Jr<|Jv I<|Ja I<|Ji<|Jv I<|Jv I<|Jv I<|ab (gj cM ar) I ?_;refine ab (ag (.of I) (At.base c0 I)) I ?_;refine ai bN I (fun w' aq=>(iH w' (Mem.keeps aq))) ?_;refine Jn<|oz I (fun ar=>?_) fun ar=>?_;refine Jr<|Jv I<|Ja I<|Jn<|Je<|Jm<|Jh<|Jh<|Jm<|Jh<|JT ?_;rotate_left;refine Jw<|Jj<|Jt<|Jg<|JB I (by omega)<|Jv I<|Jn ?_;rotate_right)
  ·rw [gP hf aL ar]
  ·apply aJ (k+1) ⟨by omega,fun i hi=>by
    by_cases e:i=k
    ·rw [e,hps];exact ar
    ·exact hf i (by omega)⟩ (by omega)
   case hs1=>exact cj
   case ht=>(try simp only [Ze,Zf,Za]);exact .nil
 ·obtain rfl:k=l.length:=by omega
  refine Jr<|JA I<|Jn<|Jq<|Jc I fun ar=>Jp<|Jl<|Jo<|Jt<|Jr<|Ja I<|Jn<|Je<|JT ?_;rw [fO hf]
theorem wb {lv:Value} {l:List Int} {p:Int->Bool} {f:FuncId} {first cap:List Value} [bU T_ f] {w:World} (h:Rd w lv 1 (ints l)) (cn:∀ x∈l,∀ w',aD [] w w'->aj T_ f (first++[.int .i64 x]++cap) w' (.bool (p x))) :
  aj T_ 161 [lv,.func (.func f) first.toArray cap.toArray] w (.bool (l.any p)):=by
 have iH:∀ w',aD [] w w'->aj T_ 247 [lv,.func (.func f) first.toArray cap.toArray] w' (.int .i64 (ia p l)):=fun w' hk=>
  IY (h.keeps hk) fun x hx w2 eR=>cn x hx w2 (hk.trans eR)
 rw [<- kh];refine ah func161 I I ?_
 (refine Jr<|Ja I<|Ji<|Jv I<|Jv I<|ai aX I (fun w' aq=>(iH w' (Mem.keeps aq))) ?_;refine JG I<|Ja I<|Jn<|Je<|JT ?_)
 rfl
theorem wz {cv:Value} {L:List Int} (x:Int) {b:Nat} {w:World} (h:Rd w cv 1 (ints L)) (f1:w.cell? ⟨b,0,none⟩=some cv) :
  aj T_ 157 [.int .i64 x,.pointer (some ⟨b,0,none⟩)] w (.bool (L.contains x)):=by
 have h1:=Rd.one h;refine ah func157 I I ?_
 (refine Jr<|Ja I<|Ji<|ab (ag (.of I) (At.base f1 I)) I ?_;refine Jv I ?_)
 refine ai aX I (fun w' aq=>lB x (h.keeps aq.keeps)) ?_;refine Ja I<|Jn<|Je<|JT ?_
 rfl
theorem wx {cv:Value} {L:List Int} (x:Int) {b b2:Nat} {w:World} (h:Rd w cv 1 (ints L)) (f1:w.cell? ⟨b,0,none⟩=some cv) (f2:w.cell? ⟨b2,0,none⟩=some (.func (.func 157) #[] #[.pointer (some ⟨b,0,none⟩)])) :
  aj T_ 158 [.int .i64 x,.pointer (some ⟨b2,0,none⟩)] w (.bool (!L.contains x)):=by
 refine ah func158 I I ?_
 (refine Jr<|Ja I<|Ji<|ab (ag (.of I) (At.base f2 I)) I ?_;refine Jv I ?_)
 refine ai bN I (fun w' aq=>wz x (h.keeps aq.keeps) (eA f1 I (by simp) aq.keeps)) ?_;refine JH I<|Ja I<|Jn<|Je<|JT ?_
 rfl
def tC (r:Ro) (v:Int) (L:List Int) (x:Ti):Bool:=L.contains x.fr&&!L.contains x.to&&!gC r.po v x.nm
theorem R6 {r:Ro} {s d t p:Value} (v:Int) {cv:Value} {L:List Int} (x:Ti) {b b2 b3 b5 b6:Nat} {w:World} (hr:RR w r s d t p) (h:Rd w cv 1 (ints L)) (f1:w.cell? ⟨b,0,none⟩=some cv) (f2:w.cell? ⟨b2,0,none⟩=some (.func (.func 157) #[] #[.pointer (some ⟨b,0,none⟩)]))
  (f3:w.cell? ⟨b3,0,none⟩=some (.func (.func 158) #[] #[.pointer (some ⟨b2,0,none⟩)])) (hA:BR w b5 (RC r s d t p)) (f6:w.cell? ⟨b6,0,none⟩=some (.int .i64 v)) :
  aj T_ 160 [.agg x.cells.toArray,.pointer (some ⟨b2,0,none⟩),.pointer (some ⟨b3,0,none⟩),.pointer (some ⟨b5,0,none⟩),.pointer (some ⟨b6,0,none⟩)] w (.bool (tC r v L x)):=by
 have h1:=Rd.one hr.sr;have h2:=Rd.one hr.de;have h3:=Rd.one hr.ti;have h4:=Rd.one hr.po;have kp:∀ (j:Nat) (u:Value),[Value.int .i64 r.lv,.int .i64 r.ma,s,d,t,p][j]? = some u->w.cell? ⟨b5,0+j,none⟩=some u:=hA;unfold Ti.cells;refine ah func160 I I ?_
 (refine Jr<|Jy I I fun _ _=>Ja I<|Ji<|ab (ag (.of I) (At.base f2 I)) I ?_;refine bK I I ae ?_;refine JL I .here I ?_)
 cases kc:L.contains x.fr with
 | false =>
  have hB:tC r v L x=false:=by unfold tC;rw [kc];rfl
  rw [hB];refine ai bN I (fun w' aq=>kc ▸ wz x.fr (h.keeps aq.keeps) (eA f1 I (by simp) aq.keeps)) ?_
  (refine Jv I<|aC I I inferInstance (fun hg br=>(ag (.of I) (At.base f3 I))) I ?_;refine aC I I inferInstance (fun hg br=>(ao (.of I) ae)) I ?_;refine aC I I inferInstance (fun hg br=>(ag (.bL br I) (At.lit .here I))) I ?_;refine cR I I I I ?_;refine ab (bB (.of I) (.of I) (.of I) I) I ?_;refine Jv I<|aC I I inferInstance (fun hg br=>(jD (.of I) (eU.base kp I) I)) I ?_;refine aC I I inferInstance (fun hg br=>(ag (.of I) (At.base f6 I))) I ?_;refine aC I I inferInstance (fun hg br=>(ao (.of I) ae)) I ?_;refine aC I I inferInstance (fun hg br=>(ag (.bL br I) (At.lit .here I))) I ?_;refine cR I I I I ?_;refine aC I I inferInstance (fun hg br=>(eY (.bL br I))) I ?_;refine ab (bB (.of I) (.of I) (.of I) I) I ?_;refine Ja I<|Jn<|Je<|JT ?_)
  rfl
 | true =>
  have hB:tC r v L x=(!L.contains x.to&&!gC r.po v x.nm):=by unfold tC;rw [kc];rfl
  rw [hB];refine ai bN I (fun w' aq=>kc ▸ wz x.fr (h.keeps aq.keeps) (eA f1 I (by simp) aq.keeps)) ?_
  (refine Jv I<|JK I I<|ab (ag (.of I) (At.base f3 I)) I ?_;refine JK I I<|bK I I ae ?_;refine JK I I<|JL I .here I<|JK I I ?_)
  cases jL:L.contains x.to with
  | true =>
   with_reducible apply ai
   case hr=>exact bN
   case hd=>rfl
   case hc=>
    intro w' aq;have q:=wx x.to (h.keeps aq.keeps) (eA f1 I (by simp) aq.keeps) (eA f2 I (by simp) aq.keeps);rw [jL] at q;exact q
   (refine ab (bB (.of I) (.of I) (.of I) I) I ?_;refine Jv I<|aC I I inferInstance (fun hg br=>(jD (.of I) (eU.base kp I) I)) I ?_;refine aC I I inferInstance (fun hg br=>(ag (.of I) (At.base f6 I))) I ?_;refine aC I I inferInstance (fun hg br=>(ao (.of I) ae)) I ?_;refine aC I I inferInstance (fun hg br=>(ag (.bL br I) (At.lit .here I))) I ?_;refine cR I I I I ?_;refine aC I I inferInstance (fun hg br=>(eY (.bL br I))) I ?_;refine ab (bB (.of I) (.of I) (.of I) I) I ?_;refine Ja I<|Jn<|Je<|JT ?_)
   rfl
  | false =>
   with_reducible apply ai
   case hr=>exact bN
   case hd=>rfl
   case hc=>
    intro w' aq;have q:=wx x.to (h.keeps aq.keeps) (eA f1 I (by simp) aq.keeps) (eA f2 I (by simp) aq.keeps);rw [jL] at q;exact q
   (refine ab (cK (.of I) (.of I) (.of I) I) I ?_;refine Jv I<|JK I I<|ab (iI (eU.base kp I)) I ?_;refine JK I I<|ab (ag (.of I) (At.base f6 I)) I ?_;refine JK I I<|bK I I ae ?_;refine JK I I<|JL I .here I<|JK I I ?_)
   cases hb:gC r.po v x.nm with
   | true =>
    with_reducible apply ai
    case hr=>exact dH
    case hd=>rfl
    case hc=>
     intro w' aq;have q:=pz v x.nm (hr.keeps aq.keeps);rw [hb] at q;exact q
    (refine JK I I<|JH I<|ab (bB (.of I) (.of I) (.of I) I) I ?_;refine Ja I<|Jn<|Je<|JT ?_)
    rfl
   | false =>
    with_reducible apply ai
    case hr=>exact dH
    case hd=>rfl
    case hc=>
     intro w' aq;have q:=pz v x.nm (hr.keeps aq.keeps);rw [hb] at q;exact q
    (refine JK I I<|JH I<|ab (cK (.of I) (.of I) (.of I) I) I ?_;refine Ja I<|Jn<|Je<|JT ?_)
    rfl
theorem bM {α:Type} {l:List Oper} {i:Nat} {v:α}:pC l i (fun _=>v):=fun _ _ _=>rfl
def BL (L:List Int) (k:Nat):Int:=if k=0 then -1 else L.getD (k-1) 0
theorem Dt {L:List Int} {k:Nat} (h:k<L.length):BL L (k+1)=L[k]:=by
 unfold BL;rw [if_neg (by omega),Nat.add_sub_cancel,List.getD_eq_getElem?_getD,Zc h];rfl
def SY (r:Ro) (L:List Int) (k:Nat):Int:=(L[k]?.map fun x=>aV [fq r x,bG (decide (x<=BL L k)) 11]).getD 0
theorem R7 {r:Ro} {L:List Int} {k:Nat} (h:k<L.length):SY r L k=aV [fq r L[k],bG (decide (L[k]<=BL L k)) 11]:=by
 unfold SY;rw [Zc h];rfl
def Wd (r:Ro) (v:Int) (so de:ByteArray) (L:List Int):Int:=aV [jw r v so de,bG (decide ((4:Int)<(L.length:Nat))) 5]
def SV (r:Ro) (L:List Int):Int:=jq (SY r L) L.length
def SU (r:Ro) (v:Int) (so de:ByteArray) (L:List Int):Bool:=r.ti.any (tC r v L)||(gV r v so r.ti.length).any (fun x=>!L.contains x)||L.contains (jV r de)
def Wc (r:Ro) (v:Int) (so de:ByteArray) (L:List Int):Int:=if Wd r v so de L≠0 then Wd r v so de L else if SV r L≠0 then SV r L else bG (SU r v so de L) 19
set_option maxHeartbeats 2000000 in
theorem Ed {r:Ro} {s d t p cv:Value} (v:Int) (so de:ByteArray) {L:List Int} {w:World} (h:RR w r s d t p) (cL:np r) (hw:Rd w cv 1 (ints L)) :
  aj T_ 37 [RA r s d t p,.int .i64 v,.string so,.string de,cv] w (.int .i64 (Wc r v so de L)):=by
 obtain ⟨h1,h2,h3,h4⟩:=h.one;have AM:=hw;obtain ⟨aw,cw,bw,ow,rfl,Kc,vR,Ph,B2⟩:=hw;rw [c5] at *;unfold maxLen at vR;have X4:∀ w',aD [] w w'->aj T_ 151 [.agg #[.int .i64 r.lv,.int .i64 r.ma,s,d,t,p],.int .i64 v,.string so,.string de] w' (.int .i64 (jw r v so de)):=fun w' hk=>nK v so de (h.keeps hk) cL
 unfold RA;refine ah func37 I I ?_;refine Jr<|Jy I I fun _ _=>Jy I I fun _ _=>Jy I I fun _ _=>Ja I<|Jn<|Jq<|Jq ?_
 with_reducible refine cC 10 (by kernel_rfl) ?_
 (refine ak (cr bT) I ?_;refine ak (gD (.there .here)) I ?_;refine ak jP I ?_;refine ak jP I ?_;refine aQ nO I (fun w' aq=>(X4 w' (Mem.keeps aq))) ?_;refine ak (gD .here) I ?_;refine ak (cg (.of I)) I ?_;refine ak (mn (.of I) (.of I)) I ?_;refine aQ aX I (fun w' aq=>(dP _ 5 w')) ?_;refine dX (aB (.cons (.of I) (.cons (.of I) .nil)) I I I I) I I ?_)
 with_reducible refine cY I fun bq mA=>?_
 (refine ai bN I (fun w' aq=>(dF (Mem.df aq .here I I) (bQ.cons (bQ.cons bQ.nil)))) ?_;refine Ja I<|Ji<|Jv I<|JD I<|Jn<|gl I (fun ar=>?_) fun ar=>?_;refine Jr<|Jv I<|Ja I<|Jn<|Ju<|JT ?_;rotate_left;refine Jk<|Jr<|Ja I<|Jn<|Jq<|Jr<|JL I (.there .here) I<|JI I<|Jv I<|Jn<|J0 ?_;rotate_right)
 ·have e1:Wc r v so de L=Wd r v so de L:=if_pos ar;rw [e1];rfl
 have G1:Wd r v so de L=0:=Decidable.not_not.1 ar;have hX:Wc r v so de L=if SV r L≠0 then SV r L else bG (SU r v so de L) 19:=if_neg ar
 clear ar;obtain ⟨dU,hv,rR,fH⟩:=rm (bI.1 G1 _ List.mem_cons_self);have h6:L.length<=4:=by
  have:=(bD (by decide)).1 (bI.1 G1 (bG (decide ((4:Int)<(L.length:Nat))) 5) (by simp));simp only [decide_eq_false_iff_not] at this;omega
 have Y4:=dU.len.2.2;rename_i b5 G0 b6 hb6 b9 ZE
 refine aY (fun k:Nat=>k<=L.length/\∀ i,i<k->SY r L i=0) (fun k=>[(35,.int .i64 (k:Nat)),(34,.int .i64 (L.length:Nat)),(33,.slice aw L.length cw),(12,.int .i64 (BL L k)),(9,.pointer (some ⟨b9,0,none⟩)),(6,.pointer (some ⟨b6,0,none⟩)),(5,.pointer (some ⟨b5,0,none⟩)),(2,.string so),(3,.string de)])
  (fun k=>[bC b9 (.cells #[.slice aw L.length cw] 49 (0,0)),bC b6 (.cells #[.int .i64 v] 3 (0,0)),JP b5 r s d t p]) (fun k=>L.length-k) ?_ ?_
 ·apply aK 0 ⟨Zi _,fun i hi=>by omega⟩
  case hs1=>exact cj
  case ht=>(try simp only [Ze,Zf,Za]);exact .cons (.there .here) (.cons (.there .here) (.cons (.there .here) .nil))
 rintro k ⟨hk,hf⟩;by_cases aL:k<L.length
 ·have Ak:=Ph (jI aL);have c0:w.cell? ⟨bw,ow+k*1,none⟩=some (.int .i64 L[k]):=(B2 k _ (iC aL)).2 0 _ I;have ja:=R7 (r:=r) aL;have hhs:∀ w',aD [] w w'->aj T_ 136 [.agg #[.int .i64 r.lv,.int .i64 r.ma,s,d,t,p],.int .i64 L[k]] w' (.int .i64 (fq r L[k])):=fun w' hk=>E4 (s:=s) (d:=d) (t:=t) (p:=p) L[k] h
  (refine Jr<|JA I<|Jn<|Jq<|Jd I fun ar=>Jk<|Jq<|J0<|Jr<|ab (az (.of I) (.of I) Ak (by omega) ar ba) I ?_;refine ab (ag (.of I) (At.base c0 I)) I ?_;refine Ja I<|Jn<|Jq<|Jr<|ab (cr bT) I ?_;refine Jv I<|ai aX I (fun w' aq=>(hhs w' (Mem.keeps aq))) ?_;refine Jv I<|Jv I<|JF I<|ai aX I (fun w' aq=>(dP _ 11 w')) ?_;refine bb (aB (.cons (.of I) (.cons (.of I) .nil)) I I I I) I fun _ _=>?_;refine ai bN I (fun w' aq=>(dF (Mem.df aq .here I I) (bQ.cons (bQ.cons bQ.nil)))) ?_;refine Ja I<|Ji<|Jv I<|JD I<|Jn<|gl I (fun ar=>?_) fun ar=>?_;refine Jr<|Jv I<|Ja I<|Jn<|Ju<|Jm<|Jh<|Jh<|Jm<|Jh<|JT ?_;rotate_left;refine Jk<|Jg<|Jv I<|Ja I<|Jx<|Jj<|Jt<|Jg<|JB I (by omega)<|Jv I<|Jn ?_;rotate_right)
  ·rw [<- ja] at ar ⊢;have hB:SV r L=SY r L k:=eS hf aL ar;rw [<- hB] at ar ⊢;rw [hX,if_pos ar]
  have hz:SY r L k=0:=by rw [ja];exact Decidable.not_not.1 ar
  have vS:=Dt aL;apply aJ (k+1) ⟨by omega,fun i hi=>by
   by_cases e:i=k
   ·rw [e];exact hz
   ·exact hf i (by omega)⟩ (by omega)
  case hs1=>rw [vS];exact .cons I (.cons I (.cons I (.cons I (.cons I (.cons I (.cons I (.cons I (.cons I .nil))))))))
  case ht=>exact oA
 ·obtain rfl:k=L.length:=by omega
  have RM:SV r L=0:=dN.2 hf;rw [hX,if_neg (by rw [RM];decide)]
  (refine Jr<|JA I<|Jn<|Jq<|Jc I fun ar=>Jp<|Jl<|Jo<|Jt<|Jr<|ab (bo .nil (.cons (.of I) .nil)) I ?_;refine Jz I I fun _ _=>au (.of I) (.of I) .here I I (eF I) (bF I) an ?_;refine Ji<|ab (bo .nil (.cons (.of I) .nil)) I ?_;refine Jz I I fun _ _=>au (.of I) (.of I) .here I I (eF I) (bF I) an ?_;refine Ji<|bK I I ae ?_;refine JL I fg I<|ab (bo .nil (.cons (.of I) (.cons (.of I) (.cons (.of I) (.cons (.of I) .nil))))) I ?_)
  rename_i G3 ad6 Z6 ad5
  with_reducible apply ai
  case hr=>exact aX
  case hd=>rfl
  case hc=>
   intro w' aq;have hR:=h.keeps aq.keeps;have f9:w'.cell? ⟨b9,0,none⟩=some (.slice aw L.length cw):=At.lit bT I w' aq;have f16:w'.cell? ⟨G3,0,none⟩=some (.func (.func 157) #[] #[.pointer (some ⟨b9,0,none⟩)]):=At.lit (by exact Take.there .here) I w' aq;have f17:w'.cell? ⟨Z6,0,none⟩=some (.func (.func 158) #[] #[.pointer (some ⟨G3,0,none⟩)]):=At.lit (by exact .here) I w' aq;have f6:w'.cell? ⟨b6,0,none⟩=some (.int .i64 v):=At.lit db I w' aq;have hA:BR w' b5 [.int .i64 r.lv,.int .i64 r.ma,s,d,t,p]:=BR.of aq fg;exact Al (f:=160) (p:=tC r v L) (first:=[]) (cap:=[.pointer (some ⟨G3,0,none⟩),.pointer (some ⟨Z6,0,none⟩),.pointer (some ⟨b5,0,none⟩),.pointer (some ⟨b6,0,none⟩)]) hR.ti (fun x hx w2 eR=>R6 v x (hR.keeps eR) (AM.keeps (aq.keeps.trans eR)) (cy f9 I eR) (cy f16 I eR) (cy f17 I eR) (hA.keeps eR) (cy f6 I eR))
  refine Ja I<|Jn<|Jq ?_;cases wZ:r.ti.any (tC r v L) with
  | true =>
   have hC:SU r v so de L=true:=by unfold SU;rw [wZ];rfl
   rw [hC]
   with_reducible refine fc 23 (by kernel_rfl) ?_
   (refine aH (fun β=>(aZ (.of I))) dM I ?_;refine aH (fun β=>(aZ (.of I))) dM I ?_;refine dS I (fun _=>rfl) (Or.inr I) I ?_;refine dS I (fun _=>rfl) (Or.inr I) I ?_;refine dS I (fun _=>rfl) (Or.inr I) I ?_;refine dS I (fun _=>rfl) (Or.inr I) I ?_;refine dS I (fun _=>rfl) (Or.inr I) I ?_;refine dS I (fun _=>rfl) (Or.inr I) I ?_;refine aH (fun β=>(cK (.of I) (.of I) (.of I) I)) dM I ?_;refine aH (fun β=>(aZ (.of I))) dM I ?_;refine dS I (fun _=>rfl) (Or.inr I) I ?_;refine dS I (fun _=>rfl) (Or.inr I) I ?_;refine dS I (fun _=>rfl) (Or.inr I) I ?_;refine dS I (fun _=>rfl) (Or.inr I) I ?_;refine dS I (fun _=>rfl) (Or.inr I) I ?_;refine dS I (fun _=>rfl) (Or.inr I) I ?_;refine dS I (fun _=>rfl) (Or.inr I) I ?_;refine dS I (fun _=>rfl) (Or.inr I) I ?_;refine dS I (fun _=>rfl) (Or.inr I) I ?_;refine dS I (fun _=>rfl) (Or.inr I) I ?_;refine aH (fun β=>(cK (.of I) (.of I) (.of I) I)) dM I ?_)
   dsimp only [Nat.zero_add,Nat.reduceAdd]
   with_reducible apply cV (B:=[]) (F:=fun _=>.int .i64 (bG true 19)) (args:=fun _=>[.bool true,.int .i64 19])
   case hB=>rfl
   case hr=>exact fun β=>bj (.of I) (.cons (.of I) (.cons (.of I) .nil)) inferInstance I
   case hi=>exact bM
   case hd=>rfl
   case hc=>exact fun β w' hb=>dP _ _ _
   refine aH (fun β=>(cF (.of I))) dM I ?_;refine ic fun β=>?_;dsimp only [fK,Za,Zb,List.append_eq,Nat.reduceAdd]
   with_reducible refine dp (by kernel_rfl) ?_
   refine Jt<|Je<|JT ?_
   rfl
  | false =>
   have hC:SU r v so de L=((gV r v so r.ti.length).any (fun x=>!L.contains x)||L.contains (jV r de)):=by unfold SU;rw [wZ];rfl
   rw [hC];obtain ⟨j0,tM⟩:∃ i:Nat,bd (cz r) de=(i:Nat):=⟨(bd (cz r) de).toNat,by have:=di fH;omega⟩;have xz:j0<r.de.length:=by
    obtain ⟨hl,_⟩:=eD (l:=cz r) (s:=de) (by omega);rw [tM,Int.toNat_natCast] at hl;unfold cz at hl;rwa [Zd] at hl
   have Rv:jV r de=(r.de[j0]).mx:=by unfold jV;rw [tM,Int.toNat_natCast,List.getD_eq_getElem?_getD,Zc xz];rfl
   have Nq:∀ w',aD [] w w'->bh T_ 152 [.agg #[.int .i64 r.lv,.int .i64 r.ma,s,d,t,p],.int .i64 v,.string so] w' [] (fun _:Value=>True) id (fun x=>[row 3 1 x (gV r v so r.ti.length).length ((gV r v so r.ti.length).map (Value.int .i64))]):=fun w' hk=>EA (s:=s) (d:=d) (t:=t) (p:=p) v so (h.keeps hk) (by omega) rR
   have qk:∀ w',aD [] w w'->aj T_ 155 [.agg #[.int .i64 r.lv,.int .i64 r.ma,s,d,t,p],.string de] w' (.int .i64 (j0:Nat)):=fun w' hk=>tM ▸ fw de (h.keeps hk)
   generalize gV r v so r.ti.length=R0 at Nq ⊢;cases Xb:R0.any (fun x=>!L.contains x) with
   | true =>
    rw [Bool.true_or]
    with_reducible refine fc 23 (by kernel_rfl) ?_
    (refine aH (fun β=>(aZ (.of I))) dM I ?_;refine aH (fun β=>(aZ (.of I))) dM I ?_;refine dh I (fun _=>rfl) ?_;refine aH (fun β=>(cm (.of I) fg an (by rfl))) dM I ?_;refine dh I (fun _=>rfl) ?_;refine aH (fun β=>(ag (.of I) (At.lit db I))) dM I ?_;refine dh I (fun _=>rfl) ?_;refine aH (fun β=>(aZ (.of I))) dM I ?_)
    dsimp only [Nat.zero_add,Nat.reduceAdd];refine dh I (fun _=>rfl) ?_
    with_reducible apply im (ι:=Value) (Φ:=fun _=>True) (val:=id) (own:=fun x=>[row 3 1 x R0.length (R0.map (Value.int .i64))]) (g:=id) (B:=[]) (args:=fun _=>[.agg #[.int .i64 r.lv,.int .i64 r.ma,s,d,t,p],.int .i64 v,.string so])
    case hg=>exact fun x=>⟨x,I⟩
    case hB=>rfl
    case hr=>exact fun β=>bj (.of I) (.cons (.of I) (.cons (.of I) (.cons (.of I) .nil))) inferInstance I
    case hd=>rfl
    case hc=>exact fun β w' hb=>Nq w' hb.mem.keeps
    dsimp only [id_eq,Nat.reduceAdd]
    (refine dh I (fun _=>rfl) ?_;refine aH (fun β=>(ag (.of I) (At.lit .here I))) dM I ?_)
    dsimp only [Nat.zero_add,Nat.reduceAdd];refine dh I (fun _=>rfl) ?_
    with_reducible apply cV (B:=[5]) (F:=fun _=>.bool true) (args:=fun β=>[β 5,.func (.func 158) #[] #[.pointer (some ⟨G3,0,none⟩)]])
    case hB=>first | rfl | kernel_rfl
    case hr=>exact fun β=>bj (.of I) (.cons (.of I) (.cons (.of I) .nil)) inferInstance I
    case hi=>exact bM
    case hd=>rfl
    case hc=>
     intro β w' hb;have m5:=hb.at 5 List.mem_cons_self (s:=⟨fun β=>β 5,fun β=>[row 3 1 (β 5) R0.length (R0.map (Value.int .i64))]⟩) (by kernel_rfl)
     dsimp only [Zb,Za] at m5;have s1:Rd w' (β 5) 1 (ints R0):=kS m5 (by exact .here) I;have f9:w'.cell? ⟨b9,0,none⟩=some (.slice aw L.length cw):=At.lit db I w' m5;have f16:w'.cell? ⟨G3,0,none⟩=some (.func (.func 157) #[] #[.pointer (some ⟨b9,0,none⟩)]):=At.lit bT I w' m5;have q:=wb (f:=158) (p:=fun x=>!L.contains x) (first:=[]) (cap:=[.pointer (some ⟨G3,0,none⟩)]) s1 (fun x hx w2 eR=>wx x (AM.keeps (hb.mem.keeps.trans eR)) (cy f9 I eR) (cy f16 I eR))
     rw [Xb] at q;exact q
    (refine aH (fun β=>(cK (.of I) (.of I) (.of I) I)) dM I ?_;refine aH (fun β=>(aZ (.of I))) dM I ?_;refine dS I (fun _=>rfl) (Or.inr I) I ?_;refine dS I (fun _=>rfl) (Or.inr I) I ?_;refine dS I (fun _=>rfl) (Or.inr I) I ?_;refine dS I (fun _=>rfl) (Or.inr I) I ?_;refine dS I (fun _=>rfl) (Or.inr I) I ?_;refine dS I (fun _=>rfl) (Or.inr I) I ?_;refine dS I (fun _=>rfl) (Or.inr I) I ?_;refine dS I (fun _=>rfl) (Or.inr I) I ?_;refine dS I (fun _=>rfl) (Or.inr I) I ?_;refine dS I (fun _=>rfl) (Or.inr I) I ?_;refine aH (fun β=>(cK (.of I) (.of I) (.of I) I)) dM I ?_)
    dsimp only [Nat.zero_add,Nat.reduceAdd]
    with_reducible apply cV (B:=[]) (F:=fun _=>.int .i64 (bG true 19)) (args:=fun _=>[.bool true,.int .i64 19])
    case hB=>rfl
    case hr=>exact fun β=>bj (.of I) (.cons (.of I) (.cons (.of I) .nil)) inferInstance I
    case hi=>exact bM
    case hd=>rfl
    case hc=>exact fun β w' hb=>dP _ _ _
    refine aH (fun β=>(cF (.of I))) dM I ?_;refine ic fun β=>?_;dsimp only [fK,Za,Zb,List.append_eq,Nat.reduceAdd]
    with_reducible refine dp (by kernel_rfl) ?_
    refine Jt<|Je<|JT ?_
    rfl
   | false =>
    rw [Bool.false_or];have lM:=h.de;obtain ⟨a3,pq,b3,o3,rfl,lo,fD,qA,nW⟩:=lM;rw [bZ] at *;unfold maxLen at fD;have ui:=qA (gS xz);have ll:=(nW j0 _ (fu xz)).2;unfold De.cells at ll;have xC:=ll 1 _ I;rw [<- Rv] at xC;cases VT:L.contains (jV r de) with
    | true =>
     with_reducible refine fc 23 (by kernel_rfl) ?_
     (refine aH (fun β=>(aZ (.of I))) dM I ?_;refine aH (fun β=>(aZ (.of I))) dM I ?_;refine dh I (fun _=>rfl) ?_;refine aH (fun β=>(cm (.of I) fg an (by rfl))) dM I ?_;refine dh I (fun _=>rfl) ?_;refine aH (fun β=>(ag (.of I) (At.lit db I))) dM I ?_;refine dh I (fun _=>rfl) ?_;refine aH (fun β=>(aZ (.of I))) dM I ?_)
     dsimp only [Nat.zero_add,Nat.reduceAdd];refine dh I (fun _=>rfl) ?_
     with_reducible apply im (ι:=Value) (Φ:=fun _=>True) (val:=id) (own:=fun x=>[row 3 1 x R0.length (R0.map (Value.int .i64))]) (g:=id) (B:=[]) (args:=fun _=>[.agg #[.int .i64 r.lv,.int .i64 r.ma,s,.slice a3 r.de.length pq,t,p],.int .i64 v,.string so])
     case hg=>exact fun x=>⟨x,I⟩
     case hB=>rfl
     case hr=>exact fun β=>bj (.of I) (.cons (.of I) (.cons (.of I) (.cons (.of I) .nil))) inferInstance I
     case hd=>rfl
     case hc=>exact fun β w' hb=>Nq w' hb.mem.keeps
     dsimp only [id_eq,Nat.reduceAdd]
     (refine dh I (fun _=>rfl) ?_;refine aH (fun β=>(ag (.of I) (At.lit .here I))) dM I ?_)
     dsimp only [Nat.zero_add,Nat.reduceAdd];refine dh I (fun _=>rfl) ?_
     with_reducible apply cV (B:=[5]) (F:=fun _=>.bool false) (args:=fun β=>[β 5,.func (.func 158) #[] #[.pointer (some ⟨G3,0,none⟩)]])
     case hB=>first | rfl | kernel_rfl
     case hr=>exact fun β=>bj (.of I) (.cons (.of I) (.cons (.of I) .nil)) inferInstance I
     case hi=>exact bM
     case hd=>rfl
     case hc=>
      intro β w' hb;have m5:=hb.at 5 List.mem_cons_self (s:=⟨fun β=>β 5,fun β=>[row 3 1 (β 5) R0.length (R0.map (Value.int .i64))]⟩) (by kernel_rfl)
      dsimp only [Zb,Za] at m5;have s1:Rd w' (β 5) 1 (ints R0):=kS m5 (by exact .here) I;have f9:w'.cell? ⟨b9,0,none⟩=some (.slice aw L.length cw):=At.lit db I w' m5;have f16:w'.cell? ⟨G3,0,none⟩=some (.func (.func 157) #[] #[.pointer (some ⟨b9,0,none⟩)]):=At.lit bT I w' m5;have q:=wb (f:=158) (p:=fun x=>!L.contains x) (first:=[]) (cap:=[.pointer (some ⟨G3,0,none⟩)]) s1 (fun x hx w2 eR=>wx x (AM.keeps (hb.mem.keeps.trans eR)) (cy f9 I eR) (cy f16 I eR))
      rw [Xb] at q;exact q
     (refine aH (fun β=>(bB (.of I) (.of I) (.of I) I)) dM I ?_;refine aH (fun β=>(aZ (.of I))) dM I ?_;refine dh I (fun _=>rfl) ?_;refine aH (fun β=>(ag (.of I) (At.lit (.there .here) I))) dM I ?_;refine dh I (fun _=>rfl) ?_;refine aH (fun β=>(ao (.of I) ae)) dM I ?_;refine dh I (fun _=>rfl) ?_;refine aH (fun β=>(ag (.of I) (At.lit fg I))) dM I ?_;refine dh I (fun _=>rfl) ?_;refine aH (fun β=>(cm (.of I) fg an (by rfl))) dM I ?_;refine dh I (fun _=>rfl) ?_;refine aH (fun β=>(aZ (.of I))) dM I ?_)
     dsimp only [Nat.zero_add,Nat.reduceAdd];refine dh I (fun _=>rfl) ?_
     with_reducible apply cV (B:=[]) (F:=fun _=>.int .i64 (j0:Nat)) (args:=fun _=>[.agg #[.int .i64 r.lv,.int .i64 r.ma,s,.slice a3 r.de.length pq,t,p],.string de])
     case hB=>rfl
     case hr=>exact fun β=>bj (.of I) (.cons (.of I) (.cons (.of I) .nil)) inferInstance I
     case hi=>exact bM
     case hd=>rfl
     case hc=>exact fun β w' hb=>qk w' hb.mem.keeps
     (refine dh I (fun _=>rfl) ?_;refine aH (fun β=>(az (.of I) (.of I) ui (by omega) (by omega) ba)) dM I ?_;refine dh I (fun _=>rfl) ?_;refine aH (fun β=>(ao (.of I) ae)) dM I ?_;refine dh I (fun _=>rfl) ?_;refine aH (fun β=>(ag (.of I) (At.base xC I))) dM I ?_)
     dsimp only [Nat.zero_add,Nat.reduceAdd];refine dh I (fun _=>rfl) ?_
     with_reducible apply cV (B:=[]) (F:=fun _=>.bool true) (args:=fun _=>[.int .i64 (jV r de),.pointer (some ⟨b9,0,none⟩)])
     case hB=>rfl
     case hr=>exact fun β=>bj (Is.of I) (GR.cons (Is.of I) GR.nil) inferInstance fL
     case hi=>exact bM
     case hd=>rfl
     case hc=>
      intro β w' hb;have m5:=hb.mem;have f9:w'.cell? ⟨b9,0,none⟩=some (.slice aw L.length cw):=At.lit bT I w' m5;have q:=wz (jV r de) (AM.keeps hb.mem.keeps) f9;rw [VT] at q;exact q
     refine aH (fun β=>(cK (.of I) (.of I) (.of I) I)) dM I ?_;dsimp only [Nat.zero_add,Nat.reduceAdd]
     with_reducible apply cV (B:=[]) (F:=fun _=>.int .i64 (bG true 19)) (args:=fun _=>[.bool true,.int .i64 19])
     case hB=>rfl
     case hr=>exact fun β=>bj (.of I) (.cons (.of I) (.cons (.of I) .nil)) inferInstance I
     case hi=>exact bM
     case hd=>rfl
     case hc=>exact fun β w' hb=>dP _ _ _
     refine aH (fun β=>(cF (.of I))) dM I ?_;refine ic fun β=>?_;dsimp only [fK,Za,Zb,List.append_eq,Nat.reduceAdd]
     with_reducible refine dp (by kernel_rfl) ?_
     refine Jt<|Je<|JT ?_
     rfl
    | false =>
     with_reducible refine fc 23 (by kernel_rfl) ?_
     (refine aH (fun β=>(aZ (.of I))) dM I ?_;refine aH (fun β=>(aZ (.of I))) dM I ?_;refine dh I (fun _=>rfl) ?_;refine aH (fun β=>(cm (.of I) fg an (by rfl))) dM I ?_;refine dh I (fun _=>rfl) ?_;refine aH (fun β=>(ag (.of I) (At.lit db I))) dM I ?_;refine dh I (fun _=>rfl) ?_;refine aH (fun β=>(aZ (.of I))) dM I ?_)
     dsimp only [Nat.zero_add,Nat.reduceAdd];refine dh I (fun _=>rfl) ?_
     with_reducible apply im (ι:=Value) (Φ:=fun _=>True) (val:=id) (own:=fun x=>[row 3 1 x R0.length (R0.map (Value.int .i64))]) (g:=id) (B:=[]) (args:=fun _=>[.agg #[.int .i64 r.lv,.int .i64 r.ma,s,.slice a3 r.de.length pq,t,p],.int .i64 v,.string so])
     case hg=>exact fun x=>⟨x,I⟩
     case hB=>rfl
     case hr=>exact fun β=>bj (.of I) (.cons (.of I) (.cons (.of I) (.cons (.of I) .nil))) inferInstance I
     case hd=>rfl
     case hc=>exact fun β w' hb=>Nq w' hb.mem.keeps
     dsimp only [id_eq,Nat.reduceAdd]
     (refine dh I (fun _=>rfl) ?_;refine aH (fun β=>(ag (.of I) (At.lit .here I))) dM I ?_)
     dsimp only [Nat.zero_add,Nat.reduceAdd];refine dh I (fun _=>rfl) ?_
     with_reducible apply cV (B:=[5]) (F:=fun _=>.bool false) (args:=fun β=>[β 5,.func (.func 158) #[] #[.pointer (some ⟨G3,0,none⟩)]])
     case hB=>first | rfl | kernel_rfl
     case hr=>exact fun β=>bj (.of I) (.cons (.of I) (.cons (.of I) .nil)) inferInstance I
     case hi=>exact bM
     case hd=>rfl
     case hc=>
      intro β w' hb;have m5:=hb.at 5 List.mem_cons_self (s:=⟨fun β=>β 5,fun β=>[row 3 1 (β 5) R0.length (R0.map (Value.int .i64))]⟩) (by kernel_rfl)
      dsimp only [Zb,Za] at m5;have s1:Rd w' (β 5) 1 (ints R0):=kS m5 (by exact .here) I;have f9:w'.cell? ⟨b9,0,none⟩=some (.slice aw L.length cw):=At.lit db I w' m5;have f16:w'.cell? ⟨G3,0,none⟩=some (.func (.func 157) #[] #[.pointer (some ⟨b9,0,none⟩)]):=At.lit bT I w' m5;have q:=wb (f:=158) (p:=fun x=>!L.contains x) (first:=[]) (cap:=[.pointer (some ⟨G3,0,none⟩)]) s1 (fun x hx w2 eR=>wx x (AM.keeps (hb.mem.keeps.trans eR)) (cy f9 I eR) (cy f16 I eR))
      rw [Xb] at q;exact q
     (refine aH (fun β=>(bB (.of I) (.of I) (.of I) I)) dM I ?_;refine aH (fun β=>(aZ (.of I))) dM I ?_;refine dh I (fun _=>rfl) ?_;refine aH (fun β=>(ag (.of I) (At.lit (.there .here) I))) dM I ?_;refine dh I (fun _=>rfl) ?_;refine aH (fun β=>(ao (.of I) ae)) dM I ?_;refine dh I (fun _=>rfl) ?_;refine aH (fun β=>(ag (.of I) (At.lit fg I))) dM I ?_;refine dh I (fun _=>rfl) ?_;refine aH (fun β=>(cm (.of I) fg an (by rfl))) dM I ?_;refine dh I (fun _=>rfl) ?_;refine aH (fun β=>(aZ (.of I))) dM I ?_)
     dsimp only [Nat.zero_add,Nat.reduceAdd];refine dh I (fun _=>rfl) ?_
     with_reducible apply cV (B:=[]) (F:=fun _=>.int .i64 (j0:Nat)) (args:=fun _=>[.agg #[.int .i64 r.lv,.int .i64 r.ma,s,.slice a3 r.de.length pq,t,p],.string de])
     case hB=>rfl
     case hr=>exact fun β=>bj (.of I) (.cons (.of I) (.cons (.of I) .nil)) inferInstance I
     case hi=>exact bM
     case hd=>rfl
     case hc=>exact fun β w' hb=>qk w' hb.mem.keeps
     (refine dh I (fun _=>rfl) ?_;refine aH (fun β=>(az (.of I) (.of I) ui (by omega) (by omega) ba)) dM I ?_;refine dh I (fun _=>rfl) ?_;refine aH (fun β=>(ao (.of I) ae)) dM I ?_;refine dh I (fun _=>rfl) ?_;refine aH (fun β=>(ag (.of I) (At.base xC I))) dM I ?_)
     dsimp only [Nat.zero_add,Nat.reduceAdd];refine dh I (fun _=>rfl) ?_
     with_reducible apply cV (B:=[]) (F:=fun _=>.bool false) (args:=fun _=>[.int .i64 (jV r de),.pointer (some ⟨b9,0,none⟩)])
     case hB=>rfl
     case hr=>exact fun β=>bj (Is.of I) (GR.cons (Is.of I) GR.nil) inferInstance fL
     case hi=>exact bM
     case hd=>rfl
     case hc=>
      intro β w' hb;have m5:=hb.mem;have f9:w'.cell? ⟨b9,0,none⟩=some (.slice aw L.length cw):=At.lit bT I w' m5;have q:=wz (jV r de) (AM.keeps hb.mem.keeps) f9;rw [VT] at q;exact q
     refine aH (fun β=>(bB (.of I) (.of I) (.of I) I)) dM I ?_;dsimp only [Nat.zero_add,Nat.reduceAdd]
     with_reducible apply cV (B:=[]) (F:=fun _=>.int .i64 (bG false 19)) (args:=fun _=>[.bool false,.int .i64 19])
     case hB=>rfl
     case hr=>exact fun β=>bj (.of I) (.cons (.of I) (.cons (.of I) .nil)) inferInstance I
     case hi=>exact bM
     case hd=>rfl
     case hc=>exact fun β w' hb=>dP _ _ _
     refine aH (fun β=>(cF (.of I))) dM I ?_;refine ic fun β=>?_;dsimp only [fK,Za,Zb,List.append_eq,Nat.reduceAdd]
     with_reducible refine dp (by kernel_rfl) ?_
     refine Jt<|Je<|JT ?_
     rfl
end Go.Proofs.A1
