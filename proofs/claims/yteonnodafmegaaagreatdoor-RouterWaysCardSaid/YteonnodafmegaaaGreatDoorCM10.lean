/- Parts of the proof: KR KS KT KU KW KX KYq P5p P5q P5r P5t P5s P5u P5v P5x P5y P5z P6a KY GkMapR KZ GkEnds3 LA P6b. -/
import Derived.Test.YteonnodafmegaaaGreatDoorCM09
import Derived.Test.YteonnodafmegaaaGreatDoorCM04
import Derived.Test.YteonnodafmegaaaGreatDoorCM03
import Derived.Test.YteonnodafmegaaaGreatDoorCM05
import Derived.Test.YteonnodafmegaaaGreatDoorCM07
import Derived.Test.YteonnodafmegaaaGreatDoorCM01
import Derived.Laws.IdiomRangeMap
set_option linter.unusedSectionVars false
set_option linter.unusedVariables false
set_option linter.unusedSimpArgs false
namespace Go.Proofs.A1
open Go Go.SL
open Tryz
open Tryz renaming prog->T_
structure Tk where
 de:ByteArray
 so:List ByteArray
structure hP where
 tk:Tk
 v:Value
def hP.cells (x:hP):List Value:=[.string x.tk.de,x.v]
def jQ (l:List hP):List (List Value):=l.map hP.cells
theorem eX (l:List hP):(jQ l).length=l.length:=by simp [jQ]
theorem kM {l:List hP} {k:Nat} (h:k<l.length):(jQ l)[k]? = some (l[k]).cells:=by simp [jQ,h]
theorem nr {l:List hP} {k:Nat} (h:k<l.length):jQ l≠[]:=by intro e;have:=congrArg List.length e;rw [eX] at this;simp at this;subst this;simp at h
def xe (w:World) (l:List hP):Prop:=∀ x∈l,Rd w x.v 1 (fG x.tk.so)
theorem xe.keeps {w w':World} {l:List hP} (h:xe w l) (hk:aD [] w w'):xe w' l:=fun x hx=>(h x hx).keeps hk
theorem EY {lv:Value} {l:List hP} {p:hP->Bool} {f:FuncId} {first cap:List Value} [bU T_ f] {w:World} (h:Rd w lv 2 (jQ l)) (cn:∀ x∈l,∀ w',aD [] w w'->aj T_ f (first++[.agg x.cells.toArray]++cap) w' (.bool (p x))) :
  aj T_ 252 [lv,.func (.func f) first.toArray cap.toArray] w (.int .i64 (ia p l)):=by
 obtain ⟨a,cp,b,o,rfl,c8,bV,ha,hc⟩:=h;rw [eX] at *;unfold maxLen at bV;refine ah func252 I I ?_;refine Jr<|Ja I<|Jn<|Jq<|Jr<|Jv I<|JI I<|Jv I<|Jn<|J0 ?_;refine aY (fun k:Nat=>k<=l.length/\∀ i,i<k->(l[i]?.map p).getD false=false) (fun k=>[(8,.int .i64 k),(7,.int .i64 l.length),(0,.slice a l.length cp),(1,.func (.func f) first.toArray cap.toArray)]) (fun _=>[]) (fun k=>l.length-k) ?_ ?_
 ·apply aK 0 ⟨Zi _,fun i h=>by omega⟩
  case hs1=>exact cj
  case ht=>(try simp only [Ze,Zf,Za]);exact .nil
 rintro k ⟨hk,hf⟩;by_cases aL:k<l.length
 ·have cM:=ha (nr aL);have aF:=(hc k _ (kM aL)).2;have iH:=cn _ (Zj aL);have hps:(l[k]?.map p).getD false=p l[k]:=by simp [aL]
  unfold hP.cells at aF iH
  (refine Jr<|JA I<|Jn<|Jq<|Jd I fun ar=>Jk<|Jq<|J0<|Jr<|Jv I<|Ja I<|Ji<|Jv I<|Jv I<|Jv I<|ab (gj cM ar) I ?_;refine ab (iI (eU.base aF I)) I ?_;refine ai bN I (fun w' aq=>(iH w' (Mem.keeps aq))) ?_;refine Jn<|oz I (fun ar=>?_) fun ar=>?_;refine Jr<|Jv I<|Ja I<|Jn<|Je<|Jm<|Jh<|Jh<|Jm<|Jh<|JT ?_;rotate_left;refine Jw<|Jj<|Jt<|Jg<|JB I (by omega)<|Jv I<|Jn ?_;rotate_right)
  ·rw [gP hf aL ar]
  ·apply aJ (k+1) ⟨by omega,fun i hi=>by
    by_cases e:i=k
    ·rw [e,hps];exact ar
    ·exact hf i (by omega)⟩ (by omega)
   case hs1=>exact cj
   case ht=>(try simp only [Ze,Zf,Za]);exact .nil
 ·obtain rfl:k=l.length:=by omega
  refine Jr<|JA I<|Jn<|Jq<|Jc I fun ar=>Jp<|Jl<|Jo<|Jt<|Jr<|Ja I<|Jn<|Je<|JT ?_;rw [fO hf]
theorem NG {lv:Value} {l:List hP} {p:hP->Bool} {f:FuncId} {first cap:List Value} [bU T_ f] {w:World} (h:Rd w lv 2 (jQ l)) (cn:∀ x∈l,∀ w',aD [] w w'->aj T_ f (first++[.agg x.cells.toArray]++cap) w' (.bool (p x))) :
  aj T_ 248 [lv,.func (.func f) first.toArray cap.toArray] w (.bool (l.any p)):=by
 have iH:∀ w',aD [] w w'->aj T_ 252 [lv,.func (.func f) first.toArray cap.toArray] w' (.int .i64 (ia p l)):=fun w' hk=>
  EY (h.keeps hk) fun x hx w2 eR=>cn x hx w2 (hk.trans eR)
 rw [<- kh];refine ah func248 I I ?_
 (refine Jr<|Ja I<|Ji<|Jv I<|Jv I<|ai aX I (fun w' aq=>(iH w' (Mem.keeps aq))) ?_;refine JG I<|Ja I<|Jn<|Je<|JT ?_)
 rfl
theorem S8 {x:hP} {y:ByteArray} {b:Nat} {w:World} (f1:w.cell? ⟨b,0,none⟩=some (.string y)):aj T_ 249 [.agg x.cells.toArray,.pointer (some ⟨b,0,none⟩)] w (.bool (decide (x.tk.de=y))):=by
 unfold hP.cells;refine ah func249 I I ?_
 (refine Jr<|Jy I I fun _ _=>Ja I<|Ji<|bK I I ae ?_;refine JL I .here I<|bK I I ae ?_;refine ab (ag (.of I) (At.base f1 I)) I ?_;refine ab (eh (.of I) (.of I)) I ?_;refine Ja I<|Jn<|Je<|JT ?_)
 rfl
theorem vi {P:Program} {c:Cx} {sl:aI} {hs:List a8} {dst:Option Tmp} {ty:TypeId} {pos:String} {af:Array Edge} {g:Option (Nat×Bool)} {t u:TypeId} {x y:Operand} {a b:ByteArray} (hx:Is sl x (.string a)) (hy:Is sl y (.string b)) (e:a≠b) :
  cQ P c sl hs ⟨dst,.binOp .neq t x y u,ty,pos,af,g⟩ (.bool true):=by
 have:=ig (P:=P) (c:=c) (hs:=hs) (dst:=dst) (ty:=ty) (pos:=pos) (af:=af) (g:=g) (t:=t) (u:=u) hx hy;rwa [decide_eq_true e] at this
theorem Br {P:Program} {c:Cx} {sl:aI} {hs:List a8} {dst:Option Tmp} {ty:TypeId} {pos:String} {af:Array Edge} {g:Option (Nat×Bool)} {t u:TypeId} {x y:Operand} {a b:ByteArray} (hx:Is sl x (.string a)) (hy:Is sl y (.string b)) (e:a=b) :
  cQ P c sl hs ⟨dst,.binOp .neq t x y u,ty,pos,af,g⟩ (.bool false):=by
 have:=ig (P:=P) (c:=c) (hs:=hs) (dst:=dst) (ty:=ty) (pos:=pos) (af:=af) (g:=g) (t:=t) (u:=u) hx hy;rwa [decide_eq_false (not_not_intro e)] at this
def mS (r:Ro) (o:ByteArray):Bool:=decide (o≠⟨#[]⟩)&&decide (o≠⟨#[45]⟩)&&decide (bd (ct r) o<0)
theorem S9 {r:Ro} {s d t p:Value} (o:ByteArray) {b:Nat} {w:World} (hr:RR w r s d t p) (hA:BR w b (RC r s d t p)) :
  aj T_ 251 [.string o,.pointer (some ⟨b,0,none⟩)] w (.bool (mS r o)):=by
 have h1:=Rd.one hr.sr;have h2:=Rd.one hr.de;have h3:=Rd.one hr.ti;have h4:=Rd.one hr.po;have kp:∀ (j:Nat) (u:Value),[Value.int .i64 r.lv,.int .i64 r.ma,s,d,t,p][j]? = some u->w.cell? ⟨b,0+j,none⟩=some u:=hA;refine ah func251 I I ?_;by_cases J9:o=⟨#[]⟩
 ·have hB:mS r o=false:=by unfold mS;rw [decide_eq_false (not_not_intro J9)];rfl
  rw [hB]
  (refine Jr<|Ja I<|Ji<|Jv I<|ab (Br (.of I) (.of I) J9) I ?_;refine Jv I<|fM I I I I ?_;refine aC I I inferInstance (fun hg br=>(ig (.bL br I) (.of I))) I ?_;refine ab (bB (.of I) (.of I) (.of I) I) I ?_;refine Jv I<|aC I I inferInstance (fun hg br=>(jD (.of I) (eU.base kp I) I)) I ?_;refine fM I I I I ?_;refine cR I I I I ?_;refine cR I I I I ?_;refine ab (bB (.of I) (.of I) (.of I) I) I ?_;refine Ja I<|Jn<|Je<|JT ?_)
  rfl
 by_cases Ru:o=⟨#[45]⟩
 ·have hB:mS r o=false:=by unfold mS;rw [decide_eq_false (not_not_intro Ru),Bool.and_false];rfl
  rw [hB]
  (refine Jr<|Ja I<|Ji<|Jv I<|ab (vi (.of I) (.of I) J9) I ?_;refine Jv I<|JK I I<|Jv I<|JK I I<|ab (Br (.of I) (.of I) Ru) I ?_;refine ab (bB (.of I) (.of I) (.of I) I) I ?_;refine Jv I<|aC I I inferInstance (fun hg br=>(jD (.of I) (eU.base kp I) I)) I ?_;refine fM I I I I ?_;refine cR I I I I ?_;refine cR I I I I ?_;refine ab (bB (.of I) (.of I) (.of I) I) I ?_;refine Ja I<|Jn<|Je<|JT ?_)
  rfl
 have hB:mS r o=decide (bd (ct r) o<0):=by unfold mS;rw [decide_eq_true J9,decide_eq_true Ru];rfl
 rw [hB]
 (refine Jr<|Ja I<|Ji<|Jv I<|ab (vi (.of I) (.of I) J9) I ?_;refine Jv I<|JK I I<|Jv I<|JK I I<|ab (vi (.of I) (.of I) Ru) I ?_;refine ab (cK (.of I) (.of I) (.of I) I) I ?_;refine Jv I<|JK I I<|ab (iI (eU.base kp I)) I ?_;refine JK I I<|Jv I<|JK I I ?_)
 refine ai aX I (fun w' aq=>mO o (hr.keeps aq.keeps)) ?_;refine JK I I<|JA I ?_
 with_reducible apply ab (V:=Value.bool (decide (bd (ct r) o<0)))
 case hr=>
  with_reducible apply vh
  case hx=>exact Is.of I
  case hy=>exact Is.of I
  case hz=>exact Is.of I
  case e=>rfl
 case hd=>rfl
 refine Ja I<|Jn<|Je<|JT ?_
 rfl
def dy (l:List hP):List Tk:=l.map (·.tk)
def Lh (r:Ro) (l:List Tk) (k:Nat):Int:=(l[k]?.map fun x=>aV [tW r x.de,bG ((l.take k).any fun y=>decide (y.de=x.de)) 9,bG (decide ((x.so.length:Int)≠r.lv)) 2,bG (x.so.any (mS r)) 10]).getD 0
theorem HA {r:Ro} {l:List Tk} {k:Nat} (h:k<l.length):Lh r l k=aV [tW r (l[k]).de,bG ((l.take k).any fun y=>decide (y.de=(l[k]).de)) 9,bG (decide (((l[k]).so.length:Int)≠r.lv)) 2,bG ((l[k]).so.any (mS r)) 10]:=by
 unfold Lh;rw [Zc h];rfl
def Li (l:List Tk):Int:=aV [bG (decide ((l.length:Int)=0)) 12,bG (decide ((8:Int)<(l.length:Nat))) 5]
def A7 (r:Ro) (l:List Tk):Int:=if Li l≠0 then Li l else jq (Lh r l) l.length
set_option maxHeartbeats 2000000 in
theorem r9 {r:Ro} {s d t p kv:Value} {l:List hP} {w:World} (h:RR w r s d t p) (hw:Rd w kv 2 (jQ l)) (hM:xe w l) :
  aj T_ 164 [RA r s d t p,kv] w (.int .i64 (A7 r (dy l))):=by
 obtain ⟨h1,h2,h3,h4⟩:=h.one;have AM:=hw;obtain ⟨aw,cw,bw,ow,rfl,Kc,vR,Ph,B2⟩:=hw;rw [eX] at *;unfold maxLen at vR;have rT:(dy l).length=l.length:=Zd _;unfold RA;refine ah func164 I I ?_
 (refine Jr<|Jy I I fun _ _=>Ja I<|Jn<|Jq<|Jr<|Jv I<|JI I<|JC I<|ai aX I (fun w' aq=>(dP _ 12 w')) ?_;refine Jv I<|JI I<|JE I<|ai aX I (fun w' aq=>(dP _ 5 w')) ?_;refine bb (aB (.cons (.of I) (.cons (.of I) .nil)) I I I I) I fun _ _=>?_;refine ai bN I (fun w' aq=>(dF (Mem.df aq .here I I) (bQ.cons (bQ.cons bQ.nil)))) ?_;refine Ja I<|Ji<|Jv I<|JD I<|Jn<|gl I (fun ar=>?_) fun ar=>?_;refine Jr<|Jv I<|Ja I<|Jn<|Ju<|JT ?_;rotate_left;refine Jk<|Jq<|Jr<|Jv I<|JI I<|Jv I<|Jn<|J0 ?_;rotate_right)
 ·have e1:A7 r (dy l)=Li (dy l):=if_pos (by unfold Li;rw [rT];exact ar);rw [e1];unfold Li;rw [rT]
 have G1:Li (dy l)=0:=by unfold Li;rw [rT];exact Decidable.not_not.1 ar
 have hX:A7 r (dy l)=jq (Lh r (dy l)) l.length:=by unfold A7;rw [if_neg (by rw [G1];decide),rT]
 clear ar;rename_i b2 uh bq mA
 refine aY (fun k:Nat=>k<=l.length/\∀ i,i<k->Lh r (dy l) i=0) (fun k=>[(26,.int .i64 (k:Nat)),(25,.int .i64 (l.length:Nat)),(24,.slice aw l.length cw),(2,.pointer (some ⟨b2,0,none⟩)),(1,.slice aw l.length cw)])
  (fun k=>[JP b2 r s d t p]) (fun k=>l.length-k) ?_ ?_
 ·apply aK 0 ⟨Zi _,fun i hi=>by omega⟩
  case hs1=>exact cj
  case ht=>(try simp only [Ze,Zf,Za]);exact .cons (.there .here) .nil
 rintro k ⟨hk,hf⟩;by_cases aL:k<l.length
 ·have Ak:=Ph (nr aL);have aF:=(B2 k _ (kM aL)).2;unfold hP.cells at aF;have hx:=hM _ (Zj aL);have ja:=HA (r:=r) (l:=dy l) (k:=k) (by omega);have hgk:(dy l)[k]'(by omega)=(l[k]).tk:=List.getElem_map _;rw [hgk] at ja;have rf:Rd w (Go.sliced aw 0 (k:Int).toNat cw 2) 2 (jQ (l.take k)):=by
   have:=AM.sliced (l:=0) (m:=k) (Zi _) (by omega);rw [Int.toNat_natCast];rwa [List.drop_zero,show (jQ l).take k=jQ (l.take k) by unfold jQ;rw [List.map_take]] at this
  have RE:(l.take k).any (fun y=>decide (y.tk.de=(l[k]).tk.de))=((dy l).take k).any fun y=>decide (y.de=(l[k]).tk.de):=by
   unfold dy;rw [<- List.map_take,List.any_map];rfl
  generalize l[k]=x at aF hx ja RE ⊢;obtain ⟨⟨xd,xs⟩,xv⟩:=x;dsimp only at aF hx ja RE ⊢;have QS:=hx;obtain ⟨ax,cx,bx,ox,rfl,ZB,Ui,ZG,hcx⟩:=hx;rw [bA] at *;unfold maxLen at Ui;have fH:∀ w',aD [] w w'->aj T_ 112 [.agg #[.int .i64 r.lv,.int .i64 r.ma,s,d,t,p],.string xd] w' (.int .i64 (tW r xd)):=fun w' hk=>eG xd (h.keeps hk)
  (refine Jr<|JA I<|Jn<|Jq<|Jd I fun ar=>Jk<|Jq<|J0<|Jr<|Jv I<|ab (az (.of I) (.of I) Ak (by omega) ar ba) I ?_;refine ab (iI (eU.base aF I)) I ?_;refine Jz I I fun _ _=>Ja I<|au (.of I) (.of I) .here I I (ie I I) (bF I) an ?_;refine Ji<|Jv I<|Jv I<|ab (fY (.of I) (.of I) (by omega) (by omega)) I ?_;refine ab (bo .nil (.cons (.of I) .nil)) I ?_)
  rename_i b7 UE
  with_reducible apply ai
  case hr=>exact aX
  case hd=>rfl
  case hc=>
   intro w' aq;have f7:w'.cell? ⟨b7,0,none⟩=some (.string xd):=(BR.of (cs:=[.string xd,.slice ax xs.length cx]) aq (by exact .here)) 0 _ I;exact NG (f:=249) (p:=fun y=>decide (y.tk.de=xd)) (first:=[]) (cap:=[.pointer (some ⟨b7,0,none⟩)]) (rf.keeps aq.keeps) (fun y hy w2 eR=>S8 (cy f7 I eR))
  rw [RE]
  (refine Ja I<|Ji<|bK I I ae ?_;refine JL I .here I<|ab (bo .nil (.cons (.of I) .nil)) I ?_)
  with_reducible apply ai
  case hr=>exact aX
  case hd=>rfl
  case hc=>
   intro w' aq;have hR:=h.keeps aq.keeps;have hA:BR w' b2 [.int .i64 r.lv,.int .i64 r.ma,s,d,t,p]:=BR.of aq (by exact Take.there .here);exact Kd (f:=251) (p:=mS r) (first:=[]) (cap:=[.pointer (some ⟨b2,0,none⟩)]) (QS.keeps aq.keeps) (fun o ho w2 eR=>S9 o (hR.keeps eR) (hA.keeps eR))
  refine Ja I<|Jn<|Jq ?_
  with_reducible refine cC 16 (by kernel_rfl) ?_
  (refine ak (cr (.there .here)) I ?_;refine ak kA I ?_;refine ak (gD .here) I ?_;refine aQ aX I (fun w' aq=>(fH w' (Mem.keeps aq))) ?_;refine ak jP I ?_;refine aQ aX I (fun w' aq=>(dP _ 9 w')) ?_;refine ak kA I ?_;refine ak (gD .here) I ?_;refine ak (cg (.of I)) I ?_;refine ak kA I ?_;refine ak (gD (.there .here)) I ?_;refine ak (fZ (.of I) (.of I)) I ?_;refine aQ aX I (fun w' aq=>(dP _ 2 w')) ?_;refine ak jP I ?_;refine aQ aX I (fun w' aq=>(dP _ 10 w')) ?_;refine dX (aB (.cons (.of I) (.cons (.of I) (.cons (.of I) (.cons (.of I) .nil)))) I I I I) I I ?_)
  with_reducible refine cY I fun b55 Ye=>?_
  (refine ai bN I (fun w' aq=>(dF (Mem.df aq .here I I) (bQ.cons (bQ.cons (bQ.cons (bQ.cons bQ.nil)))))) ?_;refine Ja I<|Ji<|Jv I<|JD I<|Jn<|gl I (fun ar=>?_) fun ar=>?_;refine Jr<|Jv I<|Ja I<|Jn<|Je<|Jm<|Jh<|Jh<|Jm<|Jh<|JT ?_;rotate_left;refine Jw<|Jj<|Jt<|Jg<|JB I (by omega)<|Jv I<|Jn ?_;rotate_right)
  ·rw [<- ja] at ar ⊢;have hB:jq (Lh r (dy l)) l.length=Lh r (dy l) k:=eS hf aL ar;rw [hX,hB]
  have hz:Lh r (dy l) k=0:=by rw [ja];exact Decidable.not_not.1 ar
  apply aJ (k+1) ⟨by omega,fun i hi=>by
   by_cases e:i=k
   ·rw [e];exact hz
   ·exact hf i (by omega)⟩ (by omega)
  case hs1=>exact cj
  case ht=>(try simp only [Ze,Zf,Za]);exact .cons bT .nil
 ·obtain rfl:k=l.length:=by omega
  have RM:jq (Lh r (dy l)) l.length=0:=dN.2 hf;rw [hX,RM];refine Jr<|JA I<|Jn<|Jq<|Jc I fun ar=>Jp<|Jl<|Jo<|Jt<|Jr<|Ja I<|Jn<|Je<|JT ?_
  rfl
def yD (v:Int) (o:ByteArray) (x:Po):Bool:=decide (x.lv=v)&&decide (x.ou=o)
theorem S2 {x:Po} (v:Int) (o:ByteArray) {b1 b2:Nat} {w:World} (f1:w.cell? ⟨b1,0,none⟩=some (.int .i64 v)) (f2:w.cell? ⟨b2,0,none⟩=some (.string o)) :
  aj T_ 315 [.agg x.cells.toArray,.pointer (some ⟨b1,0,none⟩),.pointer (some ⟨b2,0,none⟩)] w (.bool (yD v o x)):=by
 unfold Po.cells;refine ah func315 I I ?_
 (refine Jr<|Jy I I fun _ _=>Ja I<|Ji<|ab (cr .here) I ?_;refine ab (ag (.of I) (At.base f1 I)) I ?_;refine ab (ag (.of I) (At.base f2 I)) I ?_;refine bK I I ae ?_;refine JL I .here I<|ab (aT (.cons (.of I) (.cons (.of I) (.cons (.of I) .nil))) an) I ?_;refine ab (uD (.of I) (.of I) (ka (fB (fB lZ))) I) I ?_;refine Ja I<|Jn<|Je<|JT ?_)
 simp [yD]
def RB (b:Nat) (r:Ro) (s d t p:Value):a8:=JP b r s d t p
def PB (p:Value) (l:List Po):a8:=row 188 3 p l.length (jC l)
set_option maxHeartbeats 1000000 in
theorem xP {r:Ro} {s d t p:Value} {b:Nat} {l:List Po} (v:Int) (o:ByteArray) {w:World} {fp:List Nat} (jf:fp.Nodup) (hs:ch (hp w) [RB b r s d t p,PB p l] fp) (cL:l.length<=1000000) :
  bh T_ 256 [.pointer (some ⟨b,0,none⟩),.int .i64 v,.string o] w fp (fun _:Value=>True) (fun _=>.tuple #[]) (fun p'=>[RB b r s d t p',PB p' (l.filter fun x=>!yD v o x)]):=by
 unfold RB PB at *;refine er func256 I I jf hs ?_
 (refine Jr<|Jy I I fun _ _=>Jy I I fun _ _=>Jn<|Jg<|Jv I<|Jv I<|ab (ee (.of I)) I ?_;refine bK I I ae ?_;refine JL I bT I<|ab (bo .nil (.cons (.of I) (.cons (.of I) .nil))) I ?_)
 rename_i b4 uQ b5 G0
 with_reducible apply gp (As:=[row 188 3 p l.length (jC l)])
 case hr=>exact aX
 case hd=>rfl
 case ht=>exact .cons db .nil
 case hc=>
  intro w1 AS aS vQ hs1 CF kU;have h4:b4 ∉ AS:=kU b4 _ _ (by exact Take.there .here);have h5:b5 ∉ AS:=kU b5 _ _ (by exact .here);have f4:w1.cell? ⟨b4,0,none⟩=some (.int .i64 v):=At.lit (by exact Take.there .here) I w1 aS;have f5:w1.cell? ⟨b5,0,none⟩=some (.string o):=At.lit (by exact .here) I w1 aS;exact N4 (f:=315) (p:=yD v o) (first:=[]) (cap:=[.pointer (some ⟨b4,0,none⟩),.pointer (some ⟨b5,0,none⟩)]) vQ hs1 I cL (fun x _ w2 eR=>S2 v o (eA f4 I h4 eR) (eA f5 I h5 eR))
 intro p' _;dsimp only [id_eq,Zb,Za];refine aW (by exact .here) fun va vc e=>?_;subst e
 (refine ab (ee (.of I)) I ?_;refine bK I I ae ?_;refine au (.of I) (.of I) db I I (eF I) (bF I) an ?_;refine Jx ?_)
 first | with_reducible apply aN | with_reducible apply aO
 case he=>exact qD I
 case hR=>
  intro w' aq;exact aG (.slice va (l.filter fun x=>!yD v o x).length vc) trivial (by exact .cons .here (.cons .here .nil)) aq I
theorem GK {lv:Value} {l:List Po} {w:World} (h:Rd w lv 3 (ud l)) (hl:l.length<=1000) :
  bh T_ 316 [lv] w [] (fun _:Value=>True) id (fun v=>[row 188 3 v l.length (jC l)]):=by
 have h':=h;obtain ⟨a,cp,b,o,rfl,c8,bV,ha,hc⟩:=h;refine aR func316 I I ?_;cases a with
 | none =>
  have mF:l=[]:=by
   cases l with
   | nil=>rfl
   | cons x r=>exact absurd (ha (by simp [ud])) (by simp)
  subst mF
  (refine Jr<|Ja I<|Jn<|Jq<|Jr<|Jv I<|ab (gW (.of I) (.of I)) I ?_;refine Jn<|cE (.of I) ?_;refine Jr<|Ja I<|Jn<|Ju ?_)
  refine aP 188 3 ?_
  first | with_reducible apply aN | with_reducible apply aO
  case he=>exact dJ I I
  case hR=>
   intro w' aq;exact aG (.slice none 0 0) trivial (by exact .cons .here .nil) aq I
 | some ad =>
  (refine Jr<|Ja I<|Jn<|Jq<|Jr<|Jv I<|ab (gW (.of I) (.of I)) I ?_;refine Jn<|bR (.of I) ?_;refine Jk<|Jr ?_)
  with_reducible apply bb
  case hr=>exact kP
  case hd=>rfl
  intro bq mA;refine OU I I ?_;refine bY (g:=bq) (E:=188) (ys:=[]) 0 3 (by exact .here) I I I ?_
  with_reducible apply gK
  case hx=>exact Is.of I
  case hy=>exact Is.of I
  case ht=>exact .here
  case hsrc=>exact fun w' aq=>h'.keeps aq.keeps
  case h1=>exact EH l
  case hz=>exact I
  case hsz=>exact I
  case hb0=>exact I
  case hb=>rw [cT];omega
  case hd=>rfl
  intro v';rw [cT,Nat.zero_add,Za,<- zS];refine Ja I<|Jn<|Je ?_
  first | with_reducible apply aN | with_reducible apply aO
  case he=>exact dJ I I
  case hR=>
   intro w' aq;exact aG v' trivial (by exact .cons .here .nil) aq I
def Vq (w:World) (b:Nat) (l:List (ByteArray×Value)):Prop:=∃ es clock,w.heap[b]? = some (.map es clock)/\IC (fun s:ByteArray=>Value.string s) l es clock
theorem Vq.jH {w w':World} {b:Nat} {l:List (ByteArray×Value)} {md:List Nat} (h:Vq w b l) (hn:b ∉ md) (hk:aD md w w'):Vq w' b l:=by
 obtain ⟨es,ck,h1,h2⟩:=h;have hb:b<w.heap.size:=(Array.getElem?_eq_some_iff.1 h1).1;have:=hk.block b hb hn;exact ⟨es,ck,by rw [this,h1],h2⟩
theorem vj {P:Program} {c:Cx} {sl:aI} {hs:List a8} {dst:Option Tmp} {ty:TypeId} {pos:String} {af:Array Edge} {g:Option (Nat×Bool)} {t kt et:TypeId} {x y:Operand} {b:Nat} {k:ByteArray} {l:List (ByteArray×Value)} {z V:Value} [hu:iU P t (.map kt et)] [Gq:iU P kt .string] [hz:lQ P et z]
  (hx:Is sl x (.map (some b))) (hy:Is sl y (.string k)) (hl:Looks c hs b (fun s:ByteArray=>Value.string s) l) (e:(eK k l).getD z=V) :
  cQ P c sl hs ⟨dst,.lookup t x y false,ty,pos,af,g⟩ V:=e ▸ FY IN hx hy hl
def Qs (r:Ro) (x y:Po):Int:=aV [kI x.lv y.lv,kI (eo r x.ou) (eo r y.ou)]
theorem Qg {r:Ro} {x y:Po} {b bm:Nat} {w:World} (hd:CG r) (hx:fI (ew r) x.ou=true) (hy:fI (ew r) y.ou=true) (f:w.cell? ⟨b,0,none⟩=some (.map (some bm))) (hm:Vq w bm (oT r)) :
  aj T_ 318 [.agg x.cells.toArray,.agg y.cells.toArray,.pointer (some ⟨b,0,none⟩)] w (.int .i64 (Qs r x y)):=by
 have ex:(eK x.ou (oT r)).getD (lL 0 0 0)=lL (eo r x.ou) (j9 r x.ou) (jR r x.ou):=by rw [qL hd,hx];rfl
 have ey:(eK y.ou (oT r)).getD (lL 0 0 0)=lL (eo r y.ou) (j9 r y.ou) (jR r y.ou):=by rw [qL hd,hy];rfl
 unfold Po.cells;refine ah func318 I I ?_;refine Jr<|Jy I I fun _ _=>Jy I I fun _ _=>Ja I<|Jn<|Jq ?_
 with_reducible refine cC 17 (by kernel_rfl) ?_
 (refine ak kA I ?_;refine ak (gD (.there .here)) I ?_;refine ak kA I ?_;refine ak (gD .here) I ?_;refine aQ aX I (fun w' aq=>(Cc _ _ w')) ?_;refine ak (ag (.of I) (At.base f I)) I ?_;refine ak kA I ?_;refine ak (gD (.there .here)) I ?_)
 refine ak (vj (l:=oT r) (z:=lL 0 0 0) (V:=.agg #[.int .i64 (eo r x.ou),.int .i64 (j9 r x.ou),.int .i64 (jR r x.ou)]) (Is.of I) (Is.of I) (fun w' aq=>hm.jH (by simp) aq.keeps) ex) I ?_
 (refine ak (Bv (.of I) I) I ?_;refine ak (ag (.of I) (At.base f I)) I ?_;refine ak kA I ?_;refine ak (gD .here) I ?_)
 refine ak (vj (l:=oT r) (z:=lL 0 0 0) (V:=.agg #[.int .i64 (eo r y.ou),.int .i64 (j9 r y.ou),.int .i64 (jR r y.ou)]) (Is.of I) (Is.of I) (fun w' aq=>hm.jH (by simp) aq.keeps) ey) I ?_
 (refine ak (Bv (.of I) I) I ?_;refine aQ aX I (fun w' aq=>(Cc _ _ w')) ?_;refine dX (aB (.cons (.of I) (.cons (.of I) .nil)) I I I I) I I ?_)
 with_reducible refine cY I fun bq mA=>?_
 skip
 refine ai bN I (fun w' aq=>TB (l:=[kI x.lv y.lv,kI (eo r x.ou) (eo r y.ou)]) (Mem.df aq (by exact .here) I I)) ?_;refine Ja I<|Jn<|Je<|JT ?_
 rfl
end Go.Proofs.A1
namespace Go.Proofs.A1
open Go Go.SL Go.Shelf
open Tryz
open Tryz renaming prog->T_
theorem uG (r:Ro) (x y:Po):Qs r x y<0↔x.lv<y.lv\/(x.lv=y.lv/\eo r x.ou<eo r y.ou):=by
 unfold Qs;generalize eo r x.ou=a;generalize eo r y.ou=b;simp only [aV,kI]
 repeat' split
 all_goals omega
theorem MK {α:Type} (r:Ro) (g:α->Po):Go.Sort.SWO (ltOf fun x y:α=>Qs r (g x) (g y)):=by
 constructor
 ·intro x;unfold ltOf;rw [decide_eq_false_iff_not,uG];omega
 ·intro x y z h1 h2;unfold ltOf at *;rw [decide_eq_true_eq,uG] at *;omega
 ·intro x y z h1 h2;unfold ltOf at *;rw [decide_eq_false_iff_not,uG] at *;omega
theorem HK {r:Ro} {v:Value} {l:List Po} {LI bm:Nat} {w:World} {fp:List Nat} (hs:ch (hp w) [PB v l] fp) (hd:CG r) (iY:∀ x∈l,fI (ew r) x.ou=true) (cL:l.length<=1000000)
  (f:w.cell? ⟨LI,0,none⟩=some (.map (some bm))) (hm:Vq w bm (oT r)) (Yx:LI ∉ fp) (V7:bm ∉ fp) :
  bh T_ 317 [v,.func (.func 318) #[] #[.pointer (some ⟨LI,0,none⟩)]] w fp (fun l':List Po=>l'.Perm l/\l'.Pairwise (fun x y=>¬ Qs r y x<0)) (fun _=>.tuple #[]) (fun l'=>[PB v l']):=by
 obtain ⟨f1,f2,rfl,h1,h2⟩:=hs;obtain rfl:f2=[]:=h2;obtain ⟨rfl,hlen,h1⟩:=h1;rw [List.append_nil] at *;rcases h1 with ⟨rfl,h0⟩ | ⟨g,cap,cur,rfl,hg,kc,jL,nW,vZ⟩
 ·have mF:l=[]:=List.eq_nil_of_length_eq_zero (by omega);subst mF;refine (AnyF.slices_SortFunc_none Tryz.CZ none 0 (.func (.func 318) #[] #[.pointer (some ⟨LI,0,none⟩)]) w).mono fun e w' ⟨he,hw⟩=>?_;subst hw;exact ⟨[],he,⟨.refl _,.nil⟩,.refl _ _,[],List.nodup_nil,⟨[],[],I,⟨I,hlen,.inl ⟨I,h0⟩⟩,I⟩,by simp⟩
 ·have RD:g<w.heap.size:=(Array.getElem?_eq_some_iff.1 hg).1;by_cases mF:l=[]
  ·subst mF;refine (AnyF.slices_SortFunc_none Tryz.CZ (some ⟨g,0,none⟩) cap (.func (.func 318) #[] #[.pointer (some ⟨LI,0,none⟩)]) w).mono fun e w' ⟨he,hw⟩=>?_;subst hw;exact ⟨[],he,⟨.refl _,.nil⟩,.refl _ _,[g],by simp,⟨[g],[],I,⟨I,hlen,.inr ⟨g,cap,cur,I,hg,kc,jL,nW,vZ⟩⟩,I⟩,fun b hb=>.inl hb⟩
  obtain ⟨x0,QS⟩:=List.exists_mem_of_ne_nil l mF
  let α:={x:Po // fI (ew r) x.ou=true}
  let _:Inhabited α:=⟨⟨x0,iY x0 QS⟩⟩
  let enc:α->List Value:=fun x=>x.1.cells
  have nF:cur=([]++jC l++cur.toList.drop (l.length*3)).toArray:=by
   apply Array.ext';show cur.toList=_;rw [<- vZ,Za,List.take_append_drop]
  generalize T9:cur.toList.drop (l.length*3)=post at nF
  let la:List α:=l.attach.map fun x=>⟨x.1,iY x.1 x.2⟩
  have Rk:la.map (fun x:α=>x.1)=l:=by
   show (l.attach.map fun x=>(⟨x.1,iY x.1 x.2⟩:α)).map (fun x:α=>x.1)=l
   rw [List.map_map];exact List.attach_map_subtype_val l
  have BY:∀ m:List α,(m.map enc).flatten=jC (m.map fun x:α=>x.1):=fun m=>by
   rw [zS];unfold ud;rw [List.map_map];rfl
  have DD:la.length=l.length:=by
   show (l.attach.map fun x=>(⟨x.1,iY x.1 x.2⟩:α)).length=_
   rw [Zd,List.length_attach]
  have uh:w.heap[g]? = some (.cells ([]++(la.map enc).flatten++post).toArray 188 (0,0)):=by rw [BY,Rk,<- nF];exact hg
  have key:=Bd Tryz.CZ (k:=3) isAgg188 sizeOf188 (enc:=enc) (fun _=>rfl)
   (fun x u hu=>by
    simp only [enc,Po.cells,List.mem_cons,List.not_mem_nil,or_false] at hu;rcases hu with rfl | rfl | rfl <;> rfl)
   (MK r (fun x:α=>x.1)) (g:=318) (b:=g) (cap:=cap) (cb:=#[.pointer (some ⟨LI,0,none⟩)]) (l:=la) (pre:=[]) (cur:=post) (E:=188) (w:=w)
   (enters_of func318 (by kernel_rfl) I) uh (by rw [DD];omega)
   (fun w' hk x y=>Qg (r:=r) (x:=x.1) (y:=y.1) hd x.2 y.2 (eA f I Yx hk) (hm.jH V7 hk))
  rw [DD] at key;refine Calls.mono key ?_;rintro e w' ⟨he,l',gZ,Xj,hk,dD⟩;have yP:(l'.map fun x:α=>x.1).length=l.length:=by rw [Zd,gZ.length_eq,DD]
  rw [BY] at dD;refine ⟨l'.map fun x:α=>x.1,he,⟨?_,?_⟩,hk,[g],by simp,⟨[g],[],I,⟨I,?_,.inr ⟨g,cap,_,?_,dD,?_,jL,?_,?_⟩⟩,I⟩,fun b hb=>.inl hb⟩
  ·have:=gZ.map (fun x:α=>x.1)
   rwa [Rk] at this
  ·rw [List.pairwise_map];refine Xj.imp fun {x y} h=>?_;unfold ltOf at h;rwa [decide_eq_false_iff_not] at h
  ·exact jF _
  ·rw [yP]
  ·rw [yP];exact kc
  ·rw [<- nW];have:=congrArg (fun x:Array Value=>x.size) nF
   simp only [List.size_toArray,Zg,jF,List.length_nil,Nat.zero_add] at this ⊢;rw [yP,this]
  ·show List.take _ ([]++jC _++post)=_;rw [Za,List.take_append_of_le_length (by rw [jF];exact Nat.le_refl _),List.take_of_length_le (by rw [jF];exact Nat.le_refl _)]
end Go.Proofs.A1
namespace Go.Proofs.A1
open Go Go.SL
open Tryz
open Tryz renaming prog->T_
set_option maxHeartbeats 2000000 in
theorem zT {r:Ro} {s d t p:Value} {w:World} (h:RR w r s d t p) (cL:np r) (Xn:r.po.length<=1000000) :
  bh T_ 184 [RA r s d t p] w [] (fun _:Value×Value×Value×Value=>True) (fun x=>RA r x.1 x.2.1 x.2.2.1 x.2.2.2) (fun x=>[J1 r x.1,J2 r x.2.1,J3 r x.2.2.1,PB x.2.2.2 r.po]):=by
 obtain ⟨h1,h2,h3,h4⟩:=h.one;have Gj:=h.po;have rh:=h.po;obtain ⟨a4,cp4,q4,o4,rfl,tO,km,CE,vZ⟩:=rh;rw [cT] at *;unfold maxLen at km;unfold RA;refine aR func184 I I ?_
 (refine Jr<|Jy I I fun _ _=>Jz I I fun _ _=>Ji<|ab (cr (.there .here)) I ?_;refine Jz I I fun _ _=>au (.of I) (.of I) .here I I (iS I I h1 h2 h3 I) (bF I) an ?_;refine Jn<|Jq ?_)
 have hs0:=h.sr;have SI:=h.de
 with_reducible refine fc 7 (by kernel_rfl) ?_
 (refine aH (fun β=>(ao (.of I) ae)) dM I ?_;refine aH (fun β=>(ag (.of I) (At.lit bT I))) dM I ?_)
 dsimp only [Nat.zero_add,Nat.reduceAdd]
 with_reducible apply im (ι:=Value) (Φ:=fun _=>True) (val:=id) (own:=fun x=>[J1 r x]) (g:=id) (B:=[]) (args:=fun _=>[s])
 case hg=>exact fun x=>⟨x,I⟩
 case hB=>rfl
 case hr=>exact fun β=>bj (.of I) (.cons (.of I) .nil) inferInstance I
 case hd=>rfl
 case hc=>exact fun β w' hb=>GJ (h.sr.keeps hb.mem.keeps) (by have:=cL.1;omega)
 dsimp only [id_eq,Nat.reduceAdd]
 (refine aH (fun β=>(ao (.of I) ae)) dM I ?_;refine aH (fun β=>(ag (.of I) (At.lit bT I))) dM I ?_)
 dsimp only [Nat.zero_add,Nat.reduceAdd]
 with_reducible apply im (ι:=Value) (Φ:=fun _=>True) (val:=id) (own:=fun x=>[J2 r x]) (g:=id) (B:=[]) (args:=fun _=>[d])
 case hg=>exact fun x=>⟨x,I⟩
 case hB=>rfl
 case hr=>exact fun β=>bj (.of I) (.cons (.of I) .nil) inferInstance I
 case hd=>rfl
 case hc=>exact fun β w' hb=>GL (h.de.keeps hb.mem.keeps) (by have:=cL.2.1;omega)
 dsimp only [id_eq,Nat.reduceAdd];refine aH (fun β=>(ao (.of I) ae)) dM I ?_;refine ic fun β=>?_;dsimp only [fK,Za,Zb,List.append_eq,Nat.reduceAdd];generalize β 2=sv;generalize β 5=dv;clear β;refine aW (v:=sv) (by exact .here) fun sa sc e=>?_;subst e;refine aW (v:=dv) (by exact Take.there .here) fun da dc e=>?_;subst e;refine cU (rs:=[7]) (by kernel_rfl) (by simp) (List.forall_mem_cons.2 ⟨?_,fun _ h=>absurd h List.not_mem_nil⟩);refine dj I ?_
 (refine au (.of I) (.of I) bT I I (eF I) (bF I) an ?_;refine Jn ?_)
 refine cU (rs:=[8]) (by kernel_rfl) (by simp) (List.forall_mem_cons.2 ⟨?_,fun _ h=>absurd h List.not_mem_nil⟩);refine dj I ?_
 (refine bK I I ae ?_;refine Jn ?_)
 refine cU (rs:=[9]) (by kernel_rfl) (by simp) (List.forall_mem_cons.2 ⟨?_,fun _ h=>absurd h List.not_mem_nil⟩);refine dj I ?_
 (refine au (.of I) (.of I) .here I I (eF I) (bF I) an ?_;refine Jn ?_)
 with_reducible refine dp (by kernel_rfl) ?_
 (refine Jt<|Jr<|bK I I ae ?_;refine JL I fg I ?_)
 refine JN bN I (fun w1 aS=>GI (h.keeps aS.keeps).ti (by have:=cL.2.2;omega)) ?_;intro tv _;dsimp only [id_eq,Zb,Za];refine aW (v:=tv) (by exact .here) fun ta tc e=>?_;subst e
 (refine bK I I ae ?_;refine au (.of I) (.of I) (.there .here) I I (eF I) (bF I) an ?_;refine Ji<|bK I I ae ?_;refine JL I fy I<|JI I ?_)
 with_reducible apply bb
 case hr=>
  with_reducible apply MC
  case hx=>exact Is.of I
  case hy=>exact Is.of I
  case hl=>exact Nat.le_refl _
  case hb=>omega
  case hz=>rfl
  case hsz=>rfl
  case h63=>omega
 case hd=>rfl
 intro bg RD
 (refine bK I I ae ?_;refine au (.of I) (.of I) (.there .here) I I (eF I) (bF I) an ?_;refine Ji<|bK I I ae ?_;refine JL I .here I<|bK I I ae ?_;refine JL I re I ?_)
 with_reducible apply Hw
 case hx=>exact Is.of I
 case hy=>exact Is.of I
 case ht=>exact Take.there .here
 case hsrc=>exact fun w' aq=>Gj.keeps aq.keeps
 case h1=>exact EH r.po
 case hfit=>
  simp [Value.cells]
 case hd=>rfl
 rw [List.take_of_length_le (by rw [cT];exact Nat.le_refl _),<- zS,zB _ _ (by rw [jF];simp [Value.cells])];refine dx (n:=r.po.length) (xs:=jC r.po) (cap:=r.po.length) (g:=bg) (E:=188) (sz:=3) (by exact .here) (Nat.le_refl _) (by unfold maxLen;omega) ?_ (jF _) ?_
 ·rw [Zg,List.length_drop,jF];simp [Value.cells]
 (refine Ji<|ab (cr (.there .here)) I ?_;refine au (.of I) (.of I) fy I I (iS I I I I I I) (bF I) an ?_;refine Jn<|Je ?_)
 first | with_reducible apply aN | with_reducible apply aO
 case he=>exact kW I inferInstance I .here an (by rfl)
 case hR=>
  intro w' aq;exact aG (.slice sa r.sr.length sc,.slice da r.de.length dc,.slice ta r.ti.length tc,.slice (some ⟨bg,0,none⟩) r.po.length r.po.length) trivial (by exact .cons fg (.cons fg (.cons db (.cons (.there .here) .nil)))) aq I
end Go.Proofs.A1
namespace Go.Proofs.A1
structure Sw (po:List Po) (D:List ByteArray) (f:Po->Bool):Prop where
 de:∀ p∈po,p.ou∈D->f p=true
 up:∀ p∈po,∀ q∈po,f q=true->q.lv=p.lv->q.ip=p.ou->f p=true
theorem Sw.start (po:List Po) (D:List ByteArray):Sw po D fun _=>true:=⟨fun _ _ _=>rfl,fun _ _ _ _ _ _ _=>rfl⟩
theorem Sw.step {po:List Po} {D:List ByteArray} {f:Po->Bool} (h:Sw po D f) {v:Int} {o:ByteArray} (hD:o ∉ D) (hu:∀ q∈po,f q=true->¬ (q.lv=v/\q.ip=o)):Sw po D fun x=>f x&&!yD v o x:=by
 refine ⟨fun p hp hd=>?_,fun p hp q hq hf e1 e2=>?_⟩
 ·have h1:=h.de p hp hd;have h2:yD v o p=false:=by
   unfold yD;have:¬ p.ou=o:=fun e=>hD (e ▸ hd)
   simp [this]
  simp [h1,h2]
 ·rw [Bool.and_eq_true] at hf;have h1:=h.up p hp q hq hf.1 e1 e2;have h2:yD v o p=false:=by
   unfold yD;by_cases a:p.lv=v
   ·by_cases b:p.ou=o
    ·exact absurd ⟨e1.trans a,e2.trans b⟩ (hu q hq hf.1)
    ·simp [b]
   ·simp [a]
  simp [h1,h2]
theorem tT (po:List Po) (f:Po->Bool) (v:Int) (o:ByteArray):(po.filter f).filter (fun x=>!yD v o x)=po.filter fun x=>f x&&!yD v o x:=by
 rw [List.filter_filter];congr 1;funext x;exact Bool.and_comm _ _
end Go.Proofs.A1
namespace Go.Proofs.A1
open Go Go.SL
def Ro.wp (r:Ro) (po:List Po):Ro:=⟨r.lv,r.ma,r.sr,r.de,r.ti,po⟩
theorem jl.wp {r:Ro} {q po:List Po} (h:jl r po):jl (r.wp q) po:=⟨h.rr,h.Lw,h.out,h.xw,h.OT,h.DQ,h.use⟩
theorem qh.wp {r:Ro} {q:List Po} (h:qh r):qh (r.wp q):=⟨h.sd,h.st,h.dt,h.Tc⟩
theorem CG.wp {r:Ro} {q:List Po} (h:CG r):CG (r.wp q):=⟨h.nd⟩
theorem rb.wp {r:Ro} (h:rb r) {q:List Po} (hq:jl r q):rb (r.wp q):=⟨h.lim,h.N3.wp,h.len,h.sm,h.dm,h.tm,hq.wp⟩
theorem rb.nd {r:Ro} (h:rb r):(cd r).Nodup:=h.N3.parts.2.2.1
def xj (D:List ByteArray) (po:List Po):List Po:=po.filter fun p=>fI D p.ou||po.any fun q=>decide (q.lv=p.lv)&&decide (q.ip=p.ou)
def FP (D:List ByteArray):Nat->List Po->List Po
 | 0,po=>po
 | n+1,po=>FP D n (xj D po)
def A9 (D:List ByteArray) (po:List Po):List Po:=FP D po.length po
theorem A8 {D:List ByteArray} {po:List Po} (h:xj D po=po):∀ n,FP D n po=po
 | 0=>rfl
 | n+1=>by rw [FP,h];exact A8 h n
theorem Er {D:List ByteArray}:∀ (n:Nat) (po:List Po) (f:Po->Bool),Sw po D f->(po.filter f).length<=n ->
  ∃ g:Po->Bool,Sw po D g/\FP D n (po.filter f)=po.filter g/\xj D (po.filter g)=po.filter g
 | 0, po, f, h, hl => by
  have e:po.filter f=[]:=List.eq_nil_of_length_eq_zero (by omega);exact ⟨f,h,I,by rw [e];rfl⟩
 | n + 1, po, f, h, hl => by
  have hS:Sw po D fun p=>f p&&(fI D p.ou||(po.filter f).any fun q=>decide (q.lv=p.lv)&&decide (q.ip=p.ou)):=by
   refine ⟨fun p hp hd=>?_,fun p hp q hq hf e1 e2=>?_⟩
   ·have:=h.de p hp hd;show (f p&&(fI D p.ou||_))=true;rw [this,ef.2 hd];rfl
   ·rw [Bool.and_eq_true] at hf;have h1:=h.up p hp q hq hf.1 e1 e2;rw [h1,Bool.true_and,Bool.or_eq_true]
    right
    rw [List.any_eq_true];exact ⟨q,List.mem_filter.2 ⟨hq,hf.1⟩,by simp [e1,e2]⟩
  have e:xj D (po.filter f)=po.filter fun p=>f p&&(fI D p.ou||(po.filter f).any fun q=>decide (q.lv=p.lv)&&decide (q.ip=p.ou)):=by
   unfold xj;rw [List.filter_filter];refine List.filter_congr fun p _=>?_;rw [Bool.and_comm]
  by_cases XV:xj D (po.filter f)=po.filter f
  ·exact ⟨f,h,A8 XV _,XV⟩
  ·have aL:(xj D (po.filter f)).length<(po.filter f).length:=by
    have hle:(xj D (po.filter f)).length<=(po.filter f).length:=List.length_filter_le _ _;rcases Nat.lt_or_ge (xj D (po.filter f)).length (po.filter f).length with h1 | h1
    ·exact h1
    ·exact absurd (List.filter_sublist.eq_of_length (Nat.le_antisymm hle h1)) XV
   rw [FP,e];exact Er n po _ hS (by rw [<- e];omega)
structure Z8 (po:List Po) (D:List ByteArray) (f:Po->Bool):Prop where
 sw:Sw po D f
 us:∀ p∈po,f p=true->p.ou∈D\/∃ q∈po,f q=true/\q.lv=p.lv/\q.ip=p.ou
theorem Es (D:List ByteArray) (po:List Po):∃ g,Z8 po D g/\A9 D po=po.filter g:=by
 obtain ⟨g,h1,h2,h3⟩:=Er (D:=D) po.length po (fun _=>true) ⟨fun _ _ _=>rfl,fun _ _ _ _ _ _ _=>rfl⟩ (List.length_filter_le _ _);rw [List.filter_eq_self.2 fun _ _=>rfl] at h2
 refine ⟨g,⟨h1,fun p hp hg=>?_⟩,h2⟩;have hm:p∈xj D (po.filter g):=by rw [h3];exact List.mem_filter.2 ⟨hp,hg⟩
 have:=(List.mem_filter.1 hm).2;rw [Bool.or_eq_true,ef,List.any_eq_true] at this;rcases this with h | ⟨q,hq,e⟩
 ·exact .inl h
 ·rw [Bool.and_eq_true,decide_eq_true_eq,decide_eq_true_eq] at e;obtain ⟨a,b⟩:=List.mem_filter.1 hq;exact .inr ⟨q,a,b,e.1,e.2⟩
structure OE (r:Ro) (po:List Po):Prop where
 one:tl po
 out:∀ p∈po,p.ou∈cz r\/p.ou∈cd r
 xw:∀ p∈po,p.ip∈ct r\/p.ip∈cd r
 DQ:∀ v,¬ ∃ t∈cd r,t∈fh po v ((cd r).length+1) t
theorem jl.acy {r:Ro} {po:List Po} (h:jl r po):OE r po:=⟨jl.one h.rr,h.out,h.xw,h.DQ⟩
theorem OE.sub {r:Ro} {po:List Po} (h:OE r po) (f:Po->Bool):OE r (po.filter f):=by
 have hs:∀ p∈po.filter f,p∈po:=fun p hp=>(List.mem_filter.1 hp).1
 exact ⟨h.one.filter f,fun p hp=>h.out p (hs p hp),fun p hp=>h.xw p (hs p hp),fun v ⟨t,ht,hc⟩=>h.DQ v ⟨t,ht,AA h.one hs hc⟩⟩
theorem OE.short {r:Ro} (hn:qh r) {po:List Po} (h:OE r po):∀ v o m,(cd r).length+1<=m->fh po v m o=fh po v ((cd r).length+1) o:=fun v o m hm=>
 qb (T:=cd r) (jl.tie hn h.out h.xw) (h.DQ v) o hm
theorem OE.tid {r:Ro} (hn:qh r) {po:List Po} (h:OE r po) {f:Po->Bool} (hf:Z8 po (cz r) f):po.filter f=A9 (cz r) po:=by
 obtain ⟨g,hg,e⟩:=Es (cz r) po;rw [e];exact MY h.one (h.short hn) hf.sw.de hf.sw.up hf.us hg.sw.de hg.sw.up hg.us
def Tk.at (t:Tk) (k:Nat):ByteArray:=t.so.getD k ⟨#[]⟩
def Tk.zero:Tk:=⟨⟨#[]⟩,[]⟩
def og (r:Ro) (t:Tk) (k:Nat):Bool:=!decide (t.at k=⟨#[]⟩)&&!decide (t.at k=jX r (k:Nat) t.de)
def nY (r:Ro) (t:Tk):Nat->List Po->List Po
 | 0,po=>po
 | k+1,po=>if og r t k then (nY r t k po).filter (fun x=>!yD (k:Nat) t.de x) else nY r t k po
def kr (r:Ro) (l:List Tk):Nat->List Po
 | 0=>r.po
 | i+1=>nY r (l.getD i Tk.zero) (l.getD i Tk.zero).so.length (kr r l i)
def dash:ByteArray:=⟨#[45]⟩
def oW (r:Ro) (t:Tk) (k:Nat):Bool:=og r t k&&!decide (t.at k=dash)
def qj (r:Ro) (t:Tk):Nat->List Po->Option (List Po)
 | 0,po=>some po
 | k+1,po=>(qj r t k po).bind fun q=>if oW r t k then (mg (r.wp q) (k:Nat) (t.at k) t.de).map fun p=>lJ r q (k:Nat) (t.at k) p t.de else some q
def jZ (r:Ro) (l:List Tk) (po:List Po):Nat->Option (List Po)
 | 0=>some po
 | i+1=>(jZ r l po i).bind (qj r (l.getD i Tk.zero) (l.getD i Tk.zero).so.length)
theorem FV {r:Ro} {t:Tk} {po:List Po} {k:Nat} (h:qj r t k po=none):∀ {m},k<=m->qj r t m po=none:=by
 intro m hm
 induction hm with
 | refl=>exact h
 | step _ ih=>rw [qj,ih];rfl
theorem yo {r:Ro} {l:List Tk} {po:List Po} {k:Nat} (h:jZ r l po k=none):∀ {m},k<=m->jZ r l po m=none:=by
 intro m hm
 induction hm with
 | refl=>exact h
 | step _ ih=>rw [jZ,ih];rfl
def H3 (r:Ro) (l:List Tk) (po:List Po):Nat:=((List.range l.length).find? fun i=>(jZ r l po (i+1)).isNone).getD 0
theorem MD {r:Ro} {l:List Tk} {po:List Po} {i:Nat} (hi:i<l.length) {q:List Po} (h1:jZ r l po i=some q) (h2:jZ r l po (i+1)=none):H3 r l po=i:=by
 unfold H3;have:(List.range l.length).find? (fun i=>(jZ r l po (i+1)).isNone)=some i:=by
  rw [List.find?_eq_some_iff_append];refine ⟨by rw [h2];rfl,List.range i,(List.range (l.length-i-1)).map (fun x=>x+i+1),?_,fun j hj=>?_⟩
  ·apply List.ext_getElem
   ·simp;omega
   ·intro n a b;rw [List.getElem_range];rcases Nat.lt_trichotomy n i with c | c | c
    ·rw [List.getElem_append_left (by simpa using c)];simp
    ·subst c;rw [List.getElem_append_right (by simp)];simp
    ·rw [List.getElem_append_right (by simp;omega)];simp only [List.length_range];obtain ⟨d,hd⟩:∃ d,n-i=d+1:=⟨n-i-1,by omega⟩;simp only [hd,List.getElem_cons_succ,List.getElem_map,List.getElem_range];omega
  ·have hj:=List.mem_range.1 hj;cases hn:jZ r l po (j+1) with
   | some _=>rfl
   | none=>rw [yo hn (show j+1<=i by omega)] at h1;cases h1
 rw [this];rfl
def tA (r:Ro) (l:List Tk):Int:=ia (fun t=>(r.de.getD (bd (cz r) t.de).toNat ⟨⟨#[]⟩,0,false⟩).pr) l
def Ro.nil:Ro:=⟨0,0,[],[],[],[]⟩
def lK (r:Ro) (l:List Tk):Ro×Int×Int:=
 if 0<=tA r l then (Ro.nil,tA r l,31) else
 match jZ r l (A9 (cz r) (kr r l l.length)) l.length with
 | none=>(Ro.nil,(H3 r l (A9 (cz r) (kr r l l.length)):Nat),18)
 | some po=>(r.wp po,0,0)
structure Ld (r:Ro) (l:List Tk):Prop where
 de:∀ t∈l,t.de∈cz r
 nd:(l.map Tk.de).Nodup
 lv:∀ t∈l,(t.so.length:Int)=r.lv
 so:∀ t∈l,∀ s∈t.so,s=⟨#[]⟩\/s=dash\/s∈ct r
 DM:l.length<=8
theorem Ld.wp {r:Ro} {l:List Tk} (h:Ld r l) (q:List Po):Ld (r.wp q) l:=⟨h.de,h.nd,h.lv,h.so,h.DM⟩
def N1 (r:Ro) (t:Tk) (k:Nat) (p:Po):Bool:=(List.range k).any fun i=>og r t i&&yD (i:Nat) t.de p
theorem nJ (r:Ro) (t:Tk):∀ (k:Nat) (po:List Po),nY r t k po=po.filter fun p=>!N1 r t k p
 | 0,po=>by rw [nY,List.filter_eq_self.2 fun p _=>by simp [N1]]
 | k + 1, po => by
  rw [nY,nJ r t k po];have e:∀ p,N1 r t (k+1) p=(N1 r t k p||(og r t k&&yD (k:Nat) t.de p)):=fun p=>by
   unfold N1;rw [List.range_succ,List.any_append];simp
  split
  ·rename_i h;rw [List.filter_filter];refine List.filter_congr fun p _=>?_;rw [e,h,Bool.true_and,Bool.not_or,Bool.and_comm]
  ·rename_i h;refine List.filter_congr fun p _=>?_;rw [e,Bool.eq_false_iff.2 h,Bool.false_and,Bool.or_false]
def Kv (r:Ro) (l:List Tk) (i:Nat) (p:Po):Bool:=(List.range i).any fun j=>N1 r (l.getD j Tk.zero) (l.getD j Tk.zero).so.length p
theorem kX (r:Ro) (l:List Tk):∀ i,kr r l i=r.po.filter fun p=>!Kv r l i p
 | 0=>by rw [kr,List.filter_eq_self.2 fun p _=>by simp [Kv]]
 | i + 1 => by
  rw [kr,nJ,kX r l i,List.filter_filter];refine List.filter_congr fun p _=>?_;have e:Kv r l (i+1) p=(Kv r l i p||N1 r (l.getD i Tk.zero) (l.getD i Tk.zero).so.length p):=by
   unfold Kv;rw [List.range_succ,List.any_append];simp
  rw [e,Bool.not_or,Bool.and_comm]
theorem Fk {r:Ro} {t:Tk} {k:Nat} {p:Po}:N1 r t k p=true↔∃ i,i<k/\og r t i=true/\p.lv=(i:Nat)/\p.ou=t.de:=by
 unfold N1 yD;simp [List.any_eq_true]
theorem N2 {r:Ro} {l:List Tk} {p:Po}:Kv r l l.length p=true↔∃ t∈l,∃ i,i<t.so.length/\og r t i=true/\p.lv=(i:Nat)/\p.ou=t.de:=by
 unfold Kv;rw [List.any_eq_true];constructor
 ·rintro ⟨j,hj,h⟩;have hj:=List.mem_range.1 hj;rw [List.getD_eq_getElem?_getD,Zc hj] at h;exact ⟨l[j],Zj hj,Fk.1 h⟩
 ·rintro ⟨t,ht,h⟩;obtain ⟨j,hj,rfl⟩:=List.getElem_of_mem ht;refine ⟨j,List.mem_range.2 hj,?_⟩;rw [List.getD_eq_getElem?_getD,Zc hj];exact Fk.2 h
theorem lX {r:Ro} {W:List Po->Jb->Option (List Nat)}:∀ {a b:List Jb} {po:List Po},sA r W po (a++b)=(sA r W po a).bind fun q=>sA r W q b
 | [],b,po=>rfl
 | j :: a, b, po => by
  rw [Zb,sA,sA];cases W po j with
  | none=>rfl
  | some p=>exact lX
def vK (r:Ro) (t:Tk):Nat->List Jb
 | 0=>[]
 | k+1=>vK r t k++if oW r t k then [⟨(k:Nat),t.at k,t.de⟩] else []
def vJ (r:Ro) (l:List Tk):Nat->List Jb
 | 0=>[]
 | i+1=>vJ r l i++vK r (l.getD i Tk.zero) (l.getD i Tk.zero).so.length
def jW (r:Ro) (po:List Po) (j:Jb):Option (List Nat):=if fI (cz r) j.d then mg (r.wp po) j.v j.s j.d else none
theorem LU {r:Ro} {v:Int} {so de:ByteArray} {p:List Nat} (h:mg r v so de=some p):(dE r r.po v so).least (jV r de) p:=by
 unfold mg at h;split at h
 ·cases h
 ·rename_i e;cases h;exact Wn.Sa e
theorem OW (r:Ro):∀ po j p,jW r po j=some p->(dE r po j.v j.s).ok p/\(dE r po j.v j.s).fin p=j9 r j.d:=by
 intro po j p h;unfold jW at h;split at h
 ·rename_i hd;have hl:=LU h;exact ⟨hl.1,hl.2.1.trans (Kw (r:=r) (ef.1 hd)).symm⟩
 ·cases h
theorem sC {r:Ro} {t:Tk} (ht:t.de∈cz r):∀ (k:Nat) (po:List Po),qj r t k po=sA r (jW r) po (vK r t k)
 | 0,po=>rfl
 | k + 1, po => by
  rw [qj,vK,lX,sC ht k po];congr 1;funext q;cases oW r t k with
  | false=>rfl
  | true =>
   rw [if_pos I,if_pos I,sA];unfold jW;rw [if_pos (ef.2 ht)];cases mg (r.wp q) (k:Nat) (t.at k) t.de with
   | none=>rfl
   | some p=>rfl
theorem sB {r:Ro} {l:List Tk} (hl:∀ t∈l,t.de∈cz r) (po:List Po):∀ i,i<=l.length->jZ r l po i=sA r (jW r) po (vJ r l i)
 | 0,_=>rfl
 | i + 1, hi => by
  rw [jZ,vJ,lX,sB hl po i (by omega)];congr 1;funext q;refine sC ?_ _ _;rw [List.getD_eq_getElem?_getD,Zc (by omega)];exact hl _ (Zj _)
theorem oY {r:Ro} {t:Tk} {k:Nat} {j:Jb}:j∈vK r t k↔∃ i,i<k/\oW r t i=true/\j=⟨(i:Nat),t.at i,t.de⟩:=by
 induction k with
 | zero=>simp [vK]
 | succ k ih =>
  rw [vK,List.mem_append,ih];constructor
  ·rintro (⟨i,h1,h2,h3⟩ | h)
   ·exact ⟨i,by omega,h2,h3⟩
   ·split at h
    ·rename_i hb;exact ⟨k,by omega,hb,List.mem_singleton.1 h⟩
    ·cases h
  ·rintro ⟨i,h1,h2,h3⟩;by_cases e:i=k
   ·subst e
    right
    rw [if_pos h2,h3];exact List.mem_singleton.2 I
   ·exact .inl ⟨i,by omega,h2,h3⟩
theorem oX {r:Ro} {l:List Tk} {i:Nat} {j:Jb} (hi:i<=l.length):j∈vJ r l i↔∃ m,∃ hm:m<i,∃ k,k<(l[m]'(by omega)).so.length/\oW r (l[m]'(by omega)) k=true/\j=⟨(k:Nat),(l[m]'(by omega)).at k,(l[m]'(by omega)).de⟩:=by
 induction i with
 | zero=>simp [vJ]
 | succ i ih =>
  rw [vJ,List.mem_append,ih (by omega),List.getD_eq_getElem?_getD,Zc (show i<l.length by omega),Option.getD_some,oY];constructor
  ·rintro (⟨m,hm,h⟩ | h)
   ·exact ⟨m,by omega,h⟩
   ·exact ⟨i,by omega,h⟩
  ·rintro ⟨m,hm,h⟩;by_cases e:m=i
   ·subst e;exact .inr h
   ·exact .inl ⟨m,by omega,h⟩
def Z9 (a b:Jb):Prop:=¬(b.v=a.v/\b.d=a.d)
theorem Ab (r:Ro) (t:Tk):∀ k,(vK r t k).Pairwise Z9
 | 0=>.nil
 | k + 1 => by
  rw [vK,List.pairwise_append];refine ⟨Ab r t k,?_,fun a ha b hb=>?_⟩
  ·split
   ·exact List.pairwise_singleton _ _
   ·exact .nil
  ·split at hb
   ·obtain ⟨i,h1,_,rfl⟩:=oY.1 ha;rw [List.mem_singleton.1 hb];rintro ⟨e,_⟩;dsimp only at e;omega
   ·cases hb
theorem y5 {l:List Tk} (hn:(l.map Tk.de).Nodup) {i j:Nat} (hi:i<l.length) (hj:j<l.length) (hne:i≠j):l[i].de≠l[j].de:=by
 intro e;have h:=List.pairwise_iff_getElem.1 hn;have hl:(l.map Tk.de).length=l.length:=Zd _;rcases Nat.lt_trichotomy i j with c | c | c
 ·exact h i j (by omega) (by omega) c (by simpa using e)
 ·exact hne c
 ·exact h j i (by omega) (by omega) c (by simpa using e.symm)
theorem Aa {r:Ro} {l:List Tk} (hn:(l.map Tk.de).Nodup):∀ i,i<=l.length->(vJ r l i).Pairwise Z9
 | 0,_=>.nil
 | i + 1, hi => by
  rw [vJ,List.pairwise_append];refine ⟨Aa hn i (by omega),Ab r _ _,fun a ha b hb=>?_⟩;rw [List.getD_eq_getElem?_getD,Zc (show i<l.length by omega),Option.getD_some] at hb;obtain ⟨m,hm,k,_,_,rfl⟩:=(oX (by omega)).1 ha;obtain ⟨k',_,_,rfl⟩:=oY.1 hb;rintro ⟨_,e⟩;exact y5 hn (show i<l.length by omega) (show m<l.length by omega) (by omega) e
theorem lz {r:Ro} {t:Tk} {k:Nat}:og r t k=true↔t.at k≠⟨#[]⟩/\t.at k≠jX r (k:Nat) t.de:=by
 unfold og;simp
theorem mT {r:Ro} {t:Tk} {k:Nat}:oW r t k=true↔t.at k≠⟨#[]⟩/\t.at k≠jX r (k:Nat) t.de/\t.at k≠dash:=by
 unfold oW;rw [Bool.and_eq_true,lz];simp [and_assoc]
theorem Tk.at_mem {t:Tk} {k:Nat} (h:k<t.so.length):t.at k∈t.so:=by
 unfold Tk.at
 rw [List.getD_eq_getElem?_getD,Zc h];exact Zj h
def uV (r:Ro) (l:List Tk):List Po:=A9 (cz r) (kr r l l.length)
def SZ (r:Ro) (l:List Tk) (v:Int) (y:ByteArray):Prop:=∃ t∈l,∃ i,i<t.so.length/\og r t i=true/\v=(i:Nat)/\y=t.de
theorem qY {r:Ro} (h:rb r) {l:List Tk} (hl:Ld r l):jl r (uV r l)/\(∀ v y,y∈cz r->¬ SZ r l v y->ep (uV r l) v y=ep r.po v y/\pZ (uV r l) v (ct r) y=pZ r.po v (ct r) y)/\∀ v y,SZ r l v y->ep (uV r l) v y=none:=by
 obtain ⟨f,hf,e⟩:=Es (cz r) (kr r l l.length);have hg:∀ p,(!Kv r l l.length p)=true↔¬ SZ r l p.lv p.ou:=fun p=>by
  rw [Bool.not_eq_true',<- Bool.not_eq_true];exact not_congr N2
 unfold uV;rw [e,kX] at *;obtain ⟨k1,k2,k3⟩:=N0 (g:=fun p=>!Kv r l l.length p) (f:=f) h.ue h.val (fun p hp ht=>(hg p).2 fun ⟨t,Y3,i,_,_,_,e5⟩=>h.ue.dt _ (hl.de t Y3) (e5 ▸ ht)) hf.sw.de hf.sw.up hf.us;refine ⟨k1,fun v y hy hd=>k2 v y hy fun p _ e1 e2=>(hg p).2 (by rw [e1,e2];exact hd),fun v y hd=>k3 v y fun p _ e1 e2=>?_⟩;have:¬ (!Kv r l l.length p)=true:=fun q=>(hg p).1 q (by rw [e1,e2];exact hd)
 exact Bool.not_eq_true _ ▸ this
theorem z8 {r:Ro} (h:rb r) {l:List Tk} (hl:Ld r l) {t:Tk} (ht:t∈l) {k:Nat} (hk:k<t.so.length) (hj:oW r t k=true):(0<=((k:Nat):Int)/\((k:Nat):Int)<r.lv)/\t.at k∈ct r/\t.de∈cz r/\ep (uV r l) (k:Nat) t.de=none:=by
 have h1:=hl.lv t ht;obtain ⟨j1,j2,j3⟩:=mT.1 hj;refine ⟨by omega,?_,hl.de t ht,(qY h hl).2.2 _ _ ⟨t,ht,k,hk,lz.2 ⟨j1,j2⟩,I,I⟩⟩;rcases hl.so t ht _ (Tk.at_mem hk) with e | e | e
 ·exact absurd e j1
 ·exact absurd e j3
 ·exact e
theorem QG {r:Ro} (h:rb r) {l:List Tk} (hl:Ld r l) {i:Nat} (hi:i<l.length) {k:Nat} (hk:k<=l[i].so.length) {q0 q:List Po} (h0:jZ r l (uV r l) i=some q0) (h1:qj r l[i] k q0=some q) :
  jl r q/\∀ m,k<=m->m<l[i].so.length->og r l[i] m=true->ep q (m:Nat) l[i].de=none:=by
 have lM:=hl.de l[i] (Zj hi);rw [sB hl.de _ i (by omega)] at h0;rw [sC lM] at h1;have h2:sA r (jW r) (uV r l) (vJ r l i++vK r l[i] k)=some q:=by rw [lX,h0];exact h1
 have yQ:∀ j∈vJ r l i++vK r l[i] k,∃ m,∃ hm:m<l.length,∃ n,n<l[m].so.length/\oW r l[m] n=true/\j=⟨(n:Nat),l[m].at n,l[m].de⟩/\(m=i->n<k):=by
  intro j hj;rcases List.mem_append.1 hj with hj | hj
  ·obtain ⟨m,hm,n,e1,e2,e3⟩:=(oX (by omega)).1 hj;exact ⟨m,by omega,n,e1,e2,e3,fun e=>by omega⟩
  ·obtain ⟨n,e1,e2,e3⟩:=oY.1 hj;exact ⟨i,hi,n,by omega,e2,e3,fun _=>e1⟩
 obtain ⟨k1,_,k3⟩:=zH h.ue h.nd (OW r) _ _ _ (qY h hl).1 (fun j hj=>by
   obtain ⟨m,hm,n,e1,e2,rfl,_⟩:=yQ j hj;exact z8 h hl (Zj hm) e1 e2) (List.pairwise_append.2 ⟨Aa hl.nd i (by omega),Ab r _ _,fun a ha b hb=>by
   obtain ⟨m,hm,n,_,_,rfl⟩:=(oX (by omega)).1 ha;obtain ⟨n',_,_,rfl⟩:=oY.1 hb;rintro ⟨_,e⟩;exact y5 hl.nd hi (show m<l.length by omega) (by omega) e⟩) h2
 refine ⟨k1,fun m aS k9 DE=>?_⟩;rw [(k3 (m:Nat) l[i].de lM fun j hj ⟨e1,e2⟩=>by
  obtain ⟨x,hx,n,_,_,rfl,e5⟩:=yQ j hj;by_cases c:x=i
  ·subst c;have:=e5 I;dsimp only at e1;omega
  ·exact y5 hl.nd hx hi c e2.symm).2]
 exact (qY h hl).2.2 _ _ ⟨l[i],Zj hi,m,k9,DE,I,I⟩
theorem Qi {r:Ro} (h:rb r) {l:List Tk} (hl:Ld r l) {q:List Po} (h0:jZ r l (uV r l) l.length=some q) :
  jl r q/\(∀ v y,y∈cz r->¬ SZ r l v y->pZ q v (ct r) y=pZ r.po v (ct r) y) /\
  ∀ t∈l,∀ k,k<t.so.length->og r t k=true->pZ q (k:Nat) (ct r) t.de=if t.at k=dash then ⟨#[]⟩ else t.at k:=by
 rw [sB hl.de _ _ (Nat.le_refl _)] at h0;have yQ:∀ j∈vJ r l l.length,∃ t∈l,∃ n,n<t.so.length/\oW r t n=true/\j=⟨(n:Nat),t.at n,t.de⟩:=by
  intro j hj;obtain ⟨m,hm,n,e1,e2,e3⟩:=(oX (Nat.le_refl _)).1 hj;exact ⟨_,Zj hm,n,e1,e2,e3⟩
 obtain ⟨k1,k2,k3⟩:=zH h.ue h.nd (OW r) _ _ _ (qY h hl).1 (fun j hj=>by
   obtain ⟨t,ht,n,e1,e2,rfl⟩:=yQ j hj;exact z8 h hl ht e1 e2) (Aa hl.nd _ (Nat.le_refl _)) h0
 have hDr:∀ t∈l,∀ n,n<t.so.length->oW r t n=true->SZ r l (n:Nat) t.de:=fun t ht n hn hj=>by
  obtain ⟨j1,j2,_⟩:=mT.1 hj;exact ⟨t,ht,n,hn,lz.2 ⟨j1,j2⟩,I,I⟩
 refine ⟨k1,fun v y hy hd=>?_,fun t ht k hk DE=>?_⟩
 ·rw [(k3 v y hy fun j hj ⟨e1,e2⟩=>by
   obtain ⟨t,ht,n,a1,a2,rfl⟩:=yQ j hj;exact hd (by rw [e1,e2];exact hDr t ht n a1 a2)).1]
  exact ((qY h hl).2.1 v y hy hd).2
 ·by_cases UA:t.at k=dash
  ·rw [if_pos UA,(k3 (k:Nat) t.de (hl.de t ht) fun j hj ⟨e1,e2⟩=>by
    obtain ⟨t',Gh,n,a1,a2,rfl⟩:=yQ j hj;dsimp only at e1 e2;obtain ⟨x,hx,rfl⟩:=List.getElem_of_mem ht;obtain ⟨x',QT,rfl⟩:=List.getElem_of_mem Gh;have e:x=x':=Classical.byContradiction fun c=>y5 hl.nd hx QT c e2
    subst e;have e3:k=n:=by omega
    subst e3;exact (mT.1 a2).2.2 UA).1]
   exact GM (fun hs=>h.ue.sd _ hs (hl.de t ht)) ((qY h hl).2.2 _ _ ⟨t,ht,k,hk,DE,I,I⟩)
  ·rw [if_neg UA];obtain ⟨d1,d2⟩:=lz.1 DE;have hj:oW r t k=true:=mT.2 ⟨d1,d2,UA⟩;obtain ⟨x,hx,rfl⟩:=List.getElem_of_mem ht;exact k2 ⟨(k:Nat),l[x].at k,l[x].de⟩ ((oX (Nat.le_refl _)).2 ⟨x,hx,k,hk,hj,I⟩)
theorem Ek {po:List Po} {v:Int} {o:ByteArray}:nZ po v o=true↔∃ p∈po,p.lv=v/\p.ip=o:=by
 unfold nZ Af;rw [List.any_eq_true];exact ⟨fun ⟨p,hp,h⟩=>⟨p,hp,by simpa using h⟩,fun ⟨p,hp,h⟩=>⟨p,hp,by simpa using h⟩⟩

theorem zU {r:Ro} (hd:∀ x∈r.de,0<=x.mx) (ht:∀ x∈r.ti,0<=x.fr) {s:ByteArray} (h:s∈cz r\/s∈cd r):0<=j9 r s:=by
 unfold j9;by_cases h1:0<=bd (cz r) s
 ·obtain ⟨hl,_⟩:=eD h1;rw [if_pos h1,List.getD_eq_getElem?_getD,Zc (by unfold cz at hl;rwa [Zd] at hl)];exact hd _ (Zj _)
 ·rw [if_neg h1];have h2:0<=bd (cd r) s:=by
   rcases h with h | h
   ·exact absurd (di h) h1
   ·exact di h
  obtain ⟨hl,_⟩:=eD h2;rw [if_pos h2,List.getD_eq_getElem?_getD,Zc (by unfold cd at hl;rwa [Zd] at hl)];exact ht _ (Zj _)
theorem Nh {r:Ro} (hd:∀ x∈r.sr,0<=x.mx) (ht:∀ x∈r.ti,0<=x.to) {s:ByteArray} (h:s∈ct r\/s∈cd r):0<=jR r s:=by
 unfold jR;by_cases h1:0<=bd (ct r) s
 ·obtain ⟨hl,_⟩:=eD h1;rw [if_pos h1,List.getD_eq_getElem?_getD,Zc (by unfold ct at hl;rwa [Zd] at hl)];exact hd _ (Zj _)
 ·rw [if_neg h1];have h2:0<=bd (cd r) s:=by
   rcases h with h | h
   ·exact absurd (di h) h1
   ·exact di h
  obtain ⟨hl,_⟩:=eD h2;rw [if_pos h2,List.getD_eq_getElem?_getD,Zc (by unfold cd at hl;rwa [Zd] at hl)];exact ht _ (Zj _)
structure GP (r:Ro):Prop where
 N3:CG r
 len:r.sr.length<=8/\r.de.length<=8/\r.ti.length<=6
 sm:∀ x∈r.sr,0<=x.mx/\x.mx<r.ma
 dm:∀ x∈r.de,0<=x.mx/\x.mx<r.ma
 tm:∀ x∈r.ti,(0<=x.fr/\x.fr<r.ma)/\(0<=x.to/\x.to<r.ma)/\x.fr≠x.to
 nm:∀ s∈ew r,kg s=true
theorem zQ {α:Type} {qO:Int} {bf:List ByteArray} {nm:α->ByteArray} {ck:α->Int} {l:List α} (h:fm qO bf nm ck l=0):∀ x∈l,kg (nm x)=true:=by
 intro x hx;obtain ⟨k,hk,rfl⟩:=List.getElem_of_mem hx;unfold fm at h;split at h
 ·cases h
 ·have:=dN.1 h k hk;rw [oS hk,bI] at this;have:=(bD (by decide)).1 (this _ List.mem_cons_self);simpa using this
theorem prt {r:Ro} (h:j4 r=0):GP r:=by
 obtain ⟨kU,hlen,hs,hd,ht⟩:=zR h;have h0:=h;unfold j4 at h0;rw [bI] at h0;refine ⟨kU,hlen,fun x hx=>jv.1 (hs x hx),fun x hx=>jv.1 (hd x hx),fun x hx=>?_,fun s hs=>?_⟩
 ·have:=ht x hx;unfold n9 at this;rw [bI] at this;have g3:=(bD (by decide)).1 (this (bG (decide (x.fr=x.to)) 24) (by simp));exact ⟨jv.1 (this _ (by simp)),jv.1 (this _ (by simp)),by simpa using g3⟩
 ·unfold ew ct cz cd at hs;rw [List.mem_append,List.mem_append,List.mem_map,List.mem_map,List.mem_map] at hs;rcases hs with (⟨x,hx,rfl⟩ | ⟨x,hx,rfl⟩) | ⟨x,hx,rfl⟩
  ·exact zQ (h0 _ List.mem_cons_self) x hx
  ·exact zQ (h0 (fm 8 (ct r) De.nm (fun x=>fq r x.mx) r.de) (by simp)) x hx
  ·exact zQ (h0 (fm 6 (ct r++cz r) Ti.nm (n9 r) r.ti) (by simp)) x hx
theorem GP.ue {r:Ro} (h:GP r):qh r:=IB h.N3 h.len.2.2
theorem GP.ne {r:Ro} (h:GP r) {s:ByteArray} (hs:s∈ct r\/s∈cz r\/s∈cd r):s≠⟨#[]⟩:=by
 have hm:s∈ew r:=by
  unfold ew;rw [List.mem_append,List.mem_append];rcases hs with h | h | h
  ·exact .inl (.inl h)
  ·exact .inl (.inr h)
  ·exact .inr h
 have:=h.nm s hm;intro e;rw [e] at this;exact absurd this (by decide)
theorem GP.nd {r:Ro} (h:GP r) {s:ByteArray} (hs:s∈ct r):s≠dash:=by
 have hm:s∈ew r:=by
  unfold ew;rw [List.mem_append,List.mem_append];exact .inl (.inl hs)
 have:=h.nm s hm;intro e;rw [e] at this;exact absurd this (by decide)
theorem U8 {r:Ro} (h1:nD r=0) (h2:j4 r=0) (hV:jl r r.po):gB r=0:=by
 have hp:=prt h2;have h3:jU r r.po=0:=by
  refine dN.2 fun k hk=>?_;have hl:=hV.Lw _ (Zj hk);have ho:=zU (fun x hx=>(hp.dm x hx).1) (fun x hx=>(hp.tm x hx).1.1) (hV.out _ (Zj hk))
  have hi:=Nh (fun x hx=>(hp.sm x hx).1) (fun x hx=>(hp.tm x hx).2.1.1) (hV.xw _ (Zj hk))
  have hm:=hV.OT _ (Zj hk);have e0:mr r r.po[k]=0:=by
   unfold mr;rw [bI];intro e he;simp only [List.mem_cons,List.not_mem_nil,or_false] at he;rcases he with rfl | rfl | rfl | rfl
   ·exact iJ.2 (by omega)
   ·exact (bD (by decide)).2 (by simpa using ho)
   ·exact (bD (by decide)).2 (by simpa using hi)
   ·exact (bD (by decide)).2 (by simpa using hm)
  rw [rJ hk,if_neg (not_not_intro e0)];refine if_neg ?_;by_cases vU:k=0
  ·rw [if_pos vU];exact pt.2 (by omega)
  ·rw [if_neg vU,Zc (by omega)];refine pt.2 ?_;have:=List.pairwise_iff_getElem.1 hV.rr (k-1) k (by omega) hk (by omega);unfold qy at this;simpa only [Bool.or_eq_true,Bool.and_eq_true,decide_eq_true_eq] using this
 have h4:z7 r=0:=by
  unfold z7;rw [bI];intro e he;simp only [List.mem_cons,List.not_mem_nil,or_false] at he;have hti:(cd r).length=r.ti.length:=by unfold cd;rw [Zd]
  rcases he with rfl | rfl
  ·refine (bD (by decide)).2 (lD.2 fun v _ _=>List.any_eq_false.2 fun x hx hc=>?_);exact hV.DQ v ⟨x.nm,List.mem_map.2 ⟨x,hx,I⟩,by rw [hti];exact ef.1 hc⟩
  ·refine (bD (by decide)).2 (lD.2 fun v _ _=>List.any_eq_false.2 fun x hx hc=>?_);have:=hV.use v x.nm (List.mem_map.2 ⟨x,hx,I⟩);unfold Iu at hc;cases a:nZ r.po v x.nm <;> cases b:gC r.po v x.nm <;> rw [a,b] at hc this <;> simp at hc this
 unfold gB;rw [if_neg (not_not_intro h1),if_neg (not_not_intro h2),if_neg (not_not_intro h3),h4]
theorem R8 {r:Ro} (h:gB r=0) {q:List Po} (hV:jl r q):gB (r.wp q)=0:=by
 obtain ⟨h1,h2,_,_⟩:=td h;exact U8 (r:=r.wp q) h1 h2 hV.wp
def px (po:List Po) (v:Int):Nat->ByteArray->List ByteArray
 | 0,_=>[]
 | n+1,o=>if o=⟨#[]⟩ then [] else o::px po v n ((ep po v o).getD ⟨#[]⟩)
theorem PE (po:List Po) (v:Int):∀ n,px po v n ⟨#[]⟩=[]
 | 0=>rfl
 | n+1=>by rw [px,if_pos rfl]
theorem uW {po:List Po} (hne:∀ p∈po,p.ip≠⟨#[]⟩) {v:Int}:∀ (n:Nat) {o:ByteArray},o≠⟨#[]⟩->px po v (n+1) o=o::fh po v n o
 | 0,o,ho=>by rw [px,if_neg ho];rfl
 | n + 1, o, ho => by
  rw [px,if_neg ho];cases h:ep po v o with
  | none=>rw [wE h];exact congrArg _ (PE po v _)
  | some i =>
   obtain ⟨p,hp,_,_,rfl⟩:=fC h;rw [mX h];exact congrArg _ (uW hne n (hne p hp))
def Lo (r:Ro) (x:Po):Int:=aV [gH x.lv 0 (r.lv-1),bG (decide (eo r x.ou<0)) 10,bG (decide (jR r x.ip<0)) 10,bG (decide (j9 r x.ou≠jR r x.ip)) 24]
theorem MP {r:Ro} (h:GP r) (s:ByteArray):eo r s<0↔j9 r s<0:=by
 rw [Il];constructor
 ·rintro ⟨a,b⟩;unfold j9;have f1:=cq.2 a;have f2:=cq.2 b;rw [if_neg (by omega),if_neg (by omega)];decide
 ·intro adh;constructor
  ·intro hd;have:=zU (fun x hx=>(h.dm x hx).1) (fun x hx=>(h.tm x hx).1.1) (.inl hd)
   omega
  ·intro hd;have:=zU (fun x hx=>(h.dm x hx).1) (fun x hx=>(h.tm x hx).1.1) (.inr hd)
   omega
theorem Qp {r:Ro} (h:GP r) (x:Po):Lo r x=mr r x:=by
 unfold Lo mr;rw [show decide (eo r x.ou<0)=decide (j9 r x.ou<0) from decide_eq_decide.2 (MP h _)]
def F1 (r:Ro) (k:Nat):Int:=(r.po[k]?.map fun x=>if Lo r x≠0 then Lo r x else if 0<k/\(x.lv<((r.po[k-1]?).getD x).lv\/x.lv=((r.po[k-1]?).getD x).lv/\eo r x.ou<=eo r ((r.po[k-1]?).getD x).ou) then 11 else 0).getD 0
theorem Qn {r:Ro} (h:GP r) {k:Nat} (hk:k<r.po.length):F1 r k=F5 r r.po k:=by
 unfold F1;rw [Zc hk,rJ hk,Option.map_some,Option.getD_some,Qp h];by_cases e:mr r r.po[k]=0
 ·rw [if_neg (not_not_intro e),if_neg (not_not_intro e)];have hl:=(nu e).1;by_cases vU:k=0
  ·rw [if_neg (by omega),if_pos vU,if_neg];exact pt.2 (by omega)
  ·rw [if_neg vU,Zc (show k-1<r.po.length by omega),Option.getD_some];have key:=@pt (r.po[k]).lv (eo r (r.po[k]).ou) (r.po[k-1]).lv (eo r (r.po[k-1]).ou);by_cases c:lO [(r.po[k]).lv,eo r (r.po[k]).ou] (DZ r (some r.po[k-1]))<=0
   ·rw [if_pos c,if_pos];have:¬ ((r.po[k-1]).lv<(r.po[k]).lv\/(r.po[k-1]).lv=(r.po[k]).lv/\eo r (r.po[k-1]).ou<eo r (r.po[k]).ou):=fun q=>(key.2 q) c
    omega
   ·rw [if_neg c,if_neg];have:=key.1 c;omega
 ·rw [if_pos e,if_pos e]
def Tv (r:Ro):Int:=if j7 r fun v=>r.ti.any fun x=>decide ((px r.po v 8 x.nm).length=8) then 33 else if j7 r fun v=>r.ti.any fun x=>nZ r.po v x.nm != !decide ((ep r.po v x.nm).getD ⟨#[]⟩=⟨#[]⟩) then 32 else 0
theorem Qq {r:Ro} (h:GP r) (hp:jU r r.po=0):Tv r=z7 r:=by
 have CB:∀ p∈r.po,mr r p=0:=fun p nQ=>by
  obtain ⟨k,hk,rfl⟩:=List.getElem_of_mem nQ;have:=dN.1 hp k hk;rw [rJ hk] at this;by_cases e:mr r r.po[k]=0
  ·exact e
  ·rw [if_pos e] at this;exact this
 have Gk:∀ p∈r.po,p.ou∈cz r\/p.ou∈cd r:=fun p nQ=>Iv (fun x hx=>(h.dm x hx).1) (fun x hx=>(h.tm x hx).1.1) (nu (CB p nQ)).2.1
 have xA:∀ p∈r.po,p.ip∈ct r\/p.ip∈cd r:=fun p nQ=>IX (nu (CB p nQ)).2.2.1
 have hne:∀ p∈r.po,p.ip≠⟨#[]⟩:=fun p nQ=>h.ne ((xA p nQ).elim .inl fun q=>.inr (.inr q))
 have tI:∀ x∈r.ti,x.nm≠⟨#[]⟩:=fun x hx=>h.ne (.inr (.inr (List.mem_map.2 ⟨x,hx,I⟩)))
 have hti:(cd r).length=r.ti.length:=by unfold cd;rw [Zd]
 have e1:(j7 r fun v=>r.ti.any fun x=>decide ((px r.po v 8 x.nm).length=8))=j7 r fun v=>r.ti.any (LF r v):=by
  unfold j7;congr 1;funext i;have hc:=Kz (po:=r.po) (v:=(i:Nat)) (T:=cd r) (jl.tie h.ue Gk xA) (by rw [hti];exact h.len.2.2);rw [Bool.eq_iff_iff,List.any_eq_true,List.any_eq_true];constructor
  ·rintro ⟨x,hx,e⟩;rw [decide_eq_true_eq,uW hne 7 (tI x hx),List.length_cons] at e;obtain ⟨t,ht,hm⟩:=hc.2 ⟨x.nm,List.mem_map.2 ⟨x,hx,rfl⟩,by omega⟩;obtain ⟨y,hy,rfl⟩:=List.mem_map.1 ht;exact ⟨y,hy,ef.2 (by rw [<- hti];exact hm)⟩
  ·rintro ⟨x,hx,e⟩;obtain ⟨t,ht,hm⟩:=hc.1 ⟨x.nm,List.mem_map.2 ⟨x,hx,rfl⟩,by rw [hti];exact ef.1 e⟩;obtain ⟨y,hy,rfl⟩:=List.mem_map.1 ht;refine ⟨y,hy,?_⟩;rw [decide_eq_true_eq,uW hne 7 (tI y hy),List.length_cons,hm]
 have e2:(j7 r fun v=>r.ti.any fun x=>nZ r.po v x.nm != !decide ((ep r.po v x.nm).getD ⟨#[]⟩=⟨#[]⟩))=j7 r fun v=>r.ti.any (Iu r v):=by
  unfold j7;congr 1;funext i;dsimp only;congr 1;funext x;unfold Iu gC;have:(!decide ((ep r.po (i:Nat) x.nm).getD ⟨#[]⟩=⟨#[]⟩))=(ep r.po (i:Nat) x.nm).isSome:=by
   cases e:ep r.po (i:Nat) x.nm with
   | none=>rfl
   | some o =>
    obtain ⟨p,nQ,_,_,rfl⟩:=fC e;have:=hne p nQ;simp [this]
  rw [this];cases nZ r.po (i:Nat) x.nm <;> cases (ep r.po (i:Nat) x.nm).isSome <;> rfl
 unfold Tv z7;rw [e1,e2];cases (j7 r fun v=>r.ti.any (LF r v)) <;> cases (j7 r fun v=>r.ti.any (Iu r v)) <;> rfl
def zP (r:Ro):Int:=if jq (F1 r) r.po.length≠0 then jq (F1 r) r.po.length else Tv r
theorem MH {r:Ro} (h:GP r):zP r=if jU r r.po≠0 then jU r r.po else z7 r:=by
 have e:jq (F1 r) r.po.length=jU r r.po:=DN fun j hj _=>Qn h hj
 unfold zP;rw [e];by_cases c:jU r r.po=0
 ·rw [if_neg (not_not_intro c),if_neg (not_not_intro c),Qq h c]
 ·rw [if_pos c,if_pos c]
def mor:ByteArray:=⟨#[109,111,114,101]⟩
theorem MQ {r:Ro} {s:ByteArray} (hs:s∈cz r\/s∈cd r):eo r s=if 0<=bd (cz r) s then bd (cz r) s else (r.de.length:Nat)+bd (cd r) s:=by
 unfold eo;by_cases c:s∈cz r
 ·rw [if_pos (di c),if_pos (di c)]
 ·have h2:=cq.2 c;rw [if_neg (by omega),if_pos (di (hs.resolve_left c)),if_neg (by omega)]

section
variable {r:Ro} {a b:ByteArray}
theorem K5 {r:Ro} {s:ByteArray} (h:s∈ct r\/s∈cz r\/s∈cd r):s∈ew r:=by
 unfold ew;rw [List.mem_append,List.mem_append];rcases h with h | h | h
 ·exact .inl (.inl h)
 ·exact .inl (.inr h)
 ·exact .inr h
end
end Go.Proofs.A1
namespace Go.Proofs.A1
open Go Go.SL
open Tryz
open Tryz renaming prog->T_
theorem FU {r:Ro} {l:List Tk} (h:(lK r l).2.2=0):∃ q,jZ r l (uV r l) l.length=some q/\lK r l=(r.wp q,0,0)/\¬ 0<=tA r l:=by
 unfold lK at h ⊢;by_cases c:0<=tA r l
 ·rw [if_pos c] at h;cases h
 ·rw [if_neg c] at h ⊢;show ∃ q,jZ r l (A9 (cz r) (kr r l l.length)) l.length=some q/\_;cases e:jZ r l (A9 (cz r) (kr r l l.length)) l.length with
  | none=>rw [e] at h;cases h
  | some q=>exact ⟨q,rfl,rfl,c⟩
def PW (r:Ro) (t:Tk):List ByteArray:=(List.range r.lv.toNat).map fun k=>if t.at k=⟨#[]⟩ then jX r (k:Nat) t.de else if t.at k=dash then ⟨#[]⟩ else t.at k
theorem Om {r:Ro} {v:Int} {o:ByteArray} (h:jX r v o≠⟨#[]⟩):jX r v o∈ct r:=by
 unfold jX at h ⊢;split at h
 ·rename_i c;rw [if_pos c];rw [List.any_eq_true] at c;obtain ⟨x,hx,e⟩:=c;rw [decide_eq_true_eq] at e;exact List.mem_map.2 ⟨x,hx,e⟩
 ·exact absurd I h
theorem KT {r:Ro} (h:rb r) {q:List Po} (hq:jl r q) (v:Int) (o:ByteArray):jX (r.wp q) v o=pZ q v (ct r) o:=te (h.wp hq).ue hq.wp v o
theorem HT {r:Ro} (jk:gB r=0) {l:List Tk} (hl:Ld r l) {q:List Po} (h0:jZ r l (uV r l) l.length=some q) :
  jl r q/\(∀ t∈l,cG (r.wp q) t.de=PW r t)/\∀ y∈cz r,y ∉ l.map Tk.de->cG (r.wp q) y=cG r y:=by
 have h:=Di jk;have hp:=prt (td jk).2.1;obtain ⟨k1,k2,k3⟩:=Qi h hl h0;refine ⟨k1,fun t ht=>?_,fun y hy hn=>?_⟩
 ·unfold cG PW;show (List.range r.lv.toNat).map _=_;refine List.map_congr_left fun k hk=>?_;have hk:=List.mem_range.1 hk;have BZ:=hl.lv t ht;have XB:k<t.so.length:=by omega
  rw [KT h k1];by_cases hd:og r t k=true
  ·rw [k3 t ht k XB hd,if_neg (lz.1 hd).1]
  ·have vP:¬ SZ r l (k:Nat) t.de:=by
    rintro ⟨t',Gh,i,hi,ug,e1,e2⟩;obtain ⟨x,hx,rfl⟩:=List.getElem_of_mem ht;obtain ⟨x',QT,rfl⟩:=List.getElem_of_mem Gh;have e:x=x':=Classical.byContradiction fun c=>y5 hl.nd hx QT c e2
    subst e;have:k=i:=by omega
    subst this;exact hd ug
   rw [k2 _ _ (hl.de t ht) vP,<- te h.ue h.val];by_cases e1:t.at k=⟨#[]⟩
   ·rw [if_pos e1]
   ·have e2:t.at k=jX r (k:Nat) t.de:=Classical.byContradiction fun c=>hd (lz.2 ⟨e1,c⟩)
    have e3:t.at k≠dash:=hp.nd (by rw [e2];exact Om (by rw [<- e2];exact e1));rw [if_neg e1,if_neg e3,e2]
 ·unfold cG;show (List.range r.lv.toNat).map _=_;refine List.map_congr_left fun k _=>?_;rw [KT h k1,k2 _ _ hy fun ⟨t,ht,_,_,_,_,e⟩=>hn (List.mem_map.2 ⟨t,ht,e.symm⟩),<- te h.ue h.val]
theorem tF {r:Ro} {o:ByteArray}:mS r o=false↔o=⟨#[]⟩\/o=dash\/o∈ct r:=by
 unfold mS dash;rw [Bool.and_eq_false_iff,Bool.and_eq_false_iff,decide_eq_false_iff_not,decide_eq_false_iff_not,decide_eq_false_iff_not,cq];simp only [ne_eq,Decidable.not_not,or_assoc];rw [Classical.not_not]
theorem zv {r:Ro} {l:List Tk}:A7 r l=0↔l≠[]/\Ld r l:=by
 have ja:∀ k (hk:k<l.length),Lh r l k=0↔(l[k].de∈cz r/\(∀ j (hj:j<k),(l[j]'(by omega)).de≠l[k].de)/\(l[k].so.length:Int)=r.lv/\∀ s∈l[k].so,s=⟨#[]⟩\/s=dash\/s∈ct r):=by
  intro k hk;rw [HA hk,bI];have e1:tW r l[k].de=0↔l[k].de∈cz r:=by
   unfold tW;rw [bD (by decide),decide_eq_false_iff_not,cq,Classical.not_not]
  have e2:bG ((l.take k).any fun y=>decide (y.de=l[k].de)) 9=0↔∀ j (hj:j<k),(l[j]'(by omega)).de≠l[k].de:=by
   rw [bD (by decide),List.any_eq_false];constructor
   ·intro h j hj e;have hjt:j<(l.take k).length:=by rw [List.length_take];omega
    have:=h _ (Zj hjt);rw [List.getElem_take] at this;exact this (decide_eq_true e)
   ·intro h x hx e;obtain ⟨j,hj,rfl⟩:=List.getElem_of_mem hx;rw [List.length_take] at hj;rw [List.getElem_take] at e;exact h j (by omega) (of_decide_eq_true e)
  have e3:bG (decide ((l[k].so.length:Int)≠r.lv)) 2=0↔(l[k].so.length:Int)=r.lv:=by
   rw [bD (by decide),decide_eq_false_iff_not,ne_eq,Decidable.not_not]
  have e4:bG (l[k].so.any (mS r)) 10=0↔∀ s∈l[k].so,s=⟨#[]⟩\/s=dash\/s∈ct r:=by
   rw [bD (by decide),List.any_eq_false];exact ⟨fun h s hs=>tF.1 (by have:=h s hs;rwa [Bool.not_eq_true] at this),fun h s hs=>by rw [Bool.not_eq_true];exact tF.2 (h s hs)⟩
  constructor
  ·intro h;exact ⟨e1.1 (h _ (by simp)),e2.1 (h _ (by simp)),e3.1 (h _ (by simp)),e4.1 (h _ (by simp))⟩
  ·rintro ⟨a,b,c,d⟩ e he;simp only [List.mem_cons,List.not_mem_nil,or_false] at he;rcases he with rfl | rfl | rfl | rfl
   ·exact e1.2 a
   ·exact e2.2 b
   ·exact e3.2 c
   ·exact e4.2 d
 have hA:Li l=0↔l≠[]/\l.length<=8:=by
  unfold Li;rw [bI];constructor
  ·intro h;have a:=(bD (by decide)).1 (h (bG (decide ((l.length:Int)=0)) 12) (by simp));have b:=(bD (by decide)).1 (h (bG (decide ((8:Int)<(l.length:Nat))) 5) (by simp));rw [decide_eq_false_iff_not] at a b;exact ⟨fun e=>a (by rw [e];rfl),by omega⟩
  ·rintro ⟨a,b⟩ e he;simp only [List.mem_cons,List.not_mem_nil,or_false] at he;rcases he with rfl | rfl
   ·refine (bD (by decide)).2 (decide_eq_false fun e=>a (List.eq_nil_of_length_eq_zero (by omega)))
   ·exact (bD (by decide)).2 (decide_eq_false (by omega))
 unfold A7;constructor
 ·intro h;by_cases c:Li l=0
  ·rw [if_neg (not_not_intro c)] at h;have h:=dN.1 h;obtain ⟨c1,c2⟩:=hA.1 c;refine ⟨c1,fun t ht=>?_,?_,fun t ht=>?_,fun t ht=>?_,c2⟩
   ·obtain ⟨k,hk,rfl⟩:=List.getElem_of_mem ht;exact ((ja k hk).1 (h k hk)).1
   ·show List.Pairwise _ _;rw [List.pairwise_iff_getElem];intro i j hi hj yR;rw [Zd] at hi hj;rw [List.getElem_map,List.getElem_map];exact ((ja j hj).1 (h j hj)).2.1 i yR
   ·obtain ⟨k,hk,rfl⟩:=List.getElem_of_mem ht;exact ((ja k hk).1 (h k hk)).2.2.1
   ·obtain ⟨k,hk,rfl⟩:=List.getElem_of_mem ht;exact ((ja k hk).1 (h k hk)).2.2.2
  ·rw [if_pos c] at h;exact absurd h c
 ·rintro ⟨c1,h⟩;rw [if_neg (not_not_intro (hA.2 ⟨c1,h.DM⟩))];refine dN.2 fun k hk=>(ja k hk).2 ⟨h.de _ (Zj hk),fun j hj=>y5 h.nd (by omega) hk (by omega),h.lv _ (Zj hk),h.so _ (Zj hk)⟩
def xh (r:Ro) (t:Tk):Tk:=⟨t.de,(List.range r.lv.toNat).map fun k=>if t.at k=⟨#[]⟩ then ⟨#[]⟩ else if jX r (k:Nat) t.de=⟨#[]⟩ then dash else jX r (k:Nat) t.de⟩
def Ro.Ib (r:Ro) (d:ByteArray) (q:Bool):Ro:=⟨r.lv,r.ma,r.sr,r.de.modify (bd (cz r) d).toNat fun x=>⟨x.nm,x.mx,q⟩,r.ti,r.po⟩
structure Od where
 fr:Int
 tk:List Tk
def Od.zero:Od:=⟨0,[]⟩
def OL (r:Ro) (l:List Od):Nat->Ro
 | 0=>r
 | i+1=>(lK (OL r l i) (l.getD i Od.zero).tk).1
def BB (r:Ro) (l:List Od) (i:Nat):Int:=(lK (OL r l i) (l.getD i Od.zero).tk).2.2
def Ou (f:Nat->Int) (n:Nat):Nat:=((List.range n).find? fun i=>decide (f i≠0)).getD 0
def iV (r:Ro) (l:List Od):Ro×Int×Int:=if jq (BB r l) l.length=0 then (OL r l l.length,0,0) else (Ro.nil,(Ou (BB r l) l.length:Nat),jq (BB r l) l.length)
theorem Ot {f:Nat->Int} {n i:Nat} (h:∀ j,j<i->f j=0) (hi:i<n) (hn:f i≠0):Ou f n=i:=by
 unfold Ou;have:(List.range n).find? (fun i=>decide (f i≠0))=some i:=by
  rw [List.find?_eq_some_iff_getElem];refine ⟨by simpa using hn,i,by simpa using hi,by simp,fun j hj=>?_⟩;simp [h j hj]
 rw [this];rfl
def Lt (r:Ro) (l:List Od) (k:Nat):Int:=(l[k]?.map fun x=>aV [gH x.fr 0 10000000,bG (decide (x.fr<=if k=0 then -1 else (l.getD (k-1) Od.zero).fr)) 11,A7 r x.tk]).getD 0
def VB (r:Ro) (l:List Od):Int:=if (16:Int)<(l.length:Nat) then 5 else jq (Lt r l) l.length
structure Oz (r:Ro) (l:List Od):Prop where
 DM:l.length<=16
 fr:∀ k (h:k<l.length),0<=l[k].fr/\l[k].fr<=10000000
 inc:∀ i j (hi:i<l.length) (hj:j<l.length),i<j->l[i].fr<l[j].fr
 tk:∀ k (h:k<l.length),Ld r l[k].tk
theorem ods {r:Ro} {l:List Od} (h:VB r l=0):Oz r l:=by
 unfold VB at h;by_cases c:(16:Int)<(l.length:Nat)
 ·rw [if_pos c] at h;cases h
 ·rw [if_neg c] at h;have h:=dN.1 h;have hk:∀ k (hk:k<l.length),(0<=l[k].fr/\l[k].fr<=10000000)/\(if k=0 then -1 else (l.getD (k-1) Od.zero).fr)<l[k].fr/\A7 r l[k].tk=0:=fun k hk=>by
   have:=h k hk;unfold Lt at this;rw [Zc hk,Option.map_some,Option.getD_some,bI] at this;have a:=iJ.1 (this _ List.mem_cons_self);have b:=(bD (by decide)).1 (this (bG (decide (l[k].fr<=if k=0 then -1 else (l.getD (k-1) Od.zero).fr)) 11) (by simp))
   rw [decide_eq_false_iff_not] at b;exact ⟨a,by omega,this _ (by simp)⟩
  have eI:∀ k (SF:k+1<l.length),l[k].fr<l[k+1].fr:=fun k SF=>by
   have:=(hk (k+1) SF).2.1;rwa [if_neg (by omega),Nat.add_sub_cancel,List.getD_eq_getElem?_getD,Zc (by omega),Option.getD_some] at this
  refine ⟨by omega,fun k h=>(hk k h).1,fun i j hi hj yR=>?_,fun k h=>(zv.1 (hk k h).2.2).2⟩
  induction j with
  | zero=>omega
  | succ j ih =>
   have:=eI j hj;by_cases c:i=j
   ·subst c;exact this
   ·have:=ih (by omega) (by omega);omega
structure Le (r:Ro) (l:List Od) (i:Nat) (q:List Po):Prop where
 eq:OL r l i=r.wp q
 val:jl r q
theorem Le.next {r:Ro} (jk:gB r=0) {l:List Od} (hl:Oz r l) {i:Nat} (hi:i<l.length) {q:List Po} (h:Le r l i q) (h0:BB r l i=0):∃ q',Le r l (i+1) q'/\(∀ t∈l[i].tk,cG (r.wp q') t.de=PW (r.wp q) t)/\∀ y∈cz r,y ∉ l[i].tk.map Tk.de->cG (r.wp q') y=cG (r.wp q) y:=by
 unfold BB at h0;rw [h.eq,List.getD_eq_getElem?_getD,Zc hi,Option.getD_some] at h0;obtain ⟨q',e1,e2,_⟩:=FU h0;obtain ⟨k1,k2,k3⟩:=HT (R8 jk h.val) ((hl.tk i hi).wp q) e1;refine ⟨q',⟨?_,⟨k1.rr,k1.Lw,k1.out,k1.xw,k1.OT,k1.DQ,k1.use⟩⟩,k2,k3⟩;rw [OL,h.eq,List.getD_eq_getElem?_getD,Zc hi,Option.getD_some,e2];rfl
theorem HW {r:Ro} (jk:gB r=0) {l:List Od} (hl:Oz r l):∀ i,i<=l.length->(∀ j,j<i->BB r l j=0)->∃ q,Le r l i q
 | 0,_,_=>⟨r.po,rfl,(Di jk).val⟩
 | i + 1, hi, h => by
  obtain ⟨q,hq⟩:=HW jk hl i (by omega) fun j hj=>h j (by omega);obtain ⟨q',tJ,_⟩:=hq.next jk hl hi (h i (by omega));exact ⟨q',tJ⟩
def iK (l:List Od) (f:Int):Nat:=l.findIdx fun x=>decide (f<x.fr)
theorem P3 (l:List Od) (f:Int):iK l f<=l.length:=List.findIdx_le_length
def RW (b:Nat) (r:Ro) (s d t p:Value) (l:List Po):List a8:=[RB b r s d t p,J1 r s,J2 r d,J3 r t,PB p l]
theorem Tw {l:List Po} {i:Nat} (h:i<l.length) (cur:List Value):eu (jC l++cur) (i*3) 3=[.int .i64 l[i].lv,.string l[i].ou,.string l[i].ip]:=r6 (f:=Po.cells) (fun _=>rfl) h cur
theorem RR.wp {w:World} {r:Ro} {s d t p':Value} {po:List Po} (h1:Rd w s 2 (wW r.sr)) (h2:Rd w d 3 (wq r.de)) (h3:Rd w t 3 (u9 r.ti)) (h4:Rd w p' 3 (ud po)):RR w (r.wp po) s d t p':=⟨h1,h2,h3,h4⟩
set_option maxHeartbeats 2000000 in
theorem Mi {r:Ro} {s d t p:Value} {b:Nat} {w:World} {fp:List Nat} (jf:fp.Nodup) (hs:ch (hp w) (RW b r s d t p r.po) fp) (cL:np r) (Xn:r.po.length<=1000) :
  bh T_ 257 [.pointer (some ⟨b,0,none⟩)] w fp (fun x:Value×(Po->Bool)=>Sw r.po (cz r) x.2/\∀ q∈r.po,x.2 q=true->q.ou∈cz r\/∃ q'∈r.po,x.2 q'=true/\q'.lv=q.lv/\q'.ip=q.ou) (fun _=>.tuple #[]) (fun x=>RW b r s d t x.1 (r.po.filter x.2)):=by
 unfold RW RB PB at *;refine er func257 I I jf hs ?_;refine Jr<|Ja I<|Jn<|J0 ?_
 refine aY (ι:=Value×(Po->Bool)×Bool) (fun x=>Sw r.po (cz r) x.2.1/\(x.2.2=false->∀ q∈r.po,x.2.1 q=true->q.ou∈cz r\/∃ q'∈r.po,x.2.1 q'=true/\q'.lv=q.lv/\q'.ip=q.ou)) (fun x=>[(2,.bool x.2.2),(0,.pointer (some ⟨b,0,none⟩))])
  (fun x=>RW b r s d t x.1 (r.po.filter x.2.1)) (fun x=>2*(r.po.filter x.2.1).length+if x.2.2 then 1 else 0) ?_ ?_
 ·apply aK (p,(fun _=>true),true) ⟨Sw.start _ _,fun h=>by cases h⟩
  case hs1=>exact cj
  case ht=>
   show bn _ [JP b r s d t p,J1 r s,J2 r d,J3 r t,row 188 3 p (r.po.filter fun _=>true).length (jC (r.po.filter fun _=>true))] _
   rw [List.filter_eq_self.2 fun _ _=>rfl]
   exact .cons .here (.cons .here (.cons .here (.cons .here (.cons .here .nil))))
 rintro ⟨p',f,fl⟩ ⟨SP,tN⟩;dsimp only at SP tN ⊢;unfold RW RB PB;cases fl with
 | false =>
  (refine Jq<|Jr<|Jv I<|Jn<|bR (.of I) ?_;refine Jp<|Jl<|Jo ?_)
  first | with_reducible apply aN | with_reducible apply aO
  case he=>exact qD I
  case hR=>
   intro w' aq;exact aG (p',f) ⟨SP,tN I⟩ (by exact .cons .here (.cons .here (.cons .here (.cons .here (.cons .here .nil))))) aq I
 | true =>
  (refine Jq<|Jr<|Jv I<|Jn<|cE (.of I) ?_;refine Jk<|J0<|Jr<|Ja I<|Ji<|Jv I<|ab (ee (.of I)) I ?_;refine bK I I ae ?_;refine JL I .here I ?_)
  have adP:(r.po.filter f).length<=r.po.length:=List.length_filter_le _ _;refine JN bN I (fun w1 aS=>GK (cX aS fg I) (by omega)) ?_;intro cv _;dsimp only [id_eq,Zb,Za];refine aW (v:=cv) (by exact .here) fun ca cc e=>?_;subst e;refine JI I<|Jv I<|Jn<|J0 ?_;have mF:∀ k (h:k<(r.po.filter f).length),(jC (r.po.filter f)).length=(r.po.filter f).length*3:=fun _ _=>jF _
  refine aY (ι:=Nat×Value×(Po->Bool)×Bool) (fun x=>x.1<=(r.po.filter f).length/\Sw r.po (cz r) x.2.2.1/\(x.2.2.2=false->x.2.2.1=f/\∀ i (hi:i<(r.po.filter f).length),i<x.1->(r.po.filter f)[i].ou∈cz r\/nZ (r.po.filter f) (r.po.filter f)[i].lv (r.po.filter f)[i].ou=true)/\(x.2.2.2=true->(r.po.filter x.2.2.1).length<(r.po.filter f).length))
   (fun x=>[(12,.int .i64 (x.1:Nat)),(11,.int .i64 ((r.po.filter f).length:Nat)),(10,.slice ca (r.po.filter f).length cc),(2,.bool x.2.2.2),(0,.pointer (some ⟨b,0,none⟩))])
   (fun x=>[JP b r s d t (x.2.1),J1 r s,J2 r d,J3 r t,row 188 3 x.2.1 (r.po.filter x.2.2.1).length (jC (r.po.filter x.2.2.1)),row 188 3 (.slice ca (r.po.filter f).length cc) (r.po.filter f).length (jC (r.po.filter f))]) (fun x=>(r.po.filter f).length-x.1) ?_ ?_
  ·apply aK (0,p',f,false) ⟨Zi _,SP,fun _=>⟨I,fun i _ h=>absurd h (Nat.not_lt_zero i)⟩,fun h=>by cases h⟩
   case hs1=>exact cj
   case ht=>exact oA
  rintro ⟨k,p2,f2,fl⟩ ⟨hk,NL,J8,Aj⟩;dsimp only at hk NL J8 Aj ⊢;by_cases aL:k<(r.po.filter f).length
  ·refine Jr<|JA I<|Jn<|Jq<|Jd I fun ar=>Jk<|Jq<|J0<|Jr ?_;refine c7 (E:=188) (sz:=3) (v:=.slice ca (r.po.filter f).length cc) fy (by omega) fun g iu cur e nV BW BS tL=>?_;cases e;have c1:=Tw aL cur
   (refine ab (az (.of I) (.of I) I (by omega) ar ba) I ?_;refine ab (cm (.of I) .here c1 I) I ?_;refine Jz I I fun _ _=>au (.of I) (.of I) .here I I (fx I I I) (bF I) an ?_;refine Jn<|Jq ?_)
   generalize vO:(r.po.filter f)[k].lv=pv;generalize rh:(r.po.filter f)[k].ou=po;generalize O5:(r.po.filter f)[k].ip=pi;have SI:∀ w',RR w' (r.wp (r.po.filter f2)) s d t p2->aj T_ 155 [.agg #[.int .i64 r.lv,.int .i64 r.ma,s,d,t,p2],.string po] w' (.int .i64 (bd (cz r) po)):=fun w' h=>fw (r:=r.wp (r.po.filter f2)) po h
   have hu0:∀ w',RR w' (r.wp (r.po.filter f2)) s d t p2->aj T_ 239 [.agg #[.int .i64 r.lv,.int .i64 r.ma,s,d,t,p2],.int .i64 pv,.string po] w' (.bool (nZ (r.po.filter f2) pv po)):=fun w' h=>Hk (r:=r.wp (r.po.filter f2)) pv po h
   with_reducible refine cW 18 (by kernel_rfl) ?_
   (refine iv I I ?_;refine aA (ee (.of I)) I ?_;refine aA (cr bT) I ?_;refine mG I I ae ?_;refine aA (gD .here) I ?_;refine c6 aX I (fun w' aq=>(SI w' (RR.wp (du aq db I) (dw aq fg I) (dq aq fy I) (cX aq re I)))) ?_;refine aA (mm (.of I) (.of I)) I ?_;refine iv I I ?_;refine dR I I inferInstance (fun hg br=>(aZ (.of I))) I ?_;refine dR I I inferInstance (fun hg br=>(ee (.bL hg I))) I ?_;refine dR I I inferInstance (fun hg br=>(cm (.bL hg I) bT an (by rfl))) I ?_;refine dR I I inferInstance (fun hg br=>(ao (.of I) ae)) I ?_;refine dR I I inferInstance (fun hg br=>(ag (.bL hg I) (At.lit .here I))) I ?_;refine dR I I inferInstance (fun hg br=>(ao (.of I) ae)) I ?_;refine dR I I inferInstance (fun hg br=>(ag (.bL hg I) (At.lit .here I))) I ?_;refine wK I I (fun hg=>(bj (.of I) (.cons (.bL hg I) (.cons (.bL hg I) (.cons (.bL hg I) .nil))) inferInstance fL)) I (fun hg w' aq=>(hu0 w' (RR.wp (du aq db I) (dw aq fg I) (dq aq fy I) (cX aq re I)))) ?_;refine dR I I inferInstance (fun hg br=>(eY (.bL hg I))) I ?_;refine aA (bH (.of I) I) I ?_)
   with_reducible refine cZ ?_
   (refine Jn<|oz I (fun ar=>?_) fun ar=>?_;refine Jr<|Jv I<|bK I I ae ?_;refine JL I .here I<|bK I I ae ?_;refine JL I .here I ?_;rotate_left;refine Jw<|Jj<|Jt<|Jg<|JB I (by omega)<|Jv I<|Jn ?_;rotate_right)
   ·obtain ⟨SH,WX⟩:bd (cz r) po<0/\nZ (r.po.filter f2) pv po=false:=by simpa using ar
    with_reducible apply gp (As:=[JP b r s d t p2,row 188 3 p2 (r.po.filter f2).length (jC (r.po.filter f2))])
    case hr=>exact dH
    case hd=>rfl
    case ht=>exact .cons bT (.cons fy .nil)
    case hc=>
     intro w1 AS aS vQ hs1 CF kU;exact xP (r:=r) (s:=s) (d:=d) (t:=t) (p:=p2) (b:=b) (l:=r.po.filter f2) pv po vQ hs1 (by have:=List.length_filter_le f2 r.po;omega)
    intro p3 _;dsimp only [id_eq,Zb,Za];unfold RB PB;rw [tT];refine Jn<|Jg<|Ja I<|Jx<|Jj<|Jt<|Jg<|JB I (by omega)<|Jv I<|Jn ?_;refine dx (E:=188) (sz:=3) (g:=g) db nV BW BS tL ?_;apply aJ (k+1,p3,(fun x=>f2 x&&!yD pv po x),true) ⟨by show k+1<=_;omega,NL.step (cq.1 SH) (fun q hq hf e=>by
     have:=Ek.2 ⟨q,List.mem_filter.2 ⟨hq,hf⟩,e⟩;rw [WX] at this;cases this),(fun h=>by cases h),fun _=>by
      show (r.po.filter fun x=>f2 x&&!yD pv po x).length<_
      rw [<- tT];cases fl with
      | true=>exact Nat.lt_of_le_of_lt (List.length_filter_le _ _) (Aj rfl)
      | false =>
       obtain ⟨rfl,_⟩:=J8 rfl;refine List.length_filter_lt_length_iff_exists.2 ⟨_,Zj aL,?_⟩;unfold yD;rw [vO,rh];simp⟩ (by show (r.po.filter f).length-(k+1)<(r.po.filter f).length-k;omega)
    case hs1=>exact cj
    case ht=>exact oA
   ·have SJ:¬ (decide (bd (cz r) po<0)&&!nZ (r.po.filter f2) pv po)=true:=by
     simp only [Bool.and_eq_true,decide_eq_true_eq,Bool.not_eq_true',not_and,Bool.not_eq_false] at ar ⊢;exact fun c=>ar.resolve_left (fun q=>q c)
    refine dx (E:=188) (sz:=3) (g:=g) (by exact Take.there .here) nV BW BS tL ?_;apply aJ (k+1,p2,f2,fl) ⟨by show k+1<=_;omega,NL,(fun h=>⟨(J8 h).1,fun i hi VZ=>by
     by_cases e:i=k
     ·subst e;rw [vO,rh];obtain ⟨e1,_⟩:=J8 h;rw [e1] at SJ;by_cases c:bd (cz r) po<0
      ·right
       cases c2:nZ (r.po.filter f) pv po with
       | true=>rfl
       | false=>exact absurd (show (decide (bd (cz r) po<0)&&!nZ (r.po.filter f) pv po)=true by rw [c2,decide_eq_true c];rfl) SJ
      ·exact .inl (Classical.byContradiction fun q=>c (cq.2 q))
     ·exact (J8 h).2 i hi (show i<k by have:i<k+1:=VZ;omega)⟩),Aj⟩ (by show (r.po.filter f).length-(k+1)<(r.po.filter f).length-k;omega)
    case hs1=>exact cj
    case ht=>exact .cons bT (.cons bT (.cons bT (.cons bT (.cons bT (.cons .here .nil)))))
  ·have e:k=(r.po.filter f).length:=by omega
   subst e;refine Jr<|JA I<|Jn<|Jq<|Jc I fun ar=>Jp<|Jl<|Jo<|Jj<|Jt ?_;apply aJ (p2,f2,fl) ⟨NL,fun h q hq hf=>by
    obtain ⟨rfl,h2⟩:=J8 h;obtain ⟨i,hi,rfl⟩:=List.getElem_of_mem (List.mem_filter.2 ⟨hq,hf⟩);rcases h2 i hi hi with e | e
    ·exact .inl e
    ·obtain ⟨q',tJ,e'⟩:=Ek.1 e;obtain ⟨x1,x2⟩:=List.mem_filter.1 tJ;exact .inr ⟨q',x1,x2,e'⟩⟩ (by
    show 2*(r.po.filter f2).length+(if fl then 1 else 0)<2*(r.po.filter f).length+(if true then 1 else 0)
    cases fl with
    | true=>have:=Aj rfl;simp only [if_true];omega
    | false=>rw [(J8 rfl).1];simp)
   case hs1=>exact cj
   case ht=>exact oA
end Go.Proofs.A1
namespace Go.SL
open Go
section
variable {P:Program} {r:Option Nat} {c:Cx} {D:List Nat} {sl:aI} {hs hs' hs2:List a8} {Q:Exit->Act->World->Prop} {ops:Array Oper} {d:Nat} {dst:Option Tmp} {ty:TypeId} {pos:String} {af:Array Edge} {g:Option (Nat×Bool)} {rest:List Oper} {κ:Type} [DecidableEq κ] {kv:κ->Value}
theorem FM {X:Act->World->Prop} {b:Nat} {l:List (κ×Value)} (ht:Take hs (mp kv b l) hs') (k:∀ es ck,IC kv l es ck->Tr c D sl (bC b (.map es ck)::hs') X):Tr c D sl hs X:=fun a w a7=>by
 have hm:=a7.mem.take (ht.append _);obtain ⟨kk,fp,hn,⟨f1,f2,rfl,⟨e,es,ck,h1,h2⟩,h3⟩,Aj⟩:=hm;exact k es ck h2 a w (a7.heap ⟨kk,f1++f2,hn,⟨f1,f2,I,⟨e,h1⟩,h3⟩,Aj⟩)
end
end Go.SL
namespace Go.Proofs.A1
open Go Go.SL
open Tryz
open Tryz renaming prog->T_
theorem Cn {r:Ro} {v:Int} {i:Nat}:∀ {q:List Nat} {po:List Po} {x:ByteArray},q6 r v po x (q++[i])=(if gC (q6 r v po x q).1 v (dG r i) then (q6 r v po x q).1 else (q6 r v po x q).1++[⟨v,dG r i,(q6 r v po x q).2⟩],dG r i)
 | [],po,x=>rfl
 | j :: q, po, x => by
  rw [Zb,q6,q6];exact Cn
theorem AF {r:Ro} {v:Int}:∀ (q:List Nat) (po:List Po) (x:ByteArray),(q6 r v po x q).1.length<=po.length+q.length
 | [],po,x=>Nat.le_refl _
 | j :: q, po, x => by
  rw [q6];refine Nat.le_trans (AF q _ _) ?_;rw [List.length_cons];split
  ·omega
  ·rw [Zg,List.length_singleton];omega
theorem Fy {r:Ro} {v:Int}:∀ (q:List Nat) (po:List Po) (x:ByteArray),(∀ i∈q,i<r.ti.length)->(∀ p∈po,p.ou∈cz r\/p.ou∈cd r)->∀ p∈(q6 r v po x q).1,p.ou∈cz r\/p.ou∈cd r
 | [],po,x,_,h=>h
 | j :: q, po, x, hi, h => by
  rw [q6];refine Fy q _ _ (fun i AO=>hi i (List.mem_cons_of_mem _ AO)) fun p hp=>?_;split at hp
  ·exact h p hp
  ·rcases List.mem_append.1 hp with hp | hp
   ·exact h p hp
   ·rw [List.mem_singleton.1 hp];exact .inr (pI (hi j List.mem_cons_self))
theorem Ta {l:List Ti} {i:Nat} (h:i<l.length) (cur:List Value):eu (qH l++cur) (i*3) 3=[.string l[i].nm,.int .i64 l[i].fr,.int .i64 l[i].to]:=r6 (f:=Ti.cells) (fun _=>rfl) h cur
theorem P8 {l:List Ti} {i:Nat} (h:i<l.length) (cur:List Value):(qH l++cur)[i*3]? = some (.string l[i].nm):=by
 have:=tX (cs:=qH l++cur) (o:=i*3) (n:=3) (j:=0) (by omega);rw [Ta h cur,Nat.add_zero] at this;exact this.symm
theorem EG (l:List Po) (q:Po):jC (l++[q])=jC l++[.int .i64 q.lv,.string q.ou,.string q.ip]:=by
 unfold jC ud;simp [Po.cells]
theorem Qr {r:Ro} {x y:Po}:Qs r x y<0↔qy r x y=true:=by
 rw [uG];unfold qy;simp
set_option maxHeartbeats 2000000 in
theorem Td {r:Ro} {s d t p:Value} {b:Nat} {po:List Po} {xv:Value} {xp:List Nat} (xf:Nat) (v:Int) (so de:ByteArray) {w:World} {fp:List Nat} (jf:fp.Nodup) (hs:ch (hp w) [RB b r s d t p,J1 r s,J2 r d,J3 r t,PB p po,row 3 1 xv xp.length (gz xp)] fp)
  (cL:np r) (Xn:po.length<=1000) (hxf:xp.length<=100) (hd:CG r) (hi:∀ i∈xp,i<r.ti.length) (Gk:∀ q∈po,q.ou∈cz r\/q.ou∈cd r) (lM:de∈cz r) (hV:(lJ r po v so xp de).Pairwise (fun a b=>qy r a b=true)) :
  bh T_ 258 [.pointer (some ⟨b,0,none⟩),.int .i64 v,.string so,.agg #[xv,.int .i64 (xf:Nat)],.string de] w fp (fun _:Value=>True) (fun _=>.tuple #[]) (fun p'=>[RB b r s d t p',J1 r s,J2 r d,J3 r t,PB p' (lJ r po v so xp de),row 3 1 xv xp.length (gz xp)]):=by
 unfold RB PB at *;refine er func258 I I jf hs ?_;refine aW (v:=xv) fy fun xa xc e=>?_;subst e;refine aW (v:=t) db fun ta tc e=>?_;subst e;refine aW (v:=p) fg fun pa pc e=>?_;subst e
 (refine Jr<|Jy I I fun _ _=>Ji<|Jv I<|Ja I<|Jn<|Jq<|Jr<|bK I I ae ?_;refine JL I .here I<|JI I<|Jv I<|Jn<|J0 ?_)
 rename_i b8 ZF
 refine aY (ι:=Nat×Value) (fun y=>y.1<=xp.length) (fun y=>[(19,.int .i64 (y.1:Nat)),(18,.int .i64 (xp.length:Nat)),(17,.slice xa xp.length xc),(10,.string (q6 r v po so (xp.take y.1)).2),(0,.pointer (some ⟨b,0,none⟩)),(1,.int .i64 v),(4,.string de)])
  (fun y=>[JP b r s d (.slice ta r.ti.length tc) (y.2),J1 r s,J2 r d,row 187 3 (.slice ta r.ti.length tc) r.ti.length (qH r.ti),row 188 3 y.2 (q6 r v po so (xp.take y.1)).1.length (jC (q6 r v po so (xp.take y.1)).1),row 3 1 (.slice xa xp.length xc) xp.length (gz xp)]) (fun y=>xp.length-y.1) ?_ ?_
 ·apply aK (0,.slice pa po.length pc) (Zi _)
  case hs1=>
   show lF _ [(19,.int .i64 (0:Nat)),(18,.int .i64 (xp.length:Nat)),(17,.slice xa xp.length xc),(10,.string so),(0,.pointer (some ⟨b,0,none⟩)),(1,.int .i64 v),(4,.string de)];exact .cons I (.cons I (.cons I (.cons I (.cons I (.cons I (.cons I .nil))))))
  case ht=>
   exact .cons (.there .here) (.cons (.there .here) (.cons (.there .here) (.cons (.there .here) (.cons (.there .here) (.cons (.there .here) .nil)))))
 rintro ⟨k,pv⟩ hk;dsimp only at hk ⊢;have NK:=AF (r:=r) (v:=v) (xp.take k) po so;rw [List.length_take] at NK;by_cases aL:k<xp.length
 ·have rR:q6 r v po so (xp.take (k+1))=(if gC (q6 r v po so (xp.take k)).1 v (dG r xp[k]) then (q6 r v po so (xp.take k)).1 else (q6 r v po so (xp.take k)).1++[⟨v,dG r xp[k],(q6 r v po so (xp.take k)).2⟩],dG r xp[k]):=by
   rw [List.take_succ_eq_append_getElem aL,Cn]
  have VY:=hi _ (Zj aL);have tI:dG r xp[k]=(r.ti[xp[k]]).nm:=by unfold dG;rw [lV VY]
  generalize q6 r v po so (xp.take k)=A at rR NK ⊢;obtain ⟨q,la⟩:=A;dsimp only at rR NK ⊢;refine aW (E:=188) (sz:=3) (v:=pv) fg fun va vc e=>?_;subst e;refine Jr<|JA I<|Jn<|Jq<|Jd I fun ar=>Jk<|Jq<|J0<|Jr ?_;refine c7 (E:=3) (sz:=1) (v:=.slice xa xp.length xc) fy (by omega) fun g1 c1 u1 e kc aS hz1 Rl=>?_;cases e;have a1:=BG aL u1;generalize hxk:xp[k]=ik at *
  (refine ab (az (.of I) (.of I) I (by omega) ar ba) I ?_;refine ab (ag (.of I) (At.lP .here a1)) I ?_;refine Ja I<|Ji<|Jv I<|ab (ee (.of I)) I ?_;refine bK I I ae ?_;refine JL I (.there .here) I<|Jv I ?_)
  refine c7 (E:=187) (sz:=3) (v:=.slice ta r.ti.length tc) fg (by omega) fun g2 c2 u2 e jL k9 hz2 E2=>?_;cases e;have a2:=P8 VY u2;rw [<- tI] at a2
  (refine ab (az (.of I) (.of I) I (by omega) (by omega) ba) I ?_;refine bK I I ae ?_;refine ab (ag (.of I) (At.lP .here a2)) I ?_;refine Ja I<|Jn<|Jq<|Jr<|Jv I<|ab (ee (.of I)) I ?_;refine ab (cr bT) I ?_;refine Jv I<|Jv I ?_)
  refine dx (E:=187) (sz:=3) (g:=g2) (by exact .here) jL k9 hz2 E2 ?_;refine dx (E:=3) (sz:=1) (g:=g1) (by exact Take.there .here) kc aS hz1 Rl ?_;refine ai dH I (fun w' aq=>pz (r:=r.wp q) v (dG r ik) (RR.wp (du aq db I) (dw aq fg I) (dq aq (by exact Take.there .here) I) (cX aq fy I))) ?_;have mA:gC (r.wp q).po v (dG r ik)=gC q v (dG r ik):=rfl;rw [mA];have SC:(jC q).length=q.length*3:=jF q;cases tP:gC q v (dG r ik) with
  | false =>
   rw [tP,if_neg (by decide)] at rR;have Xp:jC (q++[⟨v,dG r ik,la⟩])=jC q++[.int .i64 v,.string (dG r ik),.string la]:=EG _ _;have vO:(q++[(⟨v,dG r ik,la⟩:Po)]).length=q.length+1:=by simp
   (refine JH I<|Jn<|cE (.of I) ?_;refine Jg<|Jv I<|Jv I<|ab (ee (.of I)) I ?_;refine bK I I ae ?_;refine JL I bT I<|Jv I<|Jv I<|Jv I<|ab (aT (.cons (.of I) (.cons (.of I) (.cons (.of I) .nil))) an) I ?_;refine bb (bu (.cons (.of I) .nil) I I bW bW an) I fun _ _=>?_)
   refine bE (.of I) (.of I) re .here an (by rfl) (fx I I I) (by rfl) (by rfl) (by rfl) eV (by rfl) ?_;intro v';refine aW (by exact .here) fun a' iu e=>?_;subst e
   (refine ab (ee (.of I)) I ?_;refine bK I I ae ?_;refine au (.of I) (.of I) fg I I (eF I) (bF I) an ?_;refine Jn<|Jg<|Jv I<|Ja I<|Jx<|Jj<|Jt<|Jg<|JB I (by omega)<|Jv I<|Jn ?_)
   apply aJ (k+1,.slice a' (q.length+1) iu) (by show k+1<=_;omega) (by show xp.length-(k+1)<xp.length-k;omega)
   case hs1=>
    dsimp only;rw [rR];exact .cons I (.cons I (.cons I (.cons I (.cons I (.cons I (.cons I .nil))))))
   case ht=>
    dsimp only;rw [rR];dsimp only;rw [vO,Xp];exact .cons .here (.cons fg (.cons fg (.cons db (.cons .here (.cons (.there .here) .nil)))))
  | true =>
   rw [tP,if_pos I] at rR
   (refine JH I<|Jn<|bR (.of I) ?_;refine Jk<|Jg<|Jv I<|Ja I<|Jx<|Jj<|Jt<|Jg<|JB I (by omega)<|Jv I<|Jn ?_)
   apply aJ (k+1,.slice va q.length vc) (by show k+1<=_;omega) (by show xp.length-(k+1)<xp.length-k;omega)
   case hs1=>
    dsimp only;rw [rR];exact .cons I (.cons I (.cons I (.cons I (.cons I (.cons I (.cons I .nil))))))
   case ht=>
    dsimp only;rw [rR];exact .cons bT (.cons bT (.cons bT (.cons (.there .here) (.cons (.there .here) (.cons .here .nil)))))
 ·have e:k=xp.length:=by omega
  subst e;rw [List.take_length] at *;refine aW (E:=188) (sz:=3) (v:=pv) fg fun va vc e=>?_;subst e
  (refine Jr<|JA I<|Jn<|Jq<|Jc I fun ar=>Jp<|Jl<|Jo<|Jt<|Jr<|Jv I<|Jv I<|ab (ee (.of I)) I ?_;refine bK I I ae ?_;refine JL I .here I<|Jv I<|Jv I<|Jv I<|ab (aT (.cons (.of I) (.cons (.of I) (.cons (.of I) .nil))) an) I ?_;refine bb (bu (.cons (.of I) .nil) I I bW bW an) I fun _ _=>?_)
  refine bE (.of I) (.of I) fy .here an (by rfl) (fx I I I) (by rfl) (by rfl) (by rfl) eV (by rfl) ?_;intro v';refine aW (by exact .here) fun a' iu e=>?_;subst e
  (refine ab (ee (.of I)) I ?_;refine bK I I ae ?_;refine au (.of I) (.of I) bT I I (eF I) (bF I) an ?_;refine Ji<|Jv I<|ab (ee (.of I)) I ?_;refine ab (cr .here) I ?_)
  have hAo:=Fy (r:=r) (v:=v) xp po so hi Gk;have mw:∀ S:List Po,S.Perm ((q6 r v po so xp).1++[⟨v,de,(q6 r v po so xp).2⟩])->S.Pairwise (fun a b=>¬ Qs r b a<0)->S=lJ r po v so xp de:=fun S h1 h2=>HO hV h1 (h2.imp fun h=>fun c=>h (Qr.2 c))
  have ad9:=AF (r:=r) (v:=v) xp po so;generalize q6 r v po so xp=A at *;obtain ⟨q,la⟩:=A;dsimp only at *;have Xp:jC (q++[⟨v,de,la⟩])=jC q++[.int .i64 v,.string de,.string la]:=EG _ _;have vO:(q++[(⟨v,de,la⟩:Po)]).length=q.length+1:=by simp
  rw [<- Xp,<- vO];have iY:∀ y∈q++[(⟨v,de,la⟩:Po)],fI (ew r) y.ou=true:=fun y hy=>by
   rw [ef];rcases List.mem_append.1 hy with hy | hy
   ·exact K5 ((hAo y hy).elim (fun e=>.inr (.inl e)) fun e=>.inr (.inr e))
   ·rw [List.mem_singleton.1 hy];exact K5 (.inr (.inl lM))
  have hlen:(q++[(⟨v,de,la⟩:Po)]).length<=100000:=by omega
  generalize q++[(⟨v,de,la⟩:Po)]=L at *;refine JN bN I (fun w1 aS=>EF (r:=r.wp L) (RR.wp (du aS db I) (dw aS fg I) (dq aS fy I) (cX aS (by exact Take.there .here) I)) (by have:=cL;unfold np at this;show r.de.length+r.ti.length<=_;omega)) ?_;intro bm _;dsimp only [id_eq,Zb,Za];rw [show oT (r.wp L)=oT r from I]
  (refine Jz I I fun _ _=>au (.of I) (.of I) .here I I (eF I) (bF I) an ?_;refine Jn<|Jg<|Jv I<|ab (ee (.of I)) I ?_;refine bK I I ae ?_;refine JL I bT I<|ab (bo .nil (.cons (.of I) .nil)) I ?_)
  rename_i b61 adZ LI ad7;refine FM (b:=bm) (l:=oT r) (kv:=fun s:ByteArray=>Value.string s) (by exact Take.there .here) fun es ck dU=>?_
  with_reducible apply gp (As:=[row 188 3 (.slice a' L.length iu) L.length (jC L)])
  case hr=>exact aX
  case hd=>rfl
  case ht=>exact .cons db .nil
  case hc=>
   intro w1 AS aS vQ hs1 CF kU;have Yx:LI ∉ AS:=kU LI _ _ (by exact Take.there .here);have V7:bm ∉ AS:=kU bm _ _ (by exact .here);have f14:w1.cell? ⟨LI,0,none⟩=some (.map (some bm)):=At.lit (by exact Take.there .here) I w1 aS;exact HK (r:=r) (l:=L) hs1 hd iY (by omega) f14 ⟨es,ck,aS.bC (by exact .here),dU⟩ Yx V7
  rintro S ⟨Yo,SP⟩;rw [mw S Yo SP];have hlS:S.length=L.length:=Yo.length_eq;dsimp only [id_eq,Zb,Za];unfold PB;have hzl:(lJ r po v so xp de).length=L.length:=by rw [<- mw S Yo SP];exact hlS
  refine u4 ?_
  first | with_reducible apply aN | with_reducible apply aO
  case he=>exact qD I
  case hR=>
   intro w' aq;exact aG (.slice a' L.length iu) trivial (by exact .cons db (.cons fg (.cons fg (.cons fg (.cons .here (.cons db .nil)))))) aq I
end Go.Proofs.A1
namespace Go.SL
open Go
theorem l6 {P:Program} {c:Cx} {sl:aI} {hs hs':List a8} {fn:Func} {s t u:Tmp} {T:TypeId} {b o n:Nat} {cs vs:List Value} {E:TypeId} {fz:Nat×Nat} {x y:Value} (h:fn.results=#[.cell t T,.tmp s,.tmp u]) (hT:Ty P T true n) (hp:cJ sl t=some (.pointer (some ⟨b,o,none⟩))) (ht:Take hs (SL.bC b (.cells cs.toArray E fz)) hs') (hv:eu cs o n=vs) (hl:vs.length=n) (hx:cJ sl s=some x) (hy:cJ sl u=some y):Ends P fn c sl hs (.tuple #[.agg vs.toArray,x,y]):=
 PA (xs:=[.cell t T,.tmp s,.tmp u]) (vs:=[.agg vs.toArray,x,y]) h (G4.cons (RV.cell hp (IJ (eU.bC ht hv) hl)) (G4.cons (RV.tmp hx) (G4.cons (RV.tmp hy) G4.nil))) (by simp)
end Go.SL
namespace Go.Proofs.A1
open Go Go.SL
open Tryz
open Tryz renaming prog->T_
def IM (r:Ro) (t:Tk):Bool:=(r.de.getD (bd (cz r) t.de).toNat ⟨⟨#[]⟩,0,false⟩).pr
theorem M4 {r:Ro} {s d t p:Value} {x:hP} {b:Nat} {w:World} (h:RR w r s d t p) (hA:BR w b (RC r s d t p)) (hx:x.tk.de∈cz r):aj T_ 253 [.agg x.cells.toArray,.pointer (some ⟨b,0,none⟩)] w (.bool (IM r x.tk)):=by
 have h1:=Rd.one h.sr;have h3:=Rd.one h.ti;have h4:=Rd.one h.po;have lM:=h.de;obtain ⟨a3,pq,b3,o3,rfl,lo,fD,qA,nW⟩:=lM;rw [bZ] at *;unfold maxLen at fD;obtain ⟨j0,tM⟩:∃ i:Nat,bd (cz r) x.tk.de=(i:Nat):=⟨(bd (cz r) x.tk.de).toNat,by have:=di hx;omega⟩;have xz:j0<r.de.length:=by
  obtain ⟨hl,_⟩:=eD (l:=cz r) (s:=x.tk.de) (by omega);rw [tM,Int.toNat_natCast] at hl;unfold cz at hl;rwa [Zd] at hl
 have e0:IM r x.tk=(r.de[j0]).pr:=by unfold IM;rw [tM,Int.toNat_natCast,List.getD_eq_getElem?_getD,Zc xz];rfl
 have cM:=qA (gS xz);have aF:=(nW j0 _ (fu xz)).2;unfold De.cells at aF;have c2:=aF 2 _ I;have SI:∀ w',aD [] w w'->aj T_ 155 [.agg #[.int .i64 r.lv,.int .i64 r.ma,s,.slice a3 r.de.length pq,t,p],.string x.tk.de] w' (.int .i64 (j0:Nat)):=fun w' hk=>tM ▸ fw x.tk.de (h.keeps hk)
 have f3:w.cell? ⟨b,3,none⟩=some (.slice a3 r.de.length pq):=hA 3 _ I;have kp:∀ (j:Nat) (u:Value),[Value.int .i64 r.lv,.int .i64 r.ma,s,.slice a3 r.de.length pq,t,p][j]? = some u->w.cell? ⟨b,0+j,none⟩=some u:=hA;clear hA;rw [e0];unfold hP.cells;refine ah func253 I I ?_;refine Jr<|Jy I I fun _ _=>Ja I<|Jn<|Jq ?_
 with_reducible refine cW 10 (by kernel_rfl) ?_
 (refine mG I I ae ?_;refine aA (ag (.of I) (At.base f3 I)) I ?_;refine aA (iI (eU.base kp I)) I ?_;refine mG I I ae ?_;refine aA (gD .here) I ?_;refine c6 aX I (fun w' aq=>(SI w' (Mem.keeps aq))) ?_;refine aA (az (.of I) (.of I) cM (by omega) (by omega) ba) I ?_;refine mG I I ae ?_;refine aA (ag (.of I) (At.base c2 I)) I ?_;refine aA (cF (.of I)) I ?_)
 with_reducible refine cZ ?_
 refine Jn<|Je<|JT ?_
 rfl
theorem NC {r:Ro} {s d t p:Value} {x:hP} {b:Nat} {w:World} (h:RR w r s d t p) (hA:BR w b (RC r s d t p)) (BZ:r.lv<=1000) (cL:r.ti.length<=1000000):bh T_ 255 [.agg x.cells.toArray,.pointer (some ⟨b,0,none⟩)] w [] (fun _:Value=>True) id (fun v=>[row 9 1 v r.lv.toNat (aM (cG r x.tk.de))]):=by
 obtain ⟨h1,h2,h3,h4⟩:=h.one;have kp:∀ (j:Nat) (u:Value),[Value.int .i64 r.lv,.int .i64 r.ma,s,d,t,p][j]? = some u->w.cell? ⟨b,0+j,none⟩=some u:=hA;clear hA;unfold hP.cells;refine aR func255 I I ?_
 (refine Jr<|Jy I I fun _ _=>Ja I<|Ji<|ab (iI (eU.base kp I)) I ?_;refine bK I I ae ?_;refine JL I .here I ?_)
 refine JN aX I (fun w1 aS=>vV x.tk.de (h.keeps aS.keeps) BZ cL) ?_;intro v _;dsimp only [id_eq,Zb,Za];refine aW (v:=v) (by exact .here) fun va vc e=>?_;subst e;refine Ja I<|Jn<|Je ?_
 first | with_reducible apply aN | with_reducible apply aO
 case he=>exact dJ I I
 case hR=>
  intro w' aq;exact aG (.slice va r.lv.toNat vc) trivial (by exact .cons .here .nil) aq I
theorem QJ {kv:Value} {l:List hP} {g:hP->List ByteArray} {n:Nat} {f:FuncId} {first cap:List Value} [bU T_ f] {w:World} (h:Rd w kv 2 (jQ l)) (hM:xe w l) (hn:l.length<=1000) (hg:∀ x∈l,(g x).length=n)
  (cn:∀ x∈l,∀ w',aD [] w w'->bh T_ f (first++[.agg x.cells.toArray]++cap) w' [] (fun _:Value=>True) id (fun v=>[row 9 1 v n (aM (g x))])) :
  bh T_ 254 [kv,.func (.func f) first.toArray cap.toArray] w [] (fun x:Value×List Value=>x.2.length=l.length) (fun x=>x.1) (fun x=>[row 32 1 x.1 l.length x.2,jn 9 x.2 (l.map fun y=>aM (g y))]):=by
 obtain ⟨a,cp,b,o,rfl,c8,bV,ha,hc⟩:=h;rw [eX] at *;unfold maxLen at bV;refine aR func254 I I ?_;refine Jr<|Ja I<|Ji<|Ja I<|Jn<|Jq<|Jr<|Jv I<|JI I<|Jv I<|Jn<|J0 ?_;refine aP 32 1 ?_;refine jY 9 ?_
 refine aY (ι:=Nat×Value×List Value) (fun x=>x.1<=l.length/\x.2.2.length=x.1) (fun x=>[(10,.int .i64 (x.1:Nat)),(9,.int .i64 (l.length:Nat)),(8,.slice a l.length cp),(5,x.2.1),(1,.func (.func f) first.toArray cap.toArray)])
  (fun x=>[row 32 1 x.2.1 x.1 x.2.2,jn 9 x.2.2 ((l.take x.1).map fun y=>aM (g y))]) (fun x=>l.length-x.1) ?_ ?_
 ·apply aK (0,.slice none 0 0,[]) ⟨Zi _,I⟩
  case hs1=>exact cj
  case ht=>
   exact .cons (.there .here) (.cons .here .nil)
 rintro ⟨k,v,vs⟩ ⟨hk,o6⟩;dsimp only at hk o6 ⊢;by_cases aL:k<l.length
 ·have cM:=ha (nr aL);have aF:=(hc k _ (kM aL)).2;have iH:=cn _ (Zj aL);have LD:=hg _ (Zj aL);have ir:=Rd.one (hM _ (Zj aL));have htk:(l.take (k+1)).map (fun y=>aM (g y))=((l.take k).map fun y=>aM (g y))++[aM (g l[k])]:=by
   rw [List.take_succ_eq_append_getElem aL,List.map_append];rfl
  have wZ:((l.take k).map fun y=>aM (g y)).length=k:=by rw [Zd,List.length_take];omega
  unfold hP.cells at aF iH;refine aW (E:=32) (sz:=1) (v:=v) (by exact .here) fun va vc e=>?_;subst e
  (refine Jr<|JA I<|Jn<|Jq<|Jd I fun ar=>Jk<|Jq<|J0<|Jr<|ab (gj cM ar) I ?_;refine ab (iI (eU.base aF I)) I ?_;refine Jz I I fun _ _=>au (.of I) (.of I) .here I I (ie I ir) (bF I) an ?_;refine Jn<|Jg<|Jv I<|Jv I<|ab (cr .here) I ?_)
  refine JN bN I (fun w1 aS=>iH w1 aS.keeps) ?_;intro hv _;dsimp only [id_eq,Zb,Za];refine aW (E:=9) (sz:=1) (v:=hv) (by exact .here) fun iT jL e=>?_;subst e;refine bb (aB (.cons (.of I) .nil) I I I I) I (fun _ _=>?_);refine bE (.of I) (.of I) db .here an (by rfl) (eF I) (by rfl) (by rfl) (by rfl) eV (by rfl) ?_;intro v';refine Ja I<|Jx<|Jj<|Jt<|Jg<|JB I (by omega)<|Jv I<|Jn ?_;refine lg (E:=9) (vs:=vs) (v:=.slice iT n jL) (x:=aM (g l[k])) fg bT (by rw [dd,LD]) (by rw [wZ,o6]) ?_;apply aJ (k+1,v',vs++[.slice iT n jL]) ⟨by show k+1<=_;omega,by rw [Zg,o6];rfl⟩ (by show l.length-(k+1)<l.length-k;omega)
  case hs1=>exact cj
  case ht=>
   dsimp only;rw [htk];exact .cons (.there .here) (.cons .here .nil)
 ·have e:k=l.length:=by omega
  subst e;rw [List.take_length] at *;refine aW (E:=32) (sz:=1) (v:=v) (by exact .here) fun va vc e=>?_;subst e;refine Jr<|JA I<|Jn<|Jq<|Jc I fun ar=>Jp<|Jl<|Jo<|Jt<|Jr<|Jv I<|Ja I<|Jn<|Je ?_
  first | with_reducible apply aN | with_reducible apply aO
  case he=>exact dJ I I
  case hR=>
   intro w' aq;exact aG (.slice va l.length vc,vs) o6 (by exact .cons .here (.cons .here .nil)) aq I
theorem qN {r:Ro} (h:rb r) {s:ByteArray} (hs:s∈cz r\/s∈cd r):0<=eo r s/\eo r s<14:=by
 have hl:=h.len;have l1:(cz r).length=r.de.length:=by unfold cz;rw [Zd]
 have l2:(cd r).length=r.ti.length:=by unfold cd;rw [Zd]
 rw [MQ hs];by_cases c:s∈cz r
 ·have:=di c;have:=Ap this;rw [if_pos (by omega)];omega
 ·have h2:=cq.2 c;have h3:=di (hs.resolve_left c);have:=Ap h3;rw [if_neg (by omega)];omega
theorem pF {r:Ro} (h:rb r) {q:List Po} (hq:jl r q):q.length<=42:=by
 have hl:=h.lim;have key:∀ p∈q,0<=p.lv*14+eo r p.ou/\p.lv*14+eo r p.ou<42:=fun p hp=>by
  have:=qN h (hq.out p hp);have:=hq.Lw p hp;omega
 have:=k8 42 (q.map fun p=>(p.lv*14+eo r p.ou).toNat) (by
  unfold List.Nodup;rw [List.pairwise_map];refine (List.Pairwise.and_mem.1 hq.rr).imp fun {a b} ⟨ha,hb,SO⟩ e=>?_;have:=key a ha;have:=key b hb;have:=qN h (hq.out a ha);have:=qN h (hq.out b hb);unfold qy at SO;simp only [Bool.or_eq_true,Bool.and_eq_true,decide_eq_true_eq] at SO;omega) (fun x hx=>by
  obtain ⟨p,hp,rfl⟩:=List.mem_map.1 hx;have:=key p hp;omega)
 rwa [Zd] at this
theorem HQ {r:Ro} (h:rb r) {po:List Po} {v:Int} {s d:ByteArray} (hv:0<=v/\v<r.lv) (rh:jl r po) (hs:s∈ct r) (lM:d∈cz r) (eJ:ep po v d=none) {p:List Nat} (hp:(dE r po v s).least (jV r d) p):jl r (lJ r po v s p d):=
 (HP h.ue h.nd hv rh hs lM eJ hp.1 (hp.2.1.trans (Kw lM).symm)).1
end Go.Proofs.A1
