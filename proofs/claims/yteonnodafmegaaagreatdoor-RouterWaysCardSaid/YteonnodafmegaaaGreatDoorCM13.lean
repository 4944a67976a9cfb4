/- Parts of the proof: LK LL LM LN LO LP. -/
import Derived.Test.YteonnodafmegaaaGreatDoorCM12
import Derived.Test.YteonnodafmegaaaGreatDoorCM04
import Derived.KernelRfl
set_option linter.unusedSectionVars false
set_option linter.unusedVariables false
set_option linter.unusedSimpArgs false
namespace Go.Proofs.A1
open Go Go.SL
open Tryz
open Tryz renaming prog->T_
theorem j6 {α:Type} {l m:List α} {k:Nat} (hl:k<l.length) (hm:k<m.length) (h:l[k]=m[k]):(l.drop k=m.drop k)↔l.drop (k+1)=m.drop (k+1):=by
 rw [List.drop_eq_getElem_cons hl,List.drop_eq_getElem_cons hm,h];exact ⟨fun e=>(List.cons.inj e).2,fun e=>by rw [e]⟩
theorem zD {v1 v2:Value} {l m:List ByteArray} {w:World} (h1:Rd w v1 1 (fG l)) (h2:Rd w v2 1 (fG m)) :
  aj T_ 58 [v1,v2] w (.bool (decide (l=m))):=by
 obtain ⟨a1,U7,b1,o1,rfl,nS,hG,kK,kc⟩:=h1;obtain ⟨a2,l8,b2,o2,rfl,jK,eE,iT,jL⟩:=h2;rw [bA] at *;rw [bA] at *;unfold maxLen at hG eE;refine ah func58 I I ?_
 (refine Jr<|Ja I<|Jn<|Jq<|Jr<|Jv I<|JI I<|Jv I<|JI I<|JD I<|Jn<|gl I (fun ar=>?_) fun ar=>?_;refine Jr<|Ja I<|Jn<|Ju<|JT ?_;rotate_left;refine Jk<|Jq<|Jr<|Ja I<|Jn<|J0 ?_;rotate_right)
 ·rw [decide_eq_false fun e=>ar (by rw [e])]
 have Un:l.length=m.length:=by omega
 refine aY (ι:=Nat) (fun k=>k<=l.length/\(l=m↔l.drop k=m.drop k)) (fun k=>[(5,.int .i64 (k:Int)),(0,.slice a1 l.length U7),(1,.slice a2 m.length l8)]) (fun _=>[]) (fun k=>l.length-k) ?_ ?_
 ·apply aK (0:Nat) ⟨Zi _,Iff.rfl⟩
  case hs1=>exact cj
  case ht=>(try simp only [Ze,Zf,Za]);exact .nil
 rintro k ⟨hk,hf⟩;by_cases aL:k<l.length
 ·have fE:k<m.length:=by omega
  have we:=kK (iy aL);have ql:=iT (iy fE);have ln:=(kc k _ (fF aL)).2;have eB:=(jL k _ (fF fE)).2;have hd:=j6 (l:=l) (m:=m) aL fE;have fH:l[k]≠m[k]->l.drop k≠m.drop k:=fun hne e=>hne (by
   rw [List.drop_eq_getElem_cons aL,List.drop_eq_getElem_cons fE] at e;exact (List.cons.inj e).1)
  generalize l[k]=x at ln hd fH;generalize m[k]=y at eB hd fH;have c1:w.cell? ⟨b1,o1+k*1,none⟩=some (.string x):=ln 0 _ I;have c2:w.cell? ⟨b2,o2+k*1,none⟩=some (.string y):=eB 0 _ I;refine Jq<|Jr<|Jv I<|Jv I<|JI I<|JA I<|Jn<|Jd I fun ar=>Jk<|Jq<|J0<|Jq ?_
  with_reducible refine cW 9 (by kernel_rfl) ?_
  (refine iv I I ?_;refine iv I I ?_;refine aA (gj we ar) I ?_;refine aA (ag (.of I) (At.base c1 I)) I ?_;refine iv I I ?_;refine iv I I ?_;refine aA (az (.of I) (.of I) ql (by omega) (by omega) ba) I ?_;refine aA (ag (.of I) (At.base c2 I)) I ?_;refine aA (ig (.of I) (.of I)) I ?_)
  with_reducible refine cZ ?_
  (refine Jn<|gl I (fun ar=>?_) fun ar=>?_;refine Jr<|Ja I<|Jn<|Je<|Jm<|Jh<|Jh<|Jm<|Jh<|JT ?_;rotate_left;refine Jw<|Jj<|Jt<|Jg<|Jv I<|JB I (by omega)<|Ja I<|Jn ?_;rotate_right)
  ·have hne:x≠y:=ar;rw [decide_eq_false fun e=>fH hne (hf.1 e)]
  ·have he:x=y:=Decidable.not_not.1 ar;clear ar;apply aJ (k+1) ⟨(show k+1<=l.length from aL),hf.trans (hd he)⟩ (show l.length-(k+1)<l.length-k by omega)
   case hs1=>exact cj
   case ht=>(try simp only [Ze,Zf,Za]);exact .nil
 ·obtain rfl:k=l.length:=by omega
  have:l=m:=hf.2 (by rw [List.drop_length,Un,List.drop_length]);refine Jq<|Jr<|Jv I<|Jv I<|JI I<|JA I<|Jn<|Jc I fun ar=>Jp<|Jl<|Jo<|Jt<|Jr<|Ja I<|Jn<|Je<|JT ?_;rw [decide_eq_true this]
theorem Mv {v1 v2:Value} {l m:List Int} {w:World} (h1:Rd w v1 1 (ints l)) (h2:Rd w v2 1 (ints m)) :
  aj T_ 109 [v1,v2] w (.bool (decide (l=m))):=by
 obtain ⟨a1,U7,b1,o1,rfl,nS,hG,kK,kc⟩:=h1;obtain ⟨a2,l8,b2,o2,rfl,jK,eE,iT,jL⟩:=h2;rw [c5] at *;rw [c5] at *;unfold maxLen at hG eE;refine ah func109 I I ?_
 (refine Jr<|Ja I<|Jn<|Jq<|Jr<|Jv I<|JI I<|Jv I<|JI I<|JD I<|Jn<|gl I (fun ar=>?_) fun ar=>?_;refine Jr<|Ja I<|Jn<|Ju<|JT ?_;rotate_left;refine Jk<|Jq<|Jr<|Ja I<|Jn<|J0 ?_;rotate_right)
 ·rw [decide_eq_false fun e=>ar (by rw [e])]
 have Un:l.length=m.length:=by omega
 refine aY (ι:=Nat) (fun k=>k<=l.length/\(l=m↔l.drop k=m.drop k)) (fun k=>[(5,.int .i64 (k:Int)),(0,.slice a1 l.length U7),(1,.slice a2 m.length l8)]) (fun _=>[]) (fun k=>l.length-k) ?_ ?_
 ·apply aK (0:Nat) ⟨Zi _,Iff.rfl⟩
  case hs1=>exact cj
  case ht=>(try simp only [Ze,Zf,Za]);exact .nil
 rintro k ⟨hk,hf⟩;by_cases aL:k<l.length
 ·have fE:k<m.length:=by omega
  have we:=kK (jI aL);have ql:=iT (jI fE);have ln:=(kc k _ (iC aL)).2;have eB:=(jL k _ (iC fE)).2;have hd:=j6 (l:=l) (m:=m) aL fE;have fH:l[k]≠m[k]->l.drop k≠m.drop k:=fun hne e=>hne (by
   rw [List.drop_eq_getElem_cons aL,List.drop_eq_getElem_cons fE] at e;exact (List.cons.inj e).1)
  generalize l[k]=x at ln hd fH;generalize m[k]=y at eB hd fH;have c1:w.cell? ⟨b1,o1+k*1,none⟩=some (.int .i64 x):=ln 0 _ I;have c2:w.cell? ⟨b2,o2+k*1,none⟩=some (.int .i64 y):=eB 0 _ I;refine Jq<|Jr<|Jv I<|Jv I<|JI I<|JA I<|Jn<|Jd I fun ar=>Jk<|Jq<|J0<|Jq ?_
  with_reducible refine cW 9 (by kernel_rfl) ?_
  (refine iv I I ?_;refine iv I I ?_;refine aA (gj we ar) I ?_;refine aA (ag (.of I) (At.base c1 I)) I ?_;refine iv I I ?_;refine iv I I ?_;refine aA (az (.of I) (.of I) ql (by omega) (by omega) ba) I ?_;refine aA (ag (.of I) (At.base c2 I)) I ?_;refine aA (fZ (.of I) (.of I)) I ?_)
  with_reducible refine cZ ?_
  (refine Jn<|gl I (fun ar=>?_) fun ar=>?_;refine Jr<|Ja I<|Jn<|Je<|Jm<|Jh<|Jh<|Jm<|Jh<|JT ?_;rotate_left;refine Jw<|Jj<|Jt<|Jg<|Jv I<|JB I (by omega)<|Ja I<|Jn ?_;rotate_right)
  ·have hne:x≠y:=ar;rw [decide_eq_false fun e=>fH hne (hf.1 e)]
  ·have he:x=y:=Decidable.not_not.1 ar;clear ar;apply aJ (k+1) ⟨(show k+1<=l.length from aL),hf.trans (hd he)⟩ (show l.length-(k+1)<l.length-k by omega)
   case hs1=>exact cj
   case ht=>(try simp only [Ze,Zf,Za]);exact .nil
 ·obtain rfl:k=l.length:=by omega
  have:l=m:=hf.2 (by rw [List.drop_length,Un,List.drop_length]);refine Jq<|Jr<|Jv I<|Jv I<|JI I<|JA I<|Jn<|Jc I fun ar=>Jp<|Jl<|Jo<|Jt<|Jr<|Ja I<|Jn<|Je<|JT ?_;rw [decide_eq_true this]
theorem Ei {lv:Value} {l:List ByteArray} {w:World} (h:Rd w lv 1 (fG l)) (hl:l.length<=1000000) :
  bh T_ 72 [lv] w [] (fun _:Value=>True) id (fun v=>[row 9 1 v l.length (aM l)]):=by
 refine aR func72 I I ?_
 (refine Jr<|Ja I<|Ji<|bb (aB .nil I I I I) I fun _ _=>?_;refine Jv I ?_)
 rename_i bq mA;refine bY (g:=bq) (E:=9) (ys:=[]) 0 1 (by exact .here) I I I ?_
 skip
 with_reducible apply gK
 case hx=>exact Is.of I
 case hy=>exact Is.of I
 case ht=>exact .here
 case hsrc=>exact fun w' aq=>h.keeps aq.keeps
 case h1=>exact ux l
 case hz=>exact I
 case hsz=>exact I
 case hb0=>exact I
 case hb=>rw [bA];omega
 case hd=>rfl
 intro v';rw [bA,Nat.zero_add,Za,<- oD];refine Ja I<|Jn<|Je ?_
 first | with_reducible apply aN | with_reducible apply aO
 case he=>exact dJ I I
 case hR=>
  intro w' aq;exact aG v' trivial (by exact .cons .here .nil) aq I
theorem Tj {r q:Ro}:r=q↔(((((r.lv=q.lv/\r.ma=q.ma)/\r.sr=q.sr)/\r.de=q.de)/\r.ti=q.ti)/\r.po=q.po):=by
 cases r;cases q;simp [and_assoc]
theorem Sl {r q:Ro} {s d t p s' d' t' p':Value} {w:World} (h:RR w r s d t p) (h':RR w q s' d' t' p'):aj T_ 84 [RA r s d t p,RA q s' d' t' p'] w (.bool (decide (r=q))):=by
 obtain ⟨h1,h2,h3,h4⟩:=h.one;have g1:=Rd.one h'.sr;have g2:=Rd.one h'.de;have g3:=Rd.one h'.ti;have g4:=Rd.one h'.po;have BV:=h.sr;have DG:=h.de;have xx:=h.ti;have JM:=h.po;have gs_:=h'.sr;have gd_:=h'.de;have gt_:=h'.ti;have gp_:=h'.po;obtain ⟨a1,dZ,G2,GX,rfl,nS,hG,kK,kc⟩:=BV;obtain ⟨x1,LM,xs1,xo1,rfl,ZX,US,ga1,rX⟩:=gs_;obtain ⟨a2,dB,LG,Lr,rfl,jK,eE,iT,jL⟩:=DG;obtain ⟨x2,LL,Ss,xo2,rfl,ZW,UR,ga2,xE⟩:=gd_;obtain ⟨a3,dQ,Fu,EI,rfl,lo,fD,qA,nW⟩:=xx;obtain ⟨x3,LK,xs3,xo3,rfl,ZV,UQ,ga3,Gx⟩:=gt_;obtain ⟨a4,e9,PF,Lq,rfl,tO,km,CE,vZ⟩:=JM;obtain ⟨x4,LJ,xs4,xo4,rfl,ZU,UP,ga4,UT⟩:=gp_;rw [cu] at *;rw [cu] at *;rw [bZ] at *;rw [bZ] at *;rw [bO] at *;rw [bO] at *;rw [cT] at *;rw [cT] at *;unfold maxLen at hG eE fD km US UR UQ UP;unfold RA;refine ah func84 I I ?_
 (refine Jr<|Jy I I fun _ _=>Jy I I fun _ _=>Ja I<|Jn<|Jq<|Jr<|bK I I ae ?_;refine JL I (.there .here) I<|bK I I ae ?_;refine JL I .here I<|JD I<|Jv I<|aC I I inferInstance (fun hg br=>(ao (.of I) ae)) I ?_;refine aC I I inferInstance (fun hg br=>(ag (.bL hg I) (At.lit (.there .here) I))) I ?_;refine aC I I inferInstance (fun hg br=>(ao (.of I) ae)) I ?_;refine aC I I inferInstance (fun hg br=>(ag (.bL hg I) (At.lit .here I))) I ?_;refine aC I I inferInstance (fun hg br=>(fZ (.bL hg I) (.bL hg I))) I ?_;refine ab (bX (.of I) I) I ?_;refine Jv I<|aC I I inferInstance (fun hg br=>(ao (.of I) ae)) I ?_;refine aC I I inferInstance (fun hg br=>(ag (.bL hg I) (At.lit (.there .here) I))) I ?_;refine aC I I inferInstance (fun hg br=>(cg (.bL hg I))) I ?_;refine aC I I inferInstance (fun hg br=>(ao (.of I) ae)) I ?_;refine aC I I inferInstance (fun hg br=>(ag (.bL hg I) (At.lit .here I))) I ?_;refine aC I I inferInstance (fun hg br=>(cg (.bL hg I))) I ?_;refine aC I I inferInstance (fun hg br=>(fZ (.bL hg I) (.bL hg I))) I ?_;refine ab (bX (.of I) I) I ?_;refine Jv I<|aC I I inferInstance (fun hg br=>(ao (.of I) ae)) I ?_;refine aC I I inferInstance (fun hg br=>(ag (.bL hg I) (At.lit (.there .here) I))) I ?_;refine aC I I inferInstance (fun hg br=>(cg (.bL hg I))) I ?_;refine aC I I inferInstance (fun hg br=>(ao (.of I) ae)) I ?_;refine aC I I inferInstance (fun hg br=>(ag (.bL hg I) (At.lit .here I))) I ?_;refine aC I I inferInstance (fun hg br=>(cg (.bL hg I))) I ?_;refine aC I I inferInstance (fun hg br=>(fZ (.bL hg I) (.bL hg I))) I ?_;refine ab (bX (.of I) I) I ?_;refine Jv I<|aC I I inferInstance (fun hg br=>(ao (.of I) ae)) I ?_;refine aC I I inferInstance (fun hg br=>(ag (.bL hg I) (At.lit (.there .here) I))) I ?_;refine aC I I inferInstance (fun hg br=>(cg (.bL hg I))) I ?_;refine aC I I inferInstance (fun hg br=>(ao (.of I) ae)) I ?_;refine aC I I inferInstance (fun hg br=>(ag (.bL hg I) (At.lit .here I))) I ?_;refine aC I I inferInstance (fun hg br=>(cg (.bL hg I))) I ?_;refine aC I I inferInstance (fun hg br=>(fZ (.bL hg I) (.bL hg I))) I ?_;refine ab (bX (.of I) I) I ?_;refine Jv I<|aC I I inferInstance (fun hg br=>(ao (.of I) ae)) I ?_;refine aC I I inferInstance (fun hg br=>(ag (.bL hg I) (At.lit (.there .here) I))) I ?_;refine aC I I inferInstance (fun hg br=>(cg (.bL hg I))) I ?_;refine aC I I inferInstance (fun hg br=>(ao (.of I) ae)) I ?_;refine aC I I inferInstance (fun hg br=>(ag (.bL hg I) (At.lit .here I))) I ?_;refine aC I I inferInstance (fun hg br=>(cg (.bL hg I))) I ?_;refine aC I I inferInstance (fun hg br=>(fZ (.bL hg I) (.bL hg I))) I ?_;refine ab (bX (.of I) I) I ?_;refine Jn<|oz I (fun ar=>?_) fun ar=>?_;refine Jr<|Ja I<|Jn<|Ju<|JT ?_;rotate_left;refine Jk<|Jq<|Jr<|Ja I<|Jn<|J0 ?_;rotate_right)
 ·rw [decide_eq_false fun e=>by subst e;simp at ar]
 simp only [not_or,ne_eq,Decidable.not_not] at ar;obtain ⟨⟨⟨⟨⟨e1,e2⟩,e3⟩,e4⟩,e5⟩,e6⟩:=ar;rename_i b1 tR b2 uh;refine aY (ι:=Nat) (fun k=>k<=r.sr.length/\(r.sr=q.sr↔r.sr.drop k=q.sr.drop k)) (fun k=>[(5,.int .i64 (k:Nat)),(3,.pointer (some ⟨b2,0,none⟩)),(2,.pointer (some ⟨b1,0,none⟩))]) (fun _=>[bC b2 (.cells #[.int .i64 q.lv,.int .i64 q.ma,.slice x1 q.sr.length LM,.slice x2 q.de.length LL,.slice x3 q.ti.length LK,.slice x4 q.po.length LJ] 27 (0,0)),JQ b1 r (.slice a1 r.sr.length dZ) (.slice a2 r.de.length dB) (.slice a3 r.ti.length dQ) (.slice a4 r.po.length e9)]) (fun k=>r.sr.length-k) ?_ ?_
 ·apply aK (0:Nat) ⟨Zi _,Iff.rfl⟩
  case hs1=>exact cj
  case ht=>
   exact .cons .here (.cons .here .nil)
 rintro k ⟨hk,hf⟩;have el:r.sr.length=q.sr.length:=by omega
 by_cases aL:k<r.sr.length
 ·have fE:k<q.sr.length:=by omega
  have cM:=kK (gL aL);have RN:=ga1 (gL fE);have aF:=(kc k _ (fk aL)).2;have lp:=(rX k _ (fk fE)).2;have hd:=j6 (l:=r.sr) (m:=q.sr) aL fE;have fH:r.sr[k]≠q.sr[k]->r.sr.drop k≠q.sr.drop k:=fun hne e=>hne (by
   rw [List.drop_eq_getElem_cons aL,List.drop_eq_getElem_cons fE] at e;exact (List.cons.inj e).1)
  generalize r.sr[k]=x at aF hd fH;generalize q.sr[k]=y at lp hd fH;unfold Sr.cells at aF lp
  (refine Jq<|Jr<|Jv I<|bK I I ae ?_;refine JL I (.there .here) I<|JI I<|JA I<|Jn<|Jd I fun ar=>Jk<|Jq<|J0<|Jq ?_)
  with_reducible refine cW 10 (by kernel_rfl) ?_
  (refine mG I I ae ?_;refine aA (gD (.there .here)) I ?_;refine iv I I ?_;refine aA (gj cM ar) I ?_;refine aA (iI (eU.base aF I)) I ?_;refine mG I I ae ?_;refine aA (gD .here) I ?_;refine iv I I ?_;refine aA (az (.of I) (.of I) RN (by omega) (by omega) ba) I ?_;refine aA (iI (eU.base lp I)) I ?_)
  with_reducible refine cZ ?_
  (refine ab (uB (.of I) (.of I) (fB (ka lZ)) I) I ?_;refine Jn<|oz I (fun ar=>?_) fun ar=>?_;refine Jr<|Ja I<|Jn<|Je<|Jm<|Jh<|Jh<|Jm<|Jh<|JT ?_;rotate_left;refine Jw<|Jj<|Jt<|Jg<|Jv I<|JB I (by omega)<|Ja I<|Jn ?_;rotate_right)
  ·have hne:x≠y:=by
    intro e;subst e;simp at ar
   rw [decide_eq_false fun e=>fH hne (hf.1 (by rw [e]))]
  ·have he:x=y:=by
    obtain ⟨q1,q2,_⟩:=ar;cases x;cases y;dsimp only at q1 q2;subst q1;subst q2
    rfl
   clear ar;apply aJ (k+1) ⟨(show k+1<=r.sr.length from aL),hf.trans (hd he)⟩ (show r.sr.length-(k+1)<r.sr.length-k by omega)
   case hs1=>exact cj
   case ht=>
    exact .cons .here (.cons .here .nil)
 have z1:r.sr=q.sr:=by
  obtain rfl:k=r.sr.length:=by omega
  exact hf.2 (by rw [List.drop_length,el,List.drop_length])
 obtain rfl:k=r.sr.length:=by omega
 clear hk hf aL
 (refine Jq<|Jr<|Jv I<|bK I I ae ?_;refine JL I (.there .here) I<|JI I<|JA I<|Jn<|Jc I fun ar=>Jp<|Jl<|Jo<|Jt<|Jq<|Jr<|Ja I<|Jn<|J0 ?_)
 refine aY (ι:=Nat) (fun k=>k<=r.de.length/\(r.de=q.de↔r.de.drop k=q.de.drop k)) (fun k=>[(6,.int .i64 (k:Nat)),(3,.pointer (some ⟨b2,0,none⟩)),(2,.pointer (some ⟨b1,0,none⟩))]) (fun _=>[bC b2 (.cells #[.int .i64 q.lv,.int .i64 q.ma,.slice x1 q.sr.length LM,.slice x2 q.de.length LL,.slice x3 q.ti.length LK,.slice x4 q.po.length LJ] 27 (0,0)),JQ b1 r (.slice a1 r.sr.length dZ) (.slice a2 r.de.length dB) (.slice a3 r.ti.length dQ) (.slice a4 r.po.length e9)]) (fun k=>r.de.length-k) ?_ ?_
 ·apply aK (0:Nat) ⟨Zi _,Iff.rfl⟩
  case hs1=>exact cj
  case ht=>
   exact .cons .here (.cons .here .nil)
 rintro k ⟨hk,hf⟩;have el:r.de.length=q.de.length:=by omega
 by_cases aL:k<r.de.length
 ·have fE:k<q.de.length:=by omega
  have cM:=iT (gS aL);have RN:=ga2 (gS fE);have aF:=(jL k _ (fu aL)).2;have lp:=(xE k _ (fu fE)).2;have hd:=j6 (l:=r.de) (m:=q.de) aL fE;have fH:r.de[k]≠q.de[k]->r.de.drop k≠q.de.drop k:=fun hne e=>hne (by
   rw [List.drop_eq_getElem_cons aL,List.drop_eq_getElem_cons fE] at e;exact (List.cons.inj e).1)
  generalize r.de[k]=x at aF hd fH;generalize q.de[k]=y at lp hd fH;unfold De.cells at aF lp
  (refine Jq<|Jr<|Jv I<|bK I I ae ?_;refine JL I (.there .here) I<|JI I<|JA I<|Jn<|Jd I fun ar=>Jk<|Jq<|J0<|Jq ?_)
  with_reducible refine cW 10 (by kernel_rfl) ?_
  (refine mG I I ae ?_;refine aA (gD (.there .here)) I ?_;refine iv I I ?_;refine aA (gj cM ar) I ?_;refine aA (iI (eU.base aF I)) I ?_;refine mG I I ae ?_;refine aA (gD .here) I ?_;refine iv I I ?_;refine aA (az (.of I) (.of I) RN (by omega) (by omega) ba) I ?_;refine aA (iI (eU.base lp I)) I ?_)
  with_reducible refine cZ ?_
  (refine ab (uB (.of I) (.of I) (fB (ka (Iw lZ))) I) I ?_;refine Jn<|oz I (fun ar=>?_) fun ar=>?_;refine Jr<|Ja I<|Jn<|Je<|Jm<|Jh<|Jh<|Jm<|Jh<|JT ?_;rotate_left;refine Jw<|Jj<|Jt<|Jg<|Jv I<|JB I (by omega)<|Ja I<|Jn ?_;rotate_right)
  ·have hne:x≠y:=by
    intro e;subst e;simp at ar
   rw [decide_eq_false fun e=>fH hne (hf.1 (by rw [e]))]
  ·have he:x=y:=by
    obtain ⟨q1,q2,q3,_⟩:=ar;cases x;cases y;dsimp only at q1 q2 q3;have q3:=eq_of_beq q3;subst q1;subst q2;subst q3
    rfl
   clear ar;apply aJ (k+1) ⟨(show k+1<=r.de.length from aL),hf.trans (hd he)⟩ (show r.de.length-(k+1)<r.de.length-k by omega)
   case hs1=>exact cj
   case ht=>
    exact .cons .here (.cons .here .nil)
 have z2:r.de=q.de:=by
  obtain rfl:k=r.de.length:=by omega
  exact hf.2 (by rw [List.drop_length,el,List.drop_length])
 obtain rfl:k=r.de.length:=by omega
 clear hk hf aL
 (refine Jq<|Jr<|Jv I<|bK I I ae ?_;refine JL I (.there .here) I<|JI I<|JA I<|Jn<|Jc I fun ar=>Jp<|Jl<|Jo<|Jt<|Jq<|Jr<|Ja I<|Jn<|J0 ?_)
 refine aY (ι:=Nat) (fun k=>k<=r.ti.length/\(r.ti=q.ti↔r.ti.drop k=q.ti.drop k)) (fun k=>[(7,.int .i64 (k:Nat)),(3,.pointer (some ⟨b2,0,none⟩)),(2,.pointer (some ⟨b1,0,none⟩))]) (fun _=>[bC b2 (.cells #[.int .i64 q.lv,.int .i64 q.ma,.slice x1 q.sr.length LM,.slice x2 q.de.length LL,.slice x3 q.ti.length LK,.slice x4 q.po.length LJ] 27 (0,0)),JQ b1 r (.slice a1 r.sr.length dZ) (.slice a2 r.de.length dB) (.slice a3 r.ti.length dQ) (.slice a4 r.po.length e9)]) (fun k=>r.ti.length-k) ?_ ?_
 ·apply aK (0:Nat) ⟨Zi _,Iff.rfl⟩
  case hs1=>exact cj
  case ht=>
   exact .cons .here (.cons .here .nil)
 rintro k ⟨hk,hf⟩;have el:r.ti.length=q.ti.length:=by omega
 by_cases aL:k<r.ti.length
 ·have fE:k<q.ti.length:=by omega
  have cM:=qA (eO aL);have RN:=ga3 (eO fE);have aF:=(nW k _ (dY aL)).2;have lp:=(Gx k _ (dY fE)).2;have hd:=j6 (l:=r.ti) (m:=q.ti) aL fE;have fH:r.ti[k]≠q.ti[k]->r.ti.drop k≠q.ti.drop k:=fun hne e=>hne (by
   rw [List.drop_eq_getElem_cons aL,List.drop_eq_getElem_cons fE] at e;exact (List.cons.inj e).1)
  generalize r.ti[k]=x at aF hd fH;generalize q.ti[k]=y at lp hd fH;unfold Ti.cells at aF lp
  (refine Jq<|Jr<|Jv I<|bK I I ae ?_;refine JL I (.there .here) I<|JI I<|JA I<|Jn<|Jd I fun ar=>Jk<|Jq<|J0<|Jq ?_)
  with_reducible refine cW 10 (by kernel_rfl) ?_
  (refine mG I I ae ?_;refine aA (gD (.there .here)) I ?_;refine iv I I ?_;refine aA (gj cM ar) I ?_;refine aA (iI (eU.base aF I)) I ?_;refine mG I I ae ?_;refine aA (gD .here) I ?_;refine iv I I ?_;refine aA (az (.of I) (.of I) RN (by omega) (by omega) ba) I ?_;refine aA (iI (eU.base lp I)) I ?_)
  with_reducible refine cZ ?_
  (refine ab (uB (.of I) (.of I) (fB (ka (ka lZ))) I) I ?_;refine Jn<|oz I (fun ar=>?_) fun ar=>?_;refine Jr<|Ja I<|Jn<|Je<|Jm<|Jh<|Jh<|Jm<|Jh<|JT ?_;rotate_left;refine Jw<|Jj<|Jt<|Jg<|Jv I<|JB I (by omega)<|Ja I<|Jn ?_;rotate_right)
  ·have hne:x≠y:=by
    intro e;subst e;simp at ar
   rw [decide_eq_false fun e=>fH hne (hf.1 (by rw [e]))]
  ·have he:x=y:=by
    obtain ⟨q1,q2,q3,_⟩:=ar;cases x;cases y;dsimp only at q1 q2 q3;subst q1;subst q2;subst q3
    rfl
   clear ar;apply aJ (k+1) ⟨(show k+1<=r.ti.length from aL),hf.trans (hd he)⟩ (show r.ti.length-(k+1)<r.ti.length-k by omega)
   case hs1=>exact cj
   case ht=>
    exact .cons .here (.cons .here .nil)
 have z3:r.ti=q.ti:=by
  obtain rfl:k=r.ti.length:=by omega
  exact hf.2 (by rw [List.drop_length,el,List.drop_length])
 obtain rfl:k=r.ti.length:=by omega
 clear hk hf aL
 (refine Jq<|Jr<|Jv I<|bK I I ae ?_;refine JL I (.there .here) I<|JI I<|JA I<|Jn<|Jc I fun ar=>Jp<|Jl<|Jo<|Jt<|Jq<|Jr<|Ja I<|Jn<|J0 ?_)
 refine aY (ι:=Nat) (fun k=>k<=r.po.length/\(r.po=q.po↔r.po.drop k=q.po.drop k)) (fun k=>[(8,.int .i64 (k:Nat)),(3,.pointer (some ⟨b2,0,none⟩)),(2,.pointer (some ⟨b1,0,none⟩))]) (fun _=>[bC b2 (.cells #[.int .i64 q.lv,.int .i64 q.ma,.slice x1 q.sr.length LM,.slice x2 q.de.length LL,.slice x3 q.ti.length LK,.slice x4 q.po.length LJ] 27 (0,0)),JQ b1 r (.slice a1 r.sr.length dZ) (.slice a2 r.de.length dB) (.slice a3 r.ti.length dQ) (.slice a4 r.po.length e9)]) (fun k=>r.po.length-k) ?_ ?_
 ·apply aK (0:Nat) ⟨Zi _,Iff.rfl⟩
  case hs1=>exact cj
  case ht=>
   exact .cons .here (.cons .here .nil)
 rintro k ⟨hk,hf⟩;have el:r.po.length=q.po.length:=by omega
 by_cases aL:k<r.po.length
 ·have fE:k<q.po.length:=by omega
  have cM:=CE (kD aL);have RN:=ga4 (kD fE);have aF:=(vZ k _ (iN aL)).2;have lp:=(UT k _ (iN fE)).2;have hd:=j6 (l:=r.po) (m:=q.po) aL fE;have fH:r.po[k]≠q.po[k]->r.po.drop k≠q.po.drop k:=fun hne e=>hne (by
   rw [List.drop_eq_getElem_cons aL,List.drop_eq_getElem_cons fE] at e;exact (List.cons.inj e).1)
  generalize r.po[k]=x at aF hd fH;generalize q.po[k]=y at lp hd fH;unfold Po.cells at aF lp
  (refine Jq<|Jr<|Jv I<|bK I I ae ?_;refine JL I (.there .here) I<|JI I<|JA I<|Jn<|Jd I fun ar=>Jk<|Jq<|J0<|Jq ?_)
  with_reducible refine cW 10 (by kernel_rfl) ?_
  (refine mG I I ae ?_;refine aA (gD (.there .here)) I ?_;refine iv I I ?_;refine aA (gj cM ar) I ?_;refine aA (iI (eU.base aF I)) I ?_;refine mG I I ae ?_;refine aA (gD .here) I ?_;refine iv I I ?_;refine aA (az (.of I) (.of I) RN (by omega) (by omega) ba) I ?_;refine aA (iI (eU.base lp I)) I ?_)
  with_reducible refine cZ ?_
  (refine ab (uB (.of I) (.of I) (ka (fB (fB lZ))) I) I ?_;refine Jn<|oz I (fun ar=>?_) fun ar=>?_;refine Jr<|Ja I<|Jn<|Je<|Jm<|Jh<|Jh<|Jm<|Jh<|JT ?_;rotate_left;refine Jw<|Jj<|Jt<|Jg<|Jv I<|JB I (by omega)<|Ja I<|Jn ?_;rotate_right)
  ·have hne:x≠y:=by
    intro e;subst e;simp at ar
   rw [decide_eq_false fun e=>fH hne (hf.1 (by rw [e]))]
  ·have he:x=y:=by
    obtain ⟨q1,q2,q3,_⟩:=ar;cases x;cases y;dsimp only at q1 q2 q3;subst q1;subst q2;subst q3
    rfl
   clear ar;apply aJ (k+1) ⟨(show k+1<=r.po.length from aL),hf.trans (hd he)⟩ (show r.po.length-(k+1)<r.po.length-k by omega)
   case hs1=>exact cj
   case ht=>
    exact .cons .here (.cons .here .nil)
 have z4:r.po=q.po:=by
  obtain rfl:k=r.po.length:=by omega
  exact hf.2 (by rw [List.drop_length,el,List.drop_length])
 obtain rfl:k=r.po.length:=by omega
 clear hk hf aL
 (refine Jq<|Jr<|Jv I<|bK I I ae ?_;refine JL I (.there .here) I<|JI I<|JA I<|Jn<|Jc I fun ar=>Jp<|Jl<|Jo<|Jt<|Jr<|Ja I<|Jn<|Je<|JT ?_)
 rw [decide_eq_true (Tj.2 ⟨⟨⟨⟨⟨e1,e2⟩,z1⟩,z2⟩,z3⟩,z4⟩)]
theorem bh.HM {P:Program} {f:FuncId} {args:List Value} {w:World} {md:List Nat} {E:TypeId} {sz n:Nat} {xs:List Value} {val:Value->Value} (h:bh P f args w md (fun _:Value=>True) val (fun v=>[row E sz v n xs])) :
  bh P f args w md (fun _:Option Addr×Nat=>True) (fun x=>val (.slice x.1 n x.2)) (fun x=>[row E sz (.slice x.1 n x.2) n xs]):=
 Calls.mono h fun e w' ⟨v,he,_,hk,fp,hn,hs,hf⟩=>by
  have hv:∃ x:Option Addr×Nat,v=.slice x.1 n x.2:=by
   obtain ⟨f1,f2,_,⟨_,_,⟨e1,e2⟩ | ⟨g,cap,cur,e1,_⟩⟩,_⟩:=hs
   ·exact ⟨(none,0),by rw [e1,e2]⟩
   ·exact ⟨(_,cap),e1⟩
  obtain ⟨x,rfl⟩:=hv;exact ⟨x,he,trivial,hk,fp,hn,hs,hf⟩
def UO:Value->Option Addr×Nat
 | .slice a _ c=>(a,c)
 | _=>(none,0)
theorem Kk (x:Option Addr×Nat):∃ v,UO v=x:=⟨.slice x.1 0 x.2,I⟩
theorem Mf {kv:Value} {l:List hP} {w:World} (h:Rd w kv 2 (jQ l)) (hM:xe w l) (hn:l.length<=1000) (hs:∀ x∈l,x.tk.so.length<=1000) :
  bh T_ 54 [kv] w [] (fun x:Value×List hP=>dy x.2=dy l) (fun x=>x.1) (fun x=>[row 69 2 x.1 x.2.length (jQ x.2).flatten,LZ x.2]):=by
 obtain ⟨a,cp,b,o,rfl,c8,bV,ha,hc⟩:=h;rw [eX] at *;unfold maxLen at bV;refine aR func54 I I ?_;refine Jr<|Ja I<|Ji<|Ja I<|Jn<|Jq<|Jr<|Jv I<|JI I<|Jv I<|Jn<|J0 ?_;refine aP 69 2 ?_;refine jY 9 ?_
 refine aY (ι:=Nat×Value×List hP) (fun x=>x.1<=l.length/\dy x.2.2=dy (l.take x.1)) (fun x=>[(8,.int .i64 (x.1:Nat)),(7,.int .i64 (l.length:Nat)),(6,.slice a l.length cp),(3,x.2.1)])
  (fun x=>[row 69 2 x.2.1 x.2.2.length (jQ x.2.2).flatten,jn 9 (x.2.2.map hP.v) (x.2.2.map fun y=>aM y.tk.so)]) (fun x=>l.length-x.1) ?_ ?_
 ·apply aK (0,.slice none 0 0,[]) ⟨Zi _,I⟩
  case hs1=>exact cj
  case ht=>
   exact .cons (.there .here) (.cons .here .nil)
 rintro ⟨k,v,W⟩ ⟨hk,hW⟩;dsimp only at hk hW ⊢;have RG:W.length=k:=by
  have:=congrArg List.length hW;unfold dy at this;rw [Zd,Zd,List.length_take] at this;omega
 by_cases aL:k<l.length
 ·have cM:=ha (nr aL);have aF:=(hc k _ (kM aL)).2;have hx:=hM _ (Zj aL);have Y1:=hs _ (Zj aL);have htk:dy (l.take (k+1))=dy (l.take k)++[l[k].tk]:=by
   unfold dy;rw [List.take_succ_eq_append_getElem aL,List.map_append];rfl
  have tN:(jQ W).flatten.length=W.length*2:=by rw [fU (CQ W),eX]
  have ir:=Rd.one hx;unfold hP.cells at aF;generalize l[k]=x at aF hx Y1 htk ir;obtain ⟨⟨xd,xs⟩,xv⟩:=x;dsimp only at aF hx Y1 htk ir;have hwc:∀ w',aD [] w w'->bh T_ 72 [xv] w' [] (fun _:Option Addr×Nat=>True) (fun z=>.slice z.1 xs.length z.2) (fun z=>[row 9 1 (.slice z.1 xs.length z.2) xs.length (aM xs)]):=fun w' hk=>bh.HM (val:=id) (Ei (hx.keeps hk) (by omega))
  refine aW (E:=69) (sz:=2) (v:=v) (by exact .here) fun va vc e=>?_;subst e
  (refine Jr<|JA I<|Jn<|Jq<|Jd I fun ar=>Jk<|Jq<|J0<|Jr<|ab (gj cM ar) I ?_;refine ab (iI (eU.base aF I)) I ?_;refine Jz I I fun _ _=>au (.of I) (.of I) .here I I (ie I ir) (bF I) an ?_;refine Jn ?_)
  with_reducible refine fc 8 (by kernel_rfl) ?_
  (refine aH (fun β=>(aZ (.of I))) bM I ?_;refine aH (fun β=>(ao (.of I) ae)) bM I ?_;refine aH (fun β=>(ag (.of I) (At.lit .here I))) bM I ?_;refine aH (fun β=>(ao (.of I) ae)) bM I ?_;refine aH (fun β=>(ag (.of I) (At.lit .here I))) bM I ?_)
  dsimp only [Nat.zero_add,Nat.reduceAdd]
  with_reducible apply im (ι:=Option Addr×Nat) (Φ:=fun _=>True) (val:=fun z=>.slice z.1 xs.length z.2) (own:=fun z=>[row 9 1 (.slice z.1 xs.length z.2) xs.length (aM xs)]) (g:=UO) (B:=[]) (args:=fun _=>[xv])
  case hg=>exact Kk
  case hB=>rfl
  case hr=>exact fun β=>bj (.of I) (.cons (.of I) .nil) inferInstance I
  case hd=>rfl
  case hc=>exact fun β w' hb=>hwc w' hb.mem.keeps
  dsimp only [Nat.reduceAdd]
  with_reducible apply aH
  case hr=>(intro β;exact aT (.cons (.of I) (.cons (.of I) .nil)) an)
  case hi=>exact fun β β' h=>by simp only [h 5 (by kernel_rfl)]
  case hd=>rfl
  dsimp only [Nat.reduceAdd]
  with_reducible apply nN
  case hr=>(intro β;exact bu (.cons (.of I) .nil) I I bW bW an)
  case hi=>exact fun β β' h=>by simp only [h 5 (by decide) (by kernel_rfl)]
  case hd=>rfl
  dsimp only [Nat.reduceAdd];refine ic fun β=>?_;dsimp only [fK,Za,Zb,List.append_eq,Nat.reduceAdd];generalize eM (β 7)=b7;generalize UO (β 5)=y;obtain ⟨ya,yc⟩:=y;clear β;dsimp only;refine cU (rs:=[8]) (by kernel_rfl) (by simp) (List.forall_mem_cons.2 ⟨?_,fun _ h=>absurd h List.not_mem_nil⟩);refine dj I ?_;refine bE (.of I) (.of I) db (.there .here) an (by rfl) (ie I I) (by rfl) (by rfl) (by rfl) eV (by rfl) ?_;intro v';refine Jn ?_;refine cU (rs:=[9]) (by kernel_rfl) (by simp) (List.forall_mem_cons.2 ⟨?_,fun _ h=>absurd h List.not_mem_nil⟩);refine dj I ?_;refine Ja I<|Jn ?_
  with_reducible refine dp (by kernel_rfl) ?_
  refine Jj<|Jt<|Jg<|JB I (by omega)<|Jv I<|Jn ?_;have Xl:(aM xs).length=xs.length:=dd xs
  with_reducible apply lg (E:=9) (vs:=W.map hP.v) (xs:=W.map fun y=>aM y.tk.so) (v:=.slice ya xs.length yc) (x:=aM xs) (n:=xs.length)
  case ht=>exact fg
  case ht2=>exact Take.there .here
  case hn=>exact Xl.symm
  case hl=>rw [Zd,Zd]
  case k=>
   apply aJ (k+1,v',W++[⟨⟨xd,xs⟩,.slice ya xs.length yc⟩]) ⟨by show k+1<=_;omega,by
    show dy (W++[_])=_;unfold dy at hW htk ⊢;rw [List.map_append,hW];exact htk.symm⟩ (by show l.length-(k+1)<l.length-k;omega)
   case hs1=>exact cj
   case ht=>
    dsimp only;rw [Ep,Zg,List.map_append,List.map_append];simp only [List.map_cons,Zf,List.length_cons,List.length_nil,Nat.zero_add];exact .cons (.there .here) (.cons .here .nil)
 ·have e:k=l.length:=by omega
  rw [e,List.take_length] at hW;refine aW (E:=69) (sz:=2) (v:=v) (by exact .here) fun va vc e=>?_;subst e;refine Jr<|JA I<|Jn<|Jq<|Jc I fun ar=>Jp<|Jl<|Jo<|Jt<|Jr<|Jv I<|Ja I<|Jn<|Je ?_
  first | with_reducible apply aN | with_reducible apply aO
  case he=>exact dJ I I
  case hR=>
   intro w' aq;exact aG (.slice va W.length vc,W) hW (by exact .cons .here (.cons .here .nil)) aq I
def cN:ByteArray:=⟨#[99,97,109]⟩
def kE:ByteArray:=⟨#[118,116,114]⟩
def od:ByteArray:=⟨#[109,111,110]⟩
def dT:ByteArray:=⟨#[97,105,114]⟩
def jo:ByteArray:=⟨#[114,101,99]⟩
def nT:ByteArray:=⟨#[116]⟩
def nU:ByteArray:=⟨#[117]⟩
def ml:Ro:=⟨2,2,[⟨cN,0⟩,⟨kE,1⟩],[⟨od,0,false⟩,⟨dT,1,false⟩,⟨jo,1,false⟩],[⟨nT,0,1⟩,⟨nU,0,1⟩],[]⟩
def oq:Tk:=⟨dT,[cN,cN]⟩
def Su:Tk:=⟨jo,[cN,⟨#[]⟩]⟩
def oo:Tk:=⟨dT,[kE,kE]⟩
def WD:List Po:=[⟨0,dT,nT⟩,⟨0,nT,cN⟩,⟨1,dT,nT⟩,⟨1,nT,cN⟩]
def WC:List Po:=[⟨0,dT,nT⟩,⟨0,jo,nT⟩,⟨0,nT,cN⟩,⟨1,dT,nT⟩,⟨1,nT,cN⟩]
def WB:List Po:=[⟨0,dT,kE⟩,⟨0,jo,nT⟩,⟨0,nT,cN⟩,⟨1,dT,kE⟩]
def gE:Ro:={ ml with po:=WD }
def iq:Ro:={ ml with po:=WC }
def wX:Ro:={ ml with po:=WB }
def C0:Ro:=gE.Ib od true
theorem U3:gB ml=0:=by kernel_rfl
theorem Pq:rk ml 0 cN dT=0/\mf ml 0 cN dT=[nT]:=⟨by kernel_rfl,by kernel_rfl⟩
theorem U1:jz ml [oq]=(gE,0,0):=by kernel_rfl
theorem U0:jz gE [Su]=(iq,0,0):=by kernel_rfl
theorem Pw:jz iq [oo]=(wX,0,0):=by kernel_rfl
theorem UY:LX iq [oo]=[oq]:=by kernel_rfl
theorem Pp:rk ml 0 kE od=18/\mf ml 0 kE od=[]:=⟨by kernel_rfl,by kernel_rfl⟩
theorem Py:KD ml 0 kE od=0/\GF ml 0 kE od=[1]:=⟨by kernel_rfl,by kernel_rfl⟩
theorem U4:Wc ml 0 kE od [0]=19:=by kernel_rfl
theorem U2:JX iq jo=0/\Gp iq jo=[cN,⟨#[]⟩]:=⟨by kernel_rfl,by kernel_rfl⟩
theorem Ps:Hq gE 0 dT=0/\FH gE 0 dT=[cN,nT,dT]:=⟨by kernel_rfl,by kernel_rfl⟩
theorem Pz:KU gE 0=0/\GN gE 0=[nT]:=⟨by kernel_rfl,by kernel_rfl⟩
theorem Pr:Hl iq 0 cN=0/\FD iq 0 cN=[dT,jo]:=⟨by kernel_rfl,by kernel_rfl⟩
theorem Px:yz gE od=0/\yy gE od true=C0:=⟨by kernel_rfl,by kernel_rfl⟩
theorem UZ:(jz C0 [⟨jo,[⟨#[45]⟩,⟨#[]⟩]⟩,⟨od,[cN,cN]⟩]).2=(1,31):=by kernel_rfl
theorem Pv:rz ml [⟨10,[oq]⟩,⟨12,[oo]⟩] dT 9=0/\ub ml [⟨10,[oq]⟩,⟨12,[oo]⟩] dT 9=[⟨#[]⟩,⟨#[]⟩]:=⟨by kernel_rfl,by kernel_rfl⟩
theorem Pu:rz ml [⟨10,[oq]⟩,⟨12,[oo]⟩] dT 11=0/\ub ml [⟨10,[oq]⟩,⟨12,[oo]⟩] dT 11=[cN,cN]:=⟨by kernel_rfl,by kernel_rfl⟩
theorem Pt:rz ml [⟨10,[oq]⟩,⟨12,[oo]⟩] dT 12=0/\ub ml [⟨10,[oq]⟩,⟨12,[oo]⟩] dT 12=[kE,kE]:=⟨by kernel_rfl,by kernel_rfl⟩
theorem RQ:Ia ml=⟨#[114,111,117,116,101,114,32,50,32,50,10,115,111,117,114,99,101,32,99,97,109,32,48,10,115,111,117,114,99,101,32,118,116,114,32,49,10,100,101,115,116,105,110,97,116,105,111,110,32,109,111,110,32,48,32,102,114,101,101,10,100,101,115,116,105,110,97,116,105,111,110,32,97,105,114,32,49,32,102,114,101,101,10,100,101,115,116,105,110,97,116,105,111,110,32,114,101,99,32,49,32,102,114,101,101,10,116,105,101,32,116,32,48,32,49,10,116,105,101,32,117,32,48,32,49,10]⟩:=by kernel_rfl
theorem NZ (w:World):bh T_ 105 [] w [] (fun _:Value×Value×Value×Value=>True) (fun x=>RA ml x.1 x.2.1 x.2.2.1 x.2.2.2) (fun x=>uw ml x):=by
 unfold RA;refine aR func105 I I ?_
 (refine Jr<|Jz I I fun _ _=>Ji<|ab (aT (.cons (.of I) .nil) an) I ?_;refine ab (aT (.cons (.of I) (.cons (.of I) .nil)) an) I ?_;refine bb (bu (.cons (.of I) (.cons (.of I) .nil)) I I bW bW an) I fun _ _=>?_;refine ab (aT (.cons (.of I) .nil) an) I ?_;refine ab (aT (.cons (.of I) (.cons (.of I) .nil)) an) I ?_;refine ab (aT (.cons (.of I) (.cons (.of I) .nil)) an) I ?_;refine bb (bu (.cons (.of I) (.cons (.of I) (.cons (.of I) .nil))) I I bW bW an) I fun _ _=>?_;refine ab (aT (.cons (.of I) (.cons (.of I) .nil)) an) I ?_;refine ab (aT (.cons (.of I) (.cons (.of I) .nil)) an) I ?_;refine bb (bu (.cons (.of I) (.cons (.of I) .nil)) I I bW bW an) I fun _ _=>?_;refine ab (aT (.cons (.of I) (.cons (.of I) (.cons (.of I) (.cons (.of I) (.cons (.of I) .nil))))) an) I ?_;refine au (.of I) (.of I) db I I (iS I I I I I I) (bF I) an ?_;refine Jn<|Je ?_)
 rename_i b0 hb0 b1 tR b2 uh b3 tQ;refine bY (g:=b1) (E:=186) (ys:=oH ml.sr) 2 2 db (by exact I) I I ?_;refine bY (g:=b2) (E:=90) (ys:=l7 ml.de) 3 3 db (by exact I) I I ?_;refine bY (g:=b3) (E:=187) (ys:=qH ml.ti) 2 3 db (by exact I) I I ?_;refine aP 188 3 ?_
 first | with_reducible apply aN | with_reducible apply aO
 case he=>exact kW I inferInstance I fg an (by rfl)
 case hR=>
  intro w' aq;exact aG (.slice (some ⟨b1,0,none⟩) 2 2,.slice (some ⟨b2,0,none⟩) 3 3,.slice (some ⟨b3,0,none⟩) 2 2,.slice none 0 0) trivial (by exact .cons db (.cons bT (.cons (.there .here) (.cons .here .nil)))) aq I
theorem RU (w:World):bh T_ 106 [] w [] (fun _:Option Addr×Nat=>True) (fun x=>.agg (hP.cells ⟨oq,.slice x.1 2 x.2⟩).toArray) (fun x=>[row 9 1 (.slice x.1 2 x.2) 2 (aM oq.so)]):=by
 unfold hP.cells;refine aR func106 I I ?_
 (refine Jr<|Jz I I fun _ _=>Ji<|bb (aB (.cons (.of I) (.cons (.of I) .nil)) I I I I) I fun _ _=>?_;refine ab (aT (.cons (.of I) (.cons (.of I) .nil)) an) I ?_;refine au (.of I) (.of I) (.there .here) I I (ie I I) (bF I) an ?_;refine Jn<|Je ?_)
 rename_i b0 hb0 b1 tR;refine bY (g:=b1) (E:=9) (ys:=aM oq.so) 2 1 (by exact Take.there .here) (by exact I) I I ?_
 first | with_reducible apply aN | with_reducible apply aO
 case he=>exact kW I inferInstance I (.there .here) an (by rfl)
 case hR=>
  intro w' aq;exact aG (some ⟨b1,0,none⟩,2) trivial (by exact .cons .here .nil) aq I
theorem RT (w:World):bh T_ 107 [] w [] (fun _:Option Addr×Nat=>True) (fun x=>.agg (hP.cells ⟨Su,.slice x.1 2 x.2⟩).toArray) (fun x=>[row 9 1 (.slice x.1 2 x.2) 2 (aM Su.so)]):=by
 unfold hP.cells;refine aR func107 I I ?_
 (refine Jr<|Jz I I fun _ _=>Ji<|bb (aB (.cons (.of I) (.cons (.of I) .nil)) I I I I) I fun _ _=>?_;refine ab (aT (.cons (.of I) (.cons (.of I) .nil)) an) I ?_;refine au (.of I) (.of I) (.there .here) I I (ie I I) (bF I) an ?_;refine Jn<|Je ?_)
 rename_i b0 hb0 b1 tR;refine bY (g:=b1) (E:=9) (ys:=aM Su.so) 2 1 (by exact Take.there .here) (by exact I) I I ?_
 first | with_reducible apply aN | with_reducible apply aO
 case he=>exact kW I inferInstance I (.there .here) an (by rfl)
 case hR=>
  intro w' aq;exact aG (some ⟨b1,0,none⟩,2) trivial (by exact .cons .here .nil) aq I
theorem RS (w:World):bh T_ 108 [] w [] (fun _:Option Addr×Nat=>True) (fun x=>.agg (hP.cells ⟨oo,.slice x.1 2 x.2⟩).toArray) (fun x=>[row 9 1 (.slice x.1 2 x.2) 2 (aM oo.so)]):=by
 unfold hP.cells;refine aR func108 I I ?_
 (refine Jr<|Jz I I fun _ _=>Ji<|bb (aB (.cons (.of I) (.cons (.of I) .nil)) I I I I) I fun _ _=>?_;refine ab (aT (.cons (.of I) (.cons (.of I) .nil)) an) I ?_;refine au (.of I) (.of I) (.there .here) I I (ie I I) (bF I) an ?_;refine Jn<|Je ?_)
 rename_i b0 hb0 b1 tR;refine bY (g:=b1) (E:=9) (ys:=aM oo.so) 2 1 (by exact Take.there .here) (by exact I) I I ?_
 first | with_reducible apply aN | with_reducible apply aO
 case he=>exact kW I inferInstance I (.there .here) an (by rfl)
 case hR=>
  intro w' aq;exact aG (some ⟨b1,0,none⟩,2) trivial (by exact .cons .here .nil) aq I
instance :DecidableEq Tk:=fun a b=>decidable_of_iff (a.de=b.de/\a.so=b.so) (by cases a;cases b;simp)
theorem OP {c:Cx} {hs hs':List a8} {w:World} {r:Ro} {x:Value×Value×Value×Value} (hm:Mem c hs w) (ht:bn hs (uw r x) hs'):RR w r x.1 x.2.1 x.2.2.1 x.2.2.2:=by
 have k9:=hm.jd ht;exact ⟨du k9 .here I,dw k9 (.there .here) I,dq k9 bT I,cX k9 db I⟩
theorem Te {c:Cx} {hs hs':List a8} {w:World} {r:Ro} {x:Value×Value×Value×Value} (hm:Mem c hs w) (ht:bn hs (P7 r x) hs'):RR w r x.1 x.2.1 x.2.2.1 x.2.2.2:=by
 have k9:=hm.jd ht;exact ⟨du k9 .here I,dw k9 (.there .here) I,dq k9 bT I,cX k9 db I⟩
theorem mh {c:Cx} {D:List Nat} {sl:aI} {hs hs':List a8} {X:Act->World->Prop} {r:Ro} {s d t p:Value} (ht:bn hs (P7 r (s,d,t,p)) hs')
  (k:s.oneCell'=true->d.oneCell'=true->t.oneCell'=true->p.oneCell'=true->Tr c D sl (row 118 2 s r.sr.length (oH r.sr)::row 88 3 d r.de.length (l7 r.de)::row 122 3 t r.ti.length (qH r.ti)::row 180 3 p r.po.length (jC r.po)::hs') X):Tr c D sl hs X:=by
 intro a w a7;have hm:=a7.mem.jd (ht.append (mC D));have k2:Tr c D sl (row 118 2 s r.sr.length (oH r.sr)::row 88 3 d r.de.length (l7 r.de)::row 122 3 t r.ti.length (qH r.ti)::row 180 3 p r.po.length (jC r.po)::hs') X:=by
  refine aW (E:=118) (sz:=2) (v:=s) .here fun _ _ e=>?_;have k1:s.oneCell'=true:=by rw [e];rfl
  clear e;refine aW (E:=88) (sz:=3) (v:=d) (.there .here) fun _ _ e=>?_;have k2:d.oneCell'=true:=by rw [e];rfl
  clear e;refine aW (E:=122) (sz:=3) (v:=t) bT fun _ _ e=>?_;have k3:t.oneCell'=true:=by rw [e];rfl
  clear e;refine aW (E:=180) (sz:=3) (v:=p) db fun _ _ e=>?_;have k4:p.oneCell'=true:=by rw [e];rfl
  clear e;exact k k1 k2 k3 k4
 exact k2 a w (a7.heap hm)
theorem Cq {v1 v2:Value} {l m:List hP} {w:World} (h1:Rd w v1 2 (jQ l)) (Yt:xe w l) (h2:Rd w v2 2 (jQ m)) (Ys:xe w m) :
  aj T_ 53 [v1,v2] w (.bool (decide (dy l=dy m))):=by
 obtain ⟨a1,U7,b1,o1,rfl,nS,hG,kK,kc⟩:=h1;obtain ⟨a2,l8,b2,o2,rfl,jK,eE,iT,jL⟩:=h2;rw [eX] at *;rw [eX] at *;unfold maxLen at hG eE;refine ah func53 I I ?_
 (refine Jr<|Ja I<|Jn<|Jq<|Jr<|Jv I<|JI I<|Jv I<|JI I<|JD I<|Jn<|gl I (fun ar=>?_) fun ar=>?_;refine Jr<|Ja I<|Jn<|Ju<|JT ?_;rotate_left;refine Jk<|Jq<|Jr<|Ja I<|Jn<|J0 ?_;rotate_right)
 ·rw [decide_eq_false fun e=>ar (by have:=congrArg List.length e;unfold dy at this;rw [Zd,Zd] at this;rw [this])]
 have Un:l.length=m.length:=by omega
 refine aY (ι:=Nat) (fun k=>k<=l.length/\(dy l=dy m↔dy (l.drop k)=dy (m.drop k))) (fun k=>[(5,.int .i64 (k:Int)),(0,.slice a1 l.length U7),(1,.slice a2 m.length l8)]) (fun _=>[]) (fun k=>l.length-k) ?_ ?_
 ·apply aK (0:Nat) ⟨Zi _,Iff.rfl⟩
  case hs1=>exact cj
  case ht=>(try simp only [Ze,Zf,Za]);exact .nil
 rintro k ⟨hk,hf⟩;by_cases aL:k<l.length
 ·have fE:k<m.length:=by omega
  have we:=kK (nr aL);have ql:=iT (nr fE);have ln:=(kc k _ (kM aL)).2;have eB:=(jL k _ (kM fE)).2;have x1:=Yt _ (Zj aL);have x2:=Ys _ (Zj fE);have hd:dy (l.drop k)=dy (m.drop k)↔(l[k].tk=m[k].tk/\dy (l.drop (k+1))=dy (m.drop (k+1))):=by
   rw [List.drop_eq_getElem_cons aL,List.drop_eq_getElem_cons fE];unfold dy;rw [List.map_cons,List.map_cons];exact List.cons_eq_cons
  rw [hd] at hf;clear hd;unfold hP.cells at ln eB;generalize l[k]=x at ln x1 hf;generalize m[k]=y at eB x2 hf;obtain ⟨⟨xd,xs⟩,xv⟩:=x;obtain ⟨⟨yd,ys⟩,yv⟩:=y;dsimp only at ln eB x1 x2 hf;have c1:w.cell? ⟨b1,o1+k*2,none⟩=some (.string xd):=ln 0 _ I;have c2:w.cell? ⟨b2,o2+k*2,none⟩=some (.string yd):=eB 0 _ I;have c3:w.cell? ⟨b1,o1+k*2+1,none⟩=some xv:=ln 1 _ I;have c4:w.cell? ⟨b2,o2+k*2+1,none⟩=some yv:=eB 1 _ I;have Y5:∀ w',aD [] w w'->aj T_ 58 [xv,yv] w' (.bool (decide (xs=ys))):=fun w' hk=>zD (x1.keeps hk) (x2.keeps hk)
  refine Jq<|Jr<|Jv I<|Jv I<|JI I<|JA I<|Jn<|Jd I fun ar=>Jk<|Jq<|J0<|Jq ?_
  with_reducible refine cW 25 (by kernel_rfl) ?_
  (refine iv I I ?_;refine iv I I ?_;refine aA (gj we ar) I ?_;refine mG I I ae ?_;refine aA (ag (.of I) (At.base c1 I)) I ?_;refine iv I I ?_;refine iv I I ?_;refine aA (az (.of I) (.of I) ql (by omega) (by omega) ba) I ?_;refine mG I I ae ?_;refine aA (ag (.of I) (At.base c2 I)) I ?_;refine aA (ig (.of I) (.of I)) I ?_;refine iv I I ?_;refine dR I I inferInstance (fun hg br=>(aZ (.of I))) I ?_;refine dR I I inferInstance (fun hg br=>(aZ (.of I))) I ?_;refine dR I I inferInstance (fun hg br=>(az (.bL hg I) (.bL hg I) we (by omega) ar ba)) I ?_;refine dR I I inferInstance (fun hg br=>(ao (.bL hg I) ae)) I ?_;refine dR I I inferInstance (fun hg br=>(ag (.bL hg I) (At.base c3 I))) I ?_;refine dR I I inferInstance (fun hg br=>(aZ (.of I))) I ?_;refine dR I I inferInstance (fun hg br=>(aZ (.of I))) I ?_;refine dR I I inferInstance (fun hg br=>(az (.bL hg I) (.bL hg I) ql (by omega) (by omega) ba)) I ?_;refine dR I I inferInstance (fun hg br=>(ao (.bL hg I) ae)) I ?_;refine dR I I inferInstance (fun hg br=>(ag (.bL hg I) (At.base c4 I))) I ?_;refine wK I I (fun hg=>(bj (.of I) (.cons (.bL hg I) (.cons (.bL hg I) .nil)) inferInstance fL)) I (fun hg w' aq=>(Y5 w' (Mem.keeps aq))) ?_;refine dR I I inferInstance (fun hg br=>(eY (.bL hg I))) I ?_;refine aA (bX (.of I) I) I ?_)
  with_reducible refine cZ ?_
  (refine Jn<|oz I (fun ar=>?_) fun ar=>?_;refine Jr<|Ja I<|Jn<|Je<|Jm<|Jh<|Jh<|Jm<|Jh<|JT ?_;rotate_left;refine Jw<|Jj<|Jt<|Jg<|Jv I<|JB I (by omega)<|Ja I<|Jn ?_;rotate_right)
  ·have hne:¬ dy l=dy m:=fun e=>by
    obtain ⟨e1,_⟩:=hf.1 e;injection e1 with e2 e3
    rcases ar with h | h
    ·exact h e2
    ·exact h e3
   rw [decide_eq_false hne]
  ·obtain ⟨q1,q2⟩:=ar;have q1:=Decidable.not_not.1 q1;subst q1;subst q2;clear Y5;apply aJ (k+1) ⟨(show k+1<=l.length from aL),hf.trans ⟨fun e=>e.2,fun e=>⟨I,e⟩⟩⟩ (show l.length-(k+1)<l.length-k by omega)
   case hs1=>exact cj
   case ht=>(try simp only [Ze,Zf,Za]);exact .nil
 ·obtain rfl:k=l.length:=by omega
  have:dy l=dy m:=hf.2 (by rw [List.drop_length,Un,List.drop_length]);refine Jq<|Jr<|Jv I<|Jv I<|JI I<|JA I<|Jn<|Jc I fun ar=>Jp<|Jl<|Jo<|Jt<|Jr<|Ja I<|Jn<|Je<|JT ?_;rw [decide_eq_true this]
theorem Ih {r:Ro} {s d t p v:Value} {q:List Po} {w:World} (h:RR w r s d t p) (cL:nP r) (hv:Rd w v 3 (ud q)):aj T_ 110 [RA r s d t p,v] w (.bool (decide (r.po=q))):=by
 obtain ⟨h1,h2,h3,h4⟩:=h.one;have Y2:=hv;obtain ⟨av,cv,bv,ov,rfl,_,_,_,_⟩:=Y2;rw [cT] at *;have ht:∀ w',aD [] w w'->bh T_ 57 [.agg #[.int .i64 r.lv,.int .i64 r.ma,s,d,t,p]] w' [] (fun _:Value×Value×Value×Value=>True) (fun x=>RA r x.1 x.2.1 x.2.2.1 x.2.2.2) (fun x=>P7 r x):=fun w' hk=>Hz (h.keeps hk) cL
 unfold RA at ht ⊢;refine ah func110 I I ?_;refine Jr<|Jy I I fun _ _=>Ja I<|Ji<|ab (cr .here) I ?_;refine JN bN I (fun w1 aS=>ht w1 aS.keeps) ?_;rintro ⟨s1,d1,t1,p1⟩ _;dsimp only
 try unfold RA
 refine mh (r:=r) (s:=s1) (d:=d1) (t:=t1) (p:=p1) (bz _ _) fun k1 k2 k3 k4=>?_
 (refine Jz I I fun _ _=>au (.of I) (.of I) .here I I (iS I I k1 k2 k3 k4) (bF I) an ?_;refine Ji<|Jv I<|bK I I ae ?_;refine au (.of I) (.of I) .here I I (eF I) (bF I) an ?_;refine Jn<|Jq ?_)
 with_reducible refine fc 5 (by kernel_rfl) ?_
 refine aH (fun β=>(cm (.of I) fy an (by rfl))) bM I ?_;dsimp only [Nat.zero_add,Nat.reduceAdd]
 with_reducible apply im (ι:=Value×Value×Value×Value) (Φ:=fun _=>True) (val:=fun x=>.agg #[.int .i64 r.lv,.int .i64 r.ma,x.1,x.2.1,x.2.2.1,x.2.2.2]) (own:=fun x=>P7 r x) (g:=g4) (B:=[]) (args:=fun _=>[.agg #[.int .i64 r.lv,.int .i64 r.ma,s,d,t,p]])
 case hg=>exact B4
 case hB=>rfl
 case hr=>exact fun β=>bj (.of I) (.cons (.of I) .nil) inferInstance I
 case hd=>rfl
 case hc=>exact fun β w' hb=>ht w' hb.mem.keeps
 dsimp only [Nat.reduceAdd];refine aH (fun β=>(cm (.of I) .here an (by rfl))) bM I ?_;dsimp only [Nat.reduceAdd]
 with_reducible apply cV (B:=[1]) (F:=fun _=>.bool (decide (r={ r with po:=q }))) (args:=fun β=>[.agg #[.int .i64 r.lv,.int .i64 r.ma,(g4 (β 1)).1,(g4 (β 1)).2.1,(g4 (β 1)).2.2.1,(g4 (β 1)).2.2.2],.agg #[.int .i64 r.lv,.int .i64 r.ma,s1,d1,t1,.slice av q.length cv]])
 case hB=>kernel_rfl
 case hr=>exact fun β=>bj (.of I) (.cons (.of I) (.cons (.of I) .nil)) inferInstance I
 case hi=>exact bM
 case hd=>rfl
 case hc=>
  intro β w' dD;have m1:=dD.at 1 List.mem_cons_self (s:=⟨fun β=>.agg #[.int .i64 r.lv,.int .i64 r.ma,(g4 (β 1)).1,(g4 (β 1)).2.1,(g4 (β 1)).2.2.1,(g4 (β 1)).2.2.2],fun β=>P7 r (g4 (β 1))⟩) (by kernel_rfl)
  dsimp only at m1;have hk:=dD.mem.keeps;have r1:=Te m1 (bz _ _);have m2:=dD.mem;have r2:RR w' { r with po:=q } s1 d1 t1 (.slice av q.length cv):=⟨du m2 (by exact Take.there .here) I,dw m2 bT I,dq m2 db I,hv.keeps hk⟩
  exact Sl r1 r2
 refine aH (fun β=>(cF (.of I))) bM I ?_;refine ic fun β=>?_;dsimp only [fK,Za,Zb,List.append_eq,Nat.reduceAdd]
 with_reducible refine dp (by kernel_rfl) ?_
 refine Jt<|Je<|JT ?_;have e:(r={ r with po:=q })↔r.po=q:=⟨fun e=>congrArg Ro.po e,fun e=>by cases r;subst e;rfl⟩
 rw [decide_eq_decide.2 e]
theorem fj {c:Cx} {D:List Nat} {sl:aI} {hs rest:List a8} {X:Act->World->Prop} (hs2:List a8) (ht:bn hs hs2 rest) (k:Tr c D sl hs2 X):Tr c D sl hs X:=fun a w a7=>k a w (a7.heap (by
 have h1:=a7.mem.jd (ht.append (mC D));obtain ⟨kk,fp,hn,gQ,hb⟩:=h1;obtain ⟨f1,f23,rfl,g1,g23⟩:=ch.append_iff.1 gQ;obtain ⟨f2,f3,rfl,g2,g3⟩:=ch.append_iff.1 g23;obtain ⟨n1,n23,n12⟩:=List.nodup_append.1 hn;obtain ⟨n2,n3,n4⟩:=List.nodup_append.1 n23;exact ⟨kk,f1++f3,List.nodup_append.2 ⟨n1,n3,fun x hx y hy=>n12 x hx y (List.mem_append_right _ hy)⟩,ch.append_iff.2 ⟨f1,f3,I,g1,g3⟩,fun b dD=>hb b (by
  rcases List.mem_append.1 dD with h | h
  ·exact List.mem_append_left _ h
  ·exact List.mem_append_right _ (List.mem_append_right _ h))⟩))
theorem r8:np ml:=⟨by decide,by decide,by decide⟩
theorem Fi:np gE:=⟨by decide,by decide,by decide⟩
theorem Fh:np iq:=⟨by decide,by decide,by decide⟩
theorem UX:np C0:=⟨by decide,by decide,by decide⟩
theorem An:nP gE:=⟨by decide,by decide,by decide,by decide⟩
theorem Am:nP iq:=⟨by decide,by decide,by decide,by decide⟩
theorem YD:nP wX:=⟨by decide,by decide,by decide,by decide⟩
theorem UU:nP C0:=⟨by decide,by decide,by decide,by decide⟩
theorem D3 {r:Ro} {s d t p:Value} {w:World} {e:Int} {Y:List ByteArray} (v:Int) (so de:ByteArray) (h:RR w r s d t p) (hf:np r) (e1:rk r v so de=e) (e2:mf r v so de=Y):bh T_ 70 [.agg #[.int .i64 (r).lv,.int .i64 (r).ma,s,d,t,p],.int .i64 v,.string so,.string de] w [] (fun _:Value=>True) (fun x=>.tuple #[x,.int .i64 e]) (fun x=>[row 9 1 x Y.length (aM Y)]):=by
 subst e1 e2;exact Vo v so de h hf
theorem Sg {r:Ro} {s d t p:Value} {w:World} {e:Int} {Y:List Int} (v:Int) (so de:ByteArray) (h:RR w r s d t p) (hf:np r) (e1:KD r v so de=e) (e2:GF r v so de=Y):bh T_ 36 [.agg #[.int .i64 (r).lv,.int .i64 (r).ma,s,d,t,p],.int .i64 v,.string so,.string de] w [] (fun _:Value=>True) (fun x=>.tuple #[x,.int .i64 e]) (fun x=>[row 3 1 x Y.length (Y.map (Value.int .i64))]):=by
 subst e1 e2;exact Vt v so de h hf
theorem PH {r q:Ro} {k:Tk} {s d t p v:Value} {w:World} (e:jz r [k]=(q,0,0)) (h:RR w r s d t p) (hf:np r) (hv:Rd w v 1 (fG k.so)):bh T_ 48 [.agg #[.int .i64 (r).lv,.int .i64 (r).ma,s,d,t,p],.agg #[.string k.de,v]] w [] (fun _:Value×Value×Value×Value=>True) (fun y=>.tuple #[.agg #[.int .i64 (q).lv,.int .i64 (q).ma,y.1,y.2.1,y.2.2.1,y.2.2.2],.int .i64 0]) (fun y=>uw q y):=by
 have:=Ox (x:=⟨k,v⟩) h hf hv;rw [show (hP.mk k v).tk=k from I,e] at this;exact this
theorem PJ {r q:Ro} {l:List hP} {i e_:Int} {s d t p v:Value} {w:World} (e:jz r (dy l)=(q,i,e_)) (h:RR w r s d t p) (hf:np r) (hv:Rd w v 2 (jQ l)) (hM:xe w l):bh T_ 45 [.agg #[.int .i64 (r).lv,.int .i64 (r).ma,s,d,t,p],v] w [] (fun _:Value×Value×Value×Value=>True) (fun y=>.tuple #[.agg #[.int .i64 (q).lv,.int .i64 (q).ma,y.1,y.2.1,y.2.2.1,y.2.2.2],.int .i64 i,.int .i64 e_]) (fun y=>uw q y):=by
 have:=AJ h hf hv hM;rw [e] at this;exact this
theorem Vf {r:Ro} {l:List hP} {m:List Tk} {s d t p v:Value} {w:World} (e:(jz r (dy l)).2.2=0) (e2:LX r (dy l)=m) (h:RR w r s d t p) (hf:np r) (hv:Rd w v 2 (jQ l)) (hM:xe w l):bh T_ 47 [.agg #[.int .i64 (r).lv,.int .i64 (r).ma,s,d,t,p],v] w [] (fun x:Value×List hP=>dy x.2=m) (fun x=>.tuple #[x.1,.int .i64 0]) (fun x=>[row 78 2 x.1 x.2.length (jQ x.2).flatten,LZ x.2]):=by
 have:=Lc h hf hv hM;rw [e,e2] at this;exact this
theorem Vj {r:Ro} {s d t p:Value} {w:World} {e:Int} {Y:List ByteArray} (o:ByteArray) (h:RR w r s d t p) (hf:np r) (e1:JX r o=e) (e2:Gp r o=Y):bh T_ 20 [.agg #[.int .i64 (r).lv,.int .i64 (r).ma,s,d,t,p],.string o] w [] (fun _:Value=>True) (fun x=>.tuple #[x,.int .i64 e]) (fun x=>[row 9 1 x Y.length (aM Y)]):=by
 subst e1 e2;exact Sn o h hf
theorem Vg {r:Ro} {s d t p:Value} {w:World} {e:Int} {Y:List ByteArray} (v:Int) (o:ByteArray) (h:RR w r s d t p) (hf:np r) (e1:Hq r v o=e) (e2:FH r v o=Y):bh T_ 22 [.agg #[.int .i64 (r).lv,.int .i64 (r).ma,s,d,t,p],.int .i64 v,.string o] w [] (fun _:Value=>True) (fun x=>.tuple #[x,.int .i64 e]) (fun x=>[row 9 1 x Y.length (aM Y)]):=by
 subst e1 e2;exact Ow v o h hf
theorem Vk {r:Ro} {s d t p:Value} {w:World} {e:Int} {Y:List ByteArray} (v:Int) (h:RR w r s d t p) (hf:np r) (e1:KU r v=e) (e2:GN r v=Y):bh T_ 23 [.agg #[.int .i64 (r).lv,.int .i64 (r).ma,s,d,t,p],.int .i64 v] w [] (fun _:Value=>True) (fun x=>.tuple #[x,.int .i64 e]) (fun x=>[row 9 1 x Y.length (aM Y)]):=by
 subst e1 e2;exact Sq v h hf
theorem Ve {r:Ro} {s d t p:Value} {w:World} {e:Int} {Y:List ByteArray} (v:Int) (o:ByteArray) (h:RR w r s d t p) (hf:np r) (e1:Hl r v o=e) (e2:FD r v o=Y):bh T_ 24 [.agg #[.int .i64 (r).lv,.int .i64 (r).ma,s,d,t,p],.int .i64 v,.string o] w [] (fun _:Value=>True) (fun x=>.tuple #[x,.int .i64 e]) (fun x=>[row 9 1 x Y.length (aM Y)]):=by
 subst e1 e2;exact Ov v o h hf
theorem Vi {r q:Ro} {s d t p:Value} {w:World} {b:Bool} (o:ByteArray) (h:RR w r s d t p) (hf:np r) (e1:yz r o=0) (e2:yy r o b=q):bh T_ 78 [.agg #[.int .i64 (r).lv,.int .i64 (r).ma,s,d,t,p],.string o,.bool b] w [] (fun _:Value×Value×Value×Value=>True) (fun y=>.tuple #[.agg #[.int .i64 (q).lv,.int .i64 (q).ma,y.1,y.2.1,y.2.2.1,y.2.2.2],.int .i64 0]) (fun y=>uw q y):=by
 have:=Cs o b h hf;rw [e1,e2] at this;exact this
theorem K2 {r:Ro} {l:List qq} {m:List Od} {s d t p v:Value} {w:World} {Y:List ByteArray} (o:ByteArray) (f:Int) (em:eC l=m) (h:RR w r s d t p) (hf:np r) (e1:rz r m o f=0) (e2:ub r m o f=Y) (hv:Rd w v 2 (tx l)) (hM:G5 w l):bh T_ 64 [.agg #[.int .i64 (r).lv,.int .i64 (r).ma,s,d,t,p],v,.string o,.int .i64 f] w [] (fun _:Value=>True) (fun x=>.tuple #[x,.int .i64 0]) (fun x=>[row 9 1 x Y.length (aM Y)]):=by
 have:=Sk o f h hf hv hM;rw [em,e1,e2] at this;exact this
theorem jN (w:World):bh T_ 105 [] w [] (fun _:Value×Value×Value×Value=>True) (fun x=>.agg #[.int .i64 (ml).lv,.int .i64 (ml).ma,x.1,x.2.1,x.2.2.1,x.2.2.2]) (fun x=>uw ml x):=NZ w
theorem kZ {r:Ro} {s d t p:Value} {w:World} (h:RR w r s d t p) (hf:nP r):bh T_ 57 [.agg #[.int .i64 (r).lv,.int .i64 (r).ma,s,d,t,p]] w [] (fun _:Value×Value×Value×Value=>True) (fun x=>.agg #[.int .i64 (r).lv,.int .i64 (r).ma,x.1,x.2.1,x.2.2.1,x.2.2.2]) (fun x=>P7 r x):=Hz h hf
theorem lC {r:Ro} {s d t p:Value} {w:World} (h:RR w r s d t p) (hf:nP r):bh T_ 21 [.agg #[.int .i64 (r).lv,.int .i64 (r).ma,s,d,t,p]] w [] (fun _:Value×Value×Value×Value=>True) (fun x=>.agg #[.int .i64 (r).lv,.int .i64 (r).ma,x.1,x.2.1,x.2.2.1,x.2.2.2]) (fun x=>uw r x):=Tz h hf
theorem PI (w:World):bh T_ 106 [] w [] (fun _:Option Addr×Nat=>True) (fun x=>.agg #[.string dT,.slice x.1 2 x.2]) (fun x=>[row 9 1 (.slice x.1 2 x.2) 2 (aM oq.so)]):=RU w
theorem Vh (w:World):bh T_ 107 [] w [] (fun _:Option Addr×Nat=>True) (fun x=>.agg #[.string jo,.slice x.1 2 x.2]) (fun x=>[row 9 1 (.slice x.1 2 x.2) 2 (aM Su.so)]):=RT w
theorem K1 (w:World):bh T_ 108 [] w [] (fun _:Option Addr×Nat=>True) (fun x=>.agg #[.string dT,.slice x.1 2 x.2]) (fun x=>[row 9 1 (.slice x.1 2 x.2) 2 (aM oo.so)]):=RS w
theorem iw {w:World} {x:hP} {l:List hP} (h:Rd w x.v 1 (fG x.tk.so)) (k:xe w l):xe w (x::l):=fun y hy=>by
 rcases List.mem_cons.1 hy with rfl | hy
 ·exact h
 ·exact k y hy
theorem j8 (w:World):xe w []:=fun _ h=>absurd h List.not_mem_nil
theorem lW {v1 v2:Value} {l:List ByteArray} {w:World} (h1:Rd w v1 1 (fG l)) (h2:Rd w v2 1 (fG l)):aj T_ 58 [v1,v2] w (.bool true):=by
 have:=zD h1 h2;rwa [decide_eq_true I] at this
theorem Mu {v1 v2:Value} {l:List Int} {w:World} (h1:Rd w v1 1 (ints l)) (h2:Rd w v2 1 (ints l)):aj T_ 109 [v1,v2] w (.bool true):=by
 have:=Mv h1 h2;rwa [decide_eq_true I] at this
theorem YQ {c:Cx} {hs hs':List a8} {w:World} {W:List hP} (hm:Mem c hs w) (ht:Take hs (LZ W) hs'):xe w W:=fun x hx=>by
 obtain ⟨j,hj,rfl⟩:=List.getElem_of_mem hx;have:=hm.vq (j:=j) (v:=W[j].v) (x:=aM W[j].tk.so) ht (by rw [List.getElem?_map,Zc hj];rfl) (by rw [List.getElem?_map,Zc hj];rfl);have e:(aM W[j].tk.so).map (fun u=>[u])=fG W[j].tk.so:=by unfold aM fG;rw [List.map_map];rfl
 rwa [e] at this
theorem Mt {v1 v2:Value} {l m:List hP} {w:World} (h1:Rd w v1 2 (jQ l)) (Yt:xe w l) (h2:Rd w v2 2 (jQ m)) (Ys:xe w m) (e:dy l=dy m):aj T_ 53 [v1,v2] w (.bool true):=by
 have:=Cq h1 Yt h2 Ys;rwa [decide_eq_true e] at this
theorem H9 {r:Ro} {s d t p v:Value} {q:List Po} {w:World} (h:RR w r s d t p) (cL:nP r) (hv:Rd w v 3 (ud q)) (e:r.po=q):aj T_ 110 [.agg #[.int .i64 (r).lv,.int .i64 (r).ma,s,d,t,p],v] w (.bool true):=by
 have:=Ih h cL hv;rwa [decide_eq_true e] at this
theorem dV {P:Program} {c:Cx} {sl:aI} {hs:List a8} {dst:Option Tmp} {ty:TypeId} {pos:String} {af:Array Edge} {g:Option (Nat×Bool)} {x y z:Operand} {q:Bool} {v u V:Value} (hx:Is sl x (.bool q)) (hy:Is sl y v) (hz:Is sl z u) (e:(bif q then v else u)=V):cQ P c sl hs ⟨dst,.pick x y z,ty,pos,af,g⟩ V:=e ▸ uA hx hy hz
theorem Wu {c:Cx} {hs hs':List a8} {w:World} {g:Nat} {x:ByteArray} {E:TypeId} {fz:Nat×Nat} (hm:Mem c hs w) (ht:Take hs (bC g (.cells #[.string x] E fz)) hs'):Rd w (.slice (some ⟨g,0,none⟩) 1 1) 1 (fG [x]):=Mem.df hm ht I I
theorem Wt {c:Cx} {hs hs':List a8} {w:World} {g:Nat} {x y z:ByteArray} {E:TypeId} {fz:Nat×Nat} (hm:Mem c hs w) (ht:Take hs (bC g (.cells #[.string x,.string y,.string z] E fz)) hs'):Rd w (.slice (some ⟨g,0,none⟩) 3 3) 1 (fG [x,y,z]):=Mem.df hm ht I I
theorem C7 {c:Cx} {hs hs':List a8} {w:World} {g:Nat} {x y:ByteArray} {E:TypeId} {fz:Nat×Nat} (hm:Mem c hs w) (ht:Take hs (bC g (.cells #[.string x,.string y] E fz)) hs'):Rd w (.slice (some ⟨g,0,none⟩) 2 2) 1 (fG [x,y]):=Mem.df hm ht I I
theorem Dj {c:Cx} {hs hs':List a8} {w:World} {l:List qq} {E:TypeId} {v:Value} {n:Nat} (hm:Mem c hs w) (ht:Take hs (row E 2 v n (tx l).flatten) hs') (hn:l.length=n):Rd w v 2 (tx l):=hm.qx ht rfl (fun r hr=>by obtain ⟨x,_,rfl⟩:=List.mem_map.1 hr;rfl) (by rw [show (tx l).length=l.length from Zd _,hn])
theorem mR {w:World} {x:qq} {l:List qq} (h:Rd w x.v 2 (jQ x.tk)) (h2:xe w x.tk) (k:G5 w l):G5 w (x::l):=fun y hy=>by
 rcases List.mem_cons.1 hy with rfl | hy
 ·exact ⟨h,h2⟩
 ·exact k y hy
theorem zX (w:World):G5 w []:=fun _ h=>absurd h List.not_mem_nil
theorem Sf {s d t p:Value} {w:World} (h:RR w ml s d t p):aj T_ 85 [.agg #[.int .i64 (ml).lv,.int .i64 (ml).ma,s,d,t,p]] w (.tuple #[.string (Ia ml),.int .i64 0]):=by
 have:=Oy h r8;rwa [U3] at this
theorem FZ {P:Program} {c:Cx} {sl:aI} {hs:List a8} {dst:Option Tmp} {ty:TypeId} {pos:String} {af:Array Edge} {g:Option (Nat×Bool)} {t u:TypeId} {x y:Operand} {a b:ByteArray} (hx:Is sl x (.string a)) (hy:Is sl y (.string b)) (e:a=b) :
  cQ P c sl hs ⟨dst,.binOp .eql t x y u,ty,pos,af,g⟩ (.bool true):=by
 have:=eh (P:=P) (c:=c) (hs:=hs) (dst:=dst) (ty:=ty) (pos:=pos) (af:=af) (g:=g) (t:=t) (u:=u) hx hy;rwa [decide_eq_true e] at this
set_option maxRecDepth 20000 in
set_option maxHeartbeats 4000000 in
theorem Fw (w:World):aj T_ 17 [] w (.bool true):=by
 refine ah func17 I I ?_;refine Jr<|Ja I<|Ji ?_;refine JN om I (fun w1 aS=>jN w1) ?_;rintro ⟨s1,d1,t1,p1⟩ _
 try dsimp only [id_eq,Zb,Za]
 refine dW (r:=ml) (s:=s1) (d:=d1) (t:=t1) (p:=p1) (bz _ _) fun m1a m1b m1c m1d=>?_
 skip
 refine JN nO I (fun w1 aS=>D3 0 cN dT ⟨du aS (by exact .here) I,dw aS (by exact Take.there .here) I,dq aS bT I,cX aS db I⟩ r8 Pq.1 Pq.2) ?_;rintro x1 _
 try dsimp only [id_eq,Zb,Za]
 refine Jv I<|JJ I I<|JJ I I<|Ja I<|Ja I<|Ji ?_;refine JN om I (fun w1 aS=>jN w1) ?_;rintro ⟨s2,d2,t2,p2⟩ _
 try dsimp only [id_eq,Zb,Za]
 refine dW (r:=ml) (s:=s2) (d:=d2) (t:=t2) (p:=p2) (bz _ _) fun m2a m2b m2c m2d=>?_
 skip
 refine JN om I (fun w1 aS=>PI w1) ?_;rintro ⟨ya,yc⟩ _
 try dsimp only [id_eq,Zb,Za]
 skip
 refine JN aX I (fun w1 aS=>PH (k:=oq) U1 ⟨du aS (by exact Take.there .here) I,dw aS bT I,dq aS db I,cX aS fg I⟩ r8 (dL aS (by exact .here) (by exact I))) ?_;rintro ⟨s3,d3,t3,p3⟩ _
 try dsimp only [id_eq,Zb,Za]
 refine dW (r:=gE) (s:=s3) (d:=d3) (t:=t3) (p:=p3) (bz _ _) fun m3a m3b m3c m3d=>?_
 (refine Jv I<|JJ I I<|JJ I I<|Jz I I fun _ _=>au (.of I) (.of I) .here I I (iS I I m3a m3b m3c m3d) (bF I) an ?_;refine Ja I<|Ji<|ab (cr .here) I ?_)
 rename_i b3 tQ;refine fj [JW x1 [nT],bC b3 (.cells #[.int .i64 (gE).lv,.int .i64 (gE).ma,s3,d3,t3,p3] 41 (0,0)),J1 (gE) s3,J2 (gE) d3,J3 (gE) t3,J4 (gE) p3] (by exact .cons nj (.cons .here (.cons .here (.cons .here (.cons .here (.cons .here .nil)))))) ?_
 skip
 refine JN bN I (fun w1 aS=>kZ ⟨du aS bT I,dw aS db I,dq aS fg I,cX aS fy I⟩ An) ?_;rintro ⟨s4,d4,t4,p4⟩ _
 try dsimp only [id_eq,Zb,Za]
 refine mh (r:=gE) (s:=s4) (d:=d4) (t:=t4) (p:=p4) (bz _ _) fun m4a m4b m4c m4d=>?_
 skip
 refine JN bN I (fun w1 aS=>lC ⟨du aS (by exact .here) I,dw aS (by exact Take.there .here) I,dq aS bT I,cX aS db I⟩ An) ?_;rintro ⟨s5,d5,t5,p5⟩ _
 try dsimp only [id_eq,Zb,Za]
 refine dW (r:=gE) (s:=s5) (d:=d5) (t:=t5) (p:=p5) (bz _ _) fun m5a m5b m5c m5d=>?_
 skip
 refine JN om I (fun w1 aS=>Vh w1) ?_;rintro ⟨za,zc⟩ _
 try dsimp only [id_eq,Zb,Za]
 skip
 refine JN aX I (fun w1 aS=>PH (k:=Su) U0 ⟨du aS (by exact Take.there .here) I,dw aS bT I,dq aS db I,cX aS fg I⟩ Fi (dL aS (by exact .here) (by exact I))) ?_;rintro ⟨s6,d6,t6,p6⟩ _
 try dsimp only [id_eq,Zb,Za]
 refine dW (r:=iq) (s:=s6) (d:=d6) (t:=t6) (p:=p6) (bz _ _) fun m6a m6b m6c m6d=>?_
 (refine Jv I<|JJ I I<|JJ I I<|Jz I I fun _ _=>au (.of I) (.of I) .here I I (iS I I m6a m6b m6c m6d) (bF I) an ?_;refine Ja I<|Ji<|ab (cr .here) I ?_)
 rename_i b5 G0;refine fj [JW x1 [nT],bC b3 (.cells #[.int .i64 (gE).lv,.int .i64 (gE).ma,s3,d3,t3,p3] 41 (0,0)),J1 (gE) s3,J2 (gE) d3,J3 (gE) t3,J4 (gE) p3,bC b5 (.cells #[.int .i64 (iq).lv,.int .i64 (iq).ma,s6,d6,t6,p6] 41 (0,0)),J1 (iq) s6,J2 (iq) d6,J3 (iq) t6,J4 (iq) p6] (by exact .cons Cv (.cons Cv (.cons Cv (.cons Cv (.cons Cv (.cons Cv (.cons .here (.cons .here (.cons .here (.cons .here (.cons .here .nil))))))))))) ?_
 skip
 refine JN bN I (fun w1 aS=>kZ ⟨du aS Cu I,dw aS OB I,dq aS jm I,cX aS nj I⟩ Am) ?_;rintro ⟨s7,d7,t7,p7⟩ _
 try dsimp only [id_eq,Zb,Za]
 refine mh (r:=iq) (s:=s7) (d:=d7) (t:=t7) (p:=p7) (bz _ _) fun m7a m7b m7c m7d=>?_
 skip
 refine JN bN I (fun w1 aS=>lC ⟨du aS (by exact .here) I,dw aS (by exact Take.there .here) I,dq aS bT I,cX aS db I⟩ Am) ?_;rintro ⟨s8,d8,t8,p8⟩ _
 try dsimp only [id_eq,Zb,Za]
 refine dW (r:=iq) (s:=s8) (d:=d8) (t:=t8) (p:=p8) (bz _ _) fun m8a m8b m8c m8d=>?_
 skip
 refine JN om I (fun w1 aS=>K1 w1) ?_;rintro ⟨ua,uc⟩ _
 try dsimp only [id_eq,Zb,Za]
 refine bb (bu (.cons (.of I) .nil) I I bW bW an) I (fun _ _=>?_);rename_i g4 hg4;refine bY (g:=g4) (E:=78) (ys:=(jQ [⟨oo,.slice ua 2 uc⟩]).flatten) 1 2 (by exact .here) (by exact I) I I ?_;refine JN aX I (fun w1 aS=>PJ (l:=[⟨oo,.slice ua 2 uc⟩]) Pw ⟨du aS bT I,dw aS db I,dq aS fg I,cX aS fy I⟩ Fh (mM aS (by exact .here) (by exact I)) (iw (dL aS (by exact Take.there .here) (by exact I)) (j8 _))) ?_;rintro ⟨s9,d9,t9,p9⟩ _
 try dsimp only [id_eq,Zb,Za]
 refine dW (r:=wX) (s:=s9) (d:=d9) (t:=t9) (p:=p9) (bz _ _) fun m9a m9b m9c m9d=>?_
 (refine Jv I<|JJ I I<|JJ I I<|JJ I I<|Jz I I fun _ _=>au (.of I) (.of I) .here I I (iS I I m9a m9b m9c m9d) (bF I) an ?_;refine Ja I<|Ja I<|Ji<|ab (cr (.there (.there (.there (.there (.there ni)))))) I ?_)
 rename_i b7 UE;refine fj [JW x1 [nT],bC b3 (.cells #[.int .i64 (gE).lv,.int .i64 (gE).ma,s3,d3,t3,p3] 41 (0,0)),J1 (gE) s3,J2 (gE) d3,J3 (gE) t3,J4 (gE) p3,bC b5 (.cells #[.int .i64 (iq).lv,.int .i64 (iq).ma,s6,d6,t6,p6] 41 (0,0)),J1 (iq) s6,J2 (iq) d6,J3 (iq) t6,J4 (iq) p6,bC b7 (.cells #[.int .i64 (wX).lv,.int .i64 (wX).ma,s9,d9,t9,p9] 41 (0,0)),J1 (wX) s9,J2 (wX) d9,J3 (wX) t9,J4 (wX) p9] (by exact .cons jg (.cons jg (.cons jg (.cons jg (.cons jg (.cons jg (.cons jg (.cons jg (.cons jg (.cons jg (.cons jg (.cons .here (.cons .here (.cons .here (.cons .here (.cons .here .nil)))))))))))))))) ?_
 skip
 refine JN bN I (fun w1 aS=>kZ ⟨du aS Cu I,dw aS OB I,dq aS jm I,cX aS nj I⟩ Am) ?_;rintro ⟨s10,d10,t10,p10⟩ _
 try dsimp only [id_eq,Zb,Za]
 refine mh (r:=iq) (s:=s10) (d:=d10) (t:=t10) (p:=p10) (bz _ _) fun acK acJ acI acH=>?_
 skip
 refine JN bN I (fun w1 aS=>lC ⟨du aS (by exact .here) I,dw aS (by exact Take.there .here) I,dq aS bT I,cX aS db I⟩ Am) ?_;rintro ⟨s11,d11,t11,p11⟩ _
 try dsimp only [id_eq,Zb,Za]
 refine dW (r:=iq) (s:=s11) (d:=d11) (t:=t11) (p:=p11) (bz _ _) fun acG acF acE acD=>?_
 skip
 refine JN om I (fun w1 aS=>K1 w1) ?_;rintro ⟨va,vc⟩ _
 try dsimp only [id_eq,Zb,Za]
 refine bb (bu (.cons (.of I) .nil) I I bW bW an) I (fun _ _=>?_);rename_i g5 hg5;refine bY (g:=g5) (E:=78) (ys:=(jQ [⟨oo,.slice va 2 vc⟩]).flatten) 1 2 (by exact .here) (by exact I) I I ?_;refine JN aX I (fun w1 aS=>Vf (l:=[⟨oo,.slice va 2 vc⟩]) (m:=[oq]) (congrArg (fun x:Ro×Int×Int=>x.2.2) Pw) UY ⟨du aS bT I,dw aS db I,dq aS fg I,cX aS fy I⟩ Fh (mM aS (by exact .here) (by exact I)) (iw (dL aS (by exact Take.there .here) (by exact I)) (j8 _))) ?_;rintro ⟨xM,W⟩ hW
 try dsimp only at hW
 try dsimp only [id_eq,Zb,Za]
 refine Jv I<|JJ I I<|JJ I I<|Ja I<|Ja I<|Ji ?_;refine fj [JW x1 [nT],bC b3 (.cells #[.int .i64 (gE).lv,.int .i64 (gE).ma,s3,d3,t3,p3] 41 (0,0)),J1 (gE) s3,J2 (gE) d3,J3 (gE) t3,J4 (gE) p3,bC b5 (.cells #[.int .i64 (iq).lv,.int .i64 (iq).ma,s6,d6,t6,p6] 41 (0,0)),J1 (iq) s6,J2 (iq) d6,J3 (iq) t6,J4 (iq) p6,bC b7 (.cells #[.int .i64 (wX).lv,.int .i64 (wX).ma,s9,d9,t9,p9] 41 (0,0)),J1 (wX) s9,J2 (wX) d9,J3 (wX) t9,J4 (wX) p9,row 78 2 xM W.length (jQ W).flatten,LZ W] (by exact .cons lS (.cons lS (.cons lS (.cons lS (.cons lS (.cons lS (.cons lS (.cons lS (.cons lS (.cons lS (.cons lS (.cons lS (.cons lS (.cons lS (.cons lS (.cons lS (.cons .here (.cons .here .nil)))))))))))))))))) ?_
 skip
 refine JN om I (fun w1 aS=>jN w1) ?_;rintro ⟨s12,d12,t12,p12⟩ _
 try dsimp only [id_eq,Zb,Za]
 refine dW (r:=ml) (s:=s12) (d:=d12) (t:=t12) (p:=p12) (bz _ _) fun acC acB acA acz=>?_
 skip
 refine JN nO I (fun w1 aS=>D3 0 kE od ⟨du aS (by exact .here) I,dw aS (by exact Take.there .here) I,dq aS bT I,cX aS db I⟩ r8 Pp.1 Pp.2) ?_;rintro GU _
 try dsimp only [id_eq,Zb,Za]
 refine Jv I<|JJ I I<|JJ I I<|Ja I<|Ja I<|Ji ?_;refine JN om I (fun w1 aS=>jN w1) ?_;rintro ⟨s13,d13,t13,p13⟩ _
 try dsimp only [id_eq,Zb,Za]
 refine dW (r:=ml) (s:=s13) (d:=d13) (t:=t13) (p:=p13) (bz _ _) fun acx acw acv acu=>?_
 skip
 refine JN nO I (fun w1 aS=>Sg 0 kE od ⟨du aS (by exact .here) I,dw aS (by exact Take.there .here) I,dq aS bT I,cX aS db I⟩ r8 Py.1 Py.2) ?_;rintro PS _
 try dsimp only [id_eq,Zb,Za]
 refine Jv I<|JJ I I<|JJ I I<|Ja I<|Ja I<|Ji ?_;refine JN om I (fun w1 aS=>jN w1) ?_;rintro ⟨Wp,d14,t14,WG⟩ _
 try dsimp only [id_eq,Zb,Za]
 refine dW (r:=ml) (s:=Wp) (d:=d14) (t:=t14) (p:=WG) (bz _ _) fun acs acr acq acp=>?_;refine bb (aB (.cons (.of I) .nil) I I I I) I (fun _ _=>?_);rename_i g8 hg8
 with_reducible apply ai
 case hr=>exact Cy
 case hd=>rfl
 case hc=>
  intro w1 aS;have:=Ed (r:=ml) (s:=Wp) (d:=d14) (t:=t14) (p:=WG) (cv:=.slice (some ⟨g8,0,none⟩) 1 1) 0 kE od (L:=[0]) (⟨du aS (by exact Take.there .here) I,dw aS bT I,dq aS db I,cX aS fg I⟩:RR w1 ml Wp d14 t14 WG) r8 (Mem.df aS (by exact .here) I I);rw [U4] at this;exact this
 refine fj [JW x1 [nT],bC b3 (.cells #[.int .i64 (gE).lv,.int .i64 (gE).ma,s3,d3,t3,p3] 41 (0,0)),J1 (gE) s3,J2 (gE) d3,J3 (gE) t3,J4 (gE) p3,bC b5 (.cells #[.int .i64 (iq).lv,.int .i64 (iq).ma,s6,d6,t6,p6] 41 (0,0)),J1 (iq) s6,J2 (iq) d6,J3 (iq) t6,J4 (iq) p6,bC b7 (.cells #[.int .i64 (wX).lv,.int .i64 (wX).ma,s9,d9,t9,p9] 41 (0,0)),J1 (wX) s9,J2 (wX) d9,J3 (wX) t9,J4 (wX) p9,row 78 2 xM W.length (jQ W).flatten,LZ W,row 3 1 PS [(1:Int)].length ([(1:Int)].map (Value.int .i64))] (by exact .cons jg (.cons jg (.cons jg (.cons jg (.cons jg (.cons jg (.cons jg (.cons jg (.cons jg (.cons jg (.cons jg (.cons jg (.cons jg (.cons jg (.cons jg (.cons jg (.cons jg (.cons jg (.cons fy .nil))))))))))))))))))) ?_
 (refine Ja I<|Jn<|Jq<|Jr<|Jv I<|Jv I<|JB I (by omega)<|Jv I<|JB I (by omega)<|Jv I<|JB I (by omega)<|Jv I<|JB I (by omega)<|Jv I<|JB I (by omega)<|JD I<|Jv I<|JK I I<|Jv I<|JK I I<|JD I<|ab (dV (.of I) (.of I) (.of I) I) I ?_;refine Jv I<|JK I I<|Jv I<|JK I I<|JD I<|ab (dV (.of I) (.of I) (.of I) I) I ?_;refine Jv I<|JK I I<|Jv I<|JK I I<|JD I<|ab (dV (.of I) (.of I) (.of I) I) I ?_;refine Jv I<|JK I I<|Jv I<|JK I I<|bb (aB (.cons (.of I) .nil) I I I I) I fun _ _=>?_;refine JK I I ?_)
 skip
 rename_i g9a adL;refine ai aX I (fun w1 aS=>lW (l:=[nT]) (dL aS (by exact Take.there .here) (by exact I)) (Mem.df aS (by exact .here) I I)) ?_
 (refine JK I I<|JH I<|ab (dV (.of I) (.of I) (.of I) I) I ?_;refine Jv I<|JK I I<|Jv I<|JK I I<|bb (aB (.cons (.of I) .nil) I I I I) I fun _ _=>?_;refine JK I I ?_)
 rename_i g9b adK;refine ai aX I (fun w1 aS=>Mu (l:=[1]) (kS aS (.there (.there (.there (.there ni)))) (by exact I)) (Mem.df aS (by exact .here) I I)) ?_
 (refine JK I I<|JH I<|ab (dV (.of I) (.of I) (.of I) I) I ?_;refine Jv I<|JK I I<|Jv I<|JK I I ?_)
 have RG:W.length<=1000:=by
  have h:=congrArg List.length hW;unfold dy at h;rw [Zd] at h;rw [h];decide
 have hWs:∀ x∈W,x.tk.so.length<=1000:=by
  intro x hx;have h:x.tk∈dy W:=List.mem_map_of_mem hx;rw [hW] at h;rw [List.mem_singleton.1 h];decide
 refine JN bN I (fun w1 aS=>Mf (mM aS (.there (.there ni)) (by exact I)) (YQ aS (.there (.there (.there ni)))) RG hWs) ?_;rintro ⟨x9,V⟩ hV
 try dsimp only at hV
 try dsimp only [id_eq,Zb,Za]
 (refine JK I I<|bb (aB (.cons (.of I) (.cons (.of I) .nil)) I I I I) I fun _ _=>?_;refine JK I I<|ab (aT (.cons (.of I) (.cons (.of I) .nil)) an) I ?_;refine JK I I<|bb (bu (.cons (.of I) .nil) I I bW bW an) I fun _ _=>?_;refine JK I I ?_)
 rename_i ZY adJ g9d adI;refine bY (g:=g9d) (E:=69) (ys:=(jQ [⟨oq,.slice (some ⟨ZY,0,none⟩) 2 2⟩]).flatten) 1 2 (by exact .here) (by exact I) I I ?_;refine ai aX I (fun w1 aS=>Mt (m:=[⟨oq,.slice (some ⟨ZY,0,none⟩) 2 2⟩]) (mM aS bT (by exact I)) (YQ aS db) (mM aS (by exact .here) (by exact I)) (iw (Mem.df aS (by exact Take.there .here) I I) (j8 _)) (hV.trans (hW.trans I))) ?_
 (refine JK I I<|JH I<|ab (dV (.of I) (.of I) (.of I) I) I ?_;refine Jn<|bR (.of I) ?_;refine Jk<|Jq<|Jr<|ab (cr Cu) I ?_;refine ab (aT (.cons (.of I) (.cons (.of I) (.cons (.of I) .nil))) an) I ?_;refine ab (aT (.cons (.of I) (.cons (.of I) (.cons (.of I) .nil))) an) I ?_;refine ab (aT (.cons (.of I) (.cons (.of I) (.cons (.of I) .nil))) an) I ?_;refine ab (aT (.cons (.of I) (.cons (.of I) (.cons (.of I) .nil))) an) I ?_;refine bb (bu (.cons (.of I) (.cons (.of I) (.cons (.of I) (.cons (.of I) .nil)))) I I bW bW an) I fun _ _=>?_)
 rename_i YC Zu;refine bY (g:=YC) (E:=180) (ys:=jC WD) 4 3 (by exact .here) (by exact I) I I ?_;refine ai aX I (fun w1 aS=>H9 (r:=gE) (q:=WD) ⟨du aS jm I,dw aS nj I,dq aS Cw I,cX aS lS I⟩ An (cX aS (by exact .here) (by exact I)) I) ?_
 (refine JH I<|Jv I<|JK I I<|ab (cr Sm) I ?_;refine JK I I<|ab (aT (.cons (.of I) (.cons (.of I) (.cons (.of I) .nil))) an) I ?_;refine JK I I<|ab (aT (.cons (.of I) (.cons (.of I) (.cons (.of I) .nil))) an) I ?_;refine JK I I<|ab (aT (.cons (.of I) (.cons (.of I) (.cons (.of I) .nil))) an) I ?_;refine JK I I<|ab (aT (.cons (.of I) (.cons (.of I) (.cons (.of I) .nil))) an) I ?_;refine JK I I<|ab (aT (.cons (.of I) (.cons (.of I) (.cons (.of I) .nil))) an) I ?_;refine JK I I<|bb (bu (.cons (.of I) (.cons (.of I) (.cons (.of I) (.cons (.of I) (.cons (.of I) .nil))))) I I bW bW an) I fun _ _=>?_;refine JK I I ?_)
 rename_i YB Zt;refine bY (g:=YB) (E:=180) (ys:=jC WC) 5 3 (by exact .here) (by exact I) I I ?_;refine ai aX I (fun w1 aS=>H9 (r:=iq) (q:=WC) ⟨du aS jg I,dw aS ni I,dq aS (.there ni) I,cX aS (.there (.there ni)) I⟩ Am (cX aS (by exact .here) (by exact I)) I) ?_
 (refine JK I I<|JH I<|ab (dV (.of I) (.of I) (.of I) I) I ?_;refine Jv I<|JK I I<|ab (cr (.there (.there (.there ni)))) I ?_;refine JK I I<|ab (aT (.cons (.of I) (.cons (.of I) (.cons (.of I) .nil))) an) I ?_;refine JK I I<|ab (aT (.cons (.of I) (.cons (.of I) (.cons (.of I) .nil))) an) I ?_;refine JK I I<|ab (aT (.cons (.of I) (.cons (.of I) (.cons (.of I) .nil))) an) I ?_;refine JK I I<|ab (aT (.cons (.of I) (.cons (.of I) (.cons (.of I) .nil))) an) I ?_;refine JK I I<|bb (bu (.cons (.of I) (.cons (.of I) (.cons (.of I) (.cons (.of I) .nil)))) I I bW bW an) I fun _ _=>?_;refine JK I I ?_)
 rename_i YA Zs;refine bY (g:=YA) (E:=180) (ys:=jC WB) 4 3 (by exact .here) (by exact I) I I ?_;refine ai aX I (fun w1 aS=>H9 (r:=wX) (q:=WB) ⟨du aS (.there (.there (.there (.there (.there ni))))) I,dw aS (.there (.there (.there (.there (.there (.there ni)))))) I,dq aS (.there (.there (.there (.there (.there (.there (.there ni))))))) I,cX aS (.there (.there (.there (.there (.there (.there (.there (.there ni)))))))) I⟩ YD (cX aS (by exact .here) (by exact I)) I) ?_
 (refine JK I I<|JH I<|ab (dV (.of I) (.of I) (.of I) I) I ?_;refine Jn<|bR (.of I) ?_;refine Jk<|Jr<|ab (cr jg) I ?_)
 refine fj [bC b3 (.cells #[.int .i64 (gE).lv,.int .i64 (gE).ma,s3,d3,t3,p3] 41 (0,0)),J1 (gE) s3,J2 (gE) d3,J3 (gE) t3,J4 (gE) p3,bC b5 (.cells #[.int .i64 (iq).lv,.int .i64 (iq).ma,s6,d6,t6,p6] 41 (0,0)),J1 (iq) s6,J2 (iq) d6,J3 (iq) t6,J4 (iq) p6] (by exact .cons nj (.cons nj (.cons nj (.cons nj (.cons nj (.cons nj (.cons nj (.cons nj (.cons nj (.cons nj .nil)))))))))) ?_;refine JN bN I (fun w1 aS=>kZ ⟨du aS re I,dw aS Cu I,dq aS OB I,cX aS jm I⟩ Am) ?_;rintro ⟨s15,d15,t15,p15⟩ _
 try dsimp only [id_eq,Zb,Za]
 refine mh (r:=iq) (s:=s15) (d:=d15) (t:=t15) (p:=p15) (bz _ _) fun aco acn acm ack=>?_
 skip
 refine JN bN I (fun w1 aS=>lC ⟨du aS (by exact .here) I,dw aS (by exact Take.there .here) I,dq aS bT I,cX aS db I⟩ Am) ?_;rintro ⟨s16,d16,t16,p16⟩ _
 try dsimp only [id_eq,Zb,Za]
 refine dW (r:=iq) (s:=s16) (d:=d16) (t:=t16) (p:=p16) (bz _ _) fun acj aci ach acg=>?_
 skip
 refine JN aX I (fun w1 aS=>Vj jo ⟨du aS (by exact .here) I,dw aS (by exact Take.there .here) I,dq aS bT I,cX aS db I⟩ Fh U2.1 U2.2) ?_;rintro G6 _
 try dsimp only [id_eq,Zb,Za]
 refine Jv I<|JJ I I<|JJ I I<|Ja I<|Ja I<|Ji<|ab (cr jm) I ?_;refine fj [bC b3 (.cells #[.int .i64 (gE).lv,.int .i64 (gE).ma,s3,d3,t3,p3] 41 (0,0)),J1 (gE) s3,J2 (gE) d3,J3 (gE) t3,J4 (gE) p3,bC b5 (.cells #[.int .i64 (iq).lv,.int .i64 (iq).ma,s6,d6,t6,p6] 41 (0,0)),J1 (iq) s6,J2 (iq) d6,J3 (iq) t6,J4 (iq) p6,row 9 1 G6 ([cN,⟨#[]⟩]:List ByteArray).length (aM [cN,⟨#[]⟩])] (by exact .cons jm (.cons jm (.cons jm (.cons jm (.cons jm (.cons jm (.cons jm (.cons jm (.cons jm (.cons jm (.cons .here .nil))))))))))) ?_;refine JN bN I (fun w1 aS=>kZ ⟨du aS (by exact Take.there .here) I,dw aS bT I,dq aS db I,cX aS fg I⟩ An) ?_;rintro ⟨s17,d17,t17,p17⟩ _
 try dsimp only [id_eq,Zb,Za]
 refine mh (r:=gE) (s:=s17) (d:=d17) (t:=t17) (p:=p17) (bz _ _) fun acf ace acd acb=>?_
 skip
 refine JN bN I (fun w1 aS=>lC ⟨du aS (by exact .here) I,dw aS (by exact Take.there .here) I,dq aS bT I,cX aS db I⟩ An) ?_;rintro ⟨s18,d18,t18,p18⟩ _
 try dsimp only [id_eq,Zb,Za]
 refine dW (r:=gE) (s:=s18) (d:=d18) (t:=t18) (p:=p18) (bz _ _) fun aca ab9 ab8 ab7=>?_
 skip
 refine JN dH I (fun w1 aS=>Vg 0 dT ⟨du aS (by exact .here) I,dw aS (by exact Take.there .here) I,dq aS bT I,cX aS db I⟩ Fi Ps.1 Ps.2) ?_;rintro Lf _
 try dsimp only [id_eq,Zb,Za]
 refine Jv I<|JJ I I<|JJ I I<|Ja I<|Ja I<|Ji<|ab (cr jm) I ?_;refine fj [bC b3 (.cells #[.int .i64 (gE).lv,.int .i64 (gE).ma,s3,d3,t3,p3] 41 (0,0)),J1 (gE) s3,J2 (gE) d3,J3 (gE) t3,J4 (gE) p3,bC b5 (.cells #[.int .i64 (iq).lv,.int .i64 (iq).ma,s6,d6,t6,p6] 41 (0,0)),J1 (iq) s6,J2 (iq) d6,J3 (iq) t6,J4 (iq) p6,row 9 1 G6 ([cN,⟨#[]⟩]:List ByteArray).length (aM [cN,⟨#[]⟩]),row 9 1 Lf ([cN,nT,dT]:List ByteArray).length (aM [cN,nT,dT])] (by exact .cons jm (.cons jm (.cons jm (.cons jm (.cons jm (.cons jm (.cons jm (.cons jm (.cons jm (.cons jm (.cons jm (.cons .here .nil)))))))))))) ?_;refine JN bN I (fun w1 aS=>kZ ⟨du aS (by exact Take.there .here) I,dw aS bT I,dq aS db I,cX aS fg I⟩ An) ?_;rintro ⟨s19,d19,t19,p19⟩ _
 try dsimp only [id_eq,Zb,Za]
 refine mh (r:=gE) (s:=s19) (d:=d19) (t:=t19) (p:=p19) (bz _ _) fun ab6 ab5 ab4 ab3=>?_
 skip
 refine JN bN I (fun w1 aS=>lC ⟨du aS (by exact .here) I,dw aS (by exact Take.there .here) I,dq aS bT I,cX aS db I⟩ An) ?_;rintro ⟨s20,d20,t20,p20⟩ _
 try dsimp only [id_eq,Zb,Za]
 refine dW (r:=gE) (s:=s20) (d:=d20) (t:=t20) (p:=p20) (bz _ _) fun ab2 ab1 ab0 abZ=>?_
 skip
 refine JN aX I (fun w1 aS=>Vk 0 ⟨du aS (by exact .here) I,dw aS (by exact Take.there .here) I,dq aS bT I,cX aS db I⟩ Fi Pz.1 Pz.2) ?_;rintro LN _
 try dsimp only [id_eq,Zb,Za]
 refine Jv I<|JJ I I<|JJ I I<|Ja I<|Ja I<|Ji<|ab (cr Cv) I ?_;refine fj [bC b3 (.cells #[.int .i64 (gE).lv,.int .i64 (gE).ma,s3,d3,t3,p3] 41 (0,0)),J1 (gE) s3,J2 (gE) d3,J3 (gE) t3,J4 (gE) p3,bC b5 (.cells #[.int .i64 (iq).lv,.int .i64 (iq).ma,s6,d6,t6,p6] 41 (0,0)),J1 (iq) s6,J2 (iq) d6,J3 (iq) t6,J4 (iq) p6,row 9 1 G6 ([cN,⟨#[]⟩]:List ByteArray).length (aM [cN,⟨#[]⟩]),row 9 1 Lf ([cN,nT,dT]:List ByteArray).length (aM [cN,nT,dT]),row 9 1 LN ([nT]:List ByteArray).length (aM [nT])] (by exact .cons jm (.cons jm (.cons jm (.cons jm (.cons jm (.cons jm (.cons jm (.cons jm (.cons jm (.cons jm (.cons jm (.cons jm (.cons .here .nil))))))))))))) ?_;refine JN bN I (fun w1 aS=>kZ ⟨du aS re I,dw aS Cu I,dq aS OB I,cX aS jm I⟩ Am) ?_;rintro ⟨s21,d21,t21,p21⟩ _
 try dsimp only [id_eq,Zb,Za]
 refine mh (r:=iq) (s:=s21) (d:=d21) (t:=t21) (p:=p21) (bz _ _) fun abY abX abW abV=>?_
 skip
 refine JN bN I (fun w1 aS=>lC ⟨du aS (by exact .here) I,dw aS (by exact Take.there .here) I,dq aS bT I,cX aS db I⟩ Am) ?_;rintro ⟨s22,d22,t22,p22⟩ _
 try dsimp only [id_eq,Zb,Za]
 refine dW (r:=iq) (s:=s22) (d:=d22) (t:=t22) (p:=p22) (bz _ _) fun abU abT abS abR=>?_
 skip
 refine JN dH I (fun w1 aS=>Ve 0 cN ⟨du aS (by exact .here) I,dw aS (by exact Take.there .here) I,dq aS bT I,cX aS db I⟩ Fh Pr.1 Pr.2) ?_;rintro OF _
 try dsimp only [id_eq,Zb,Za]
 refine Jv I<|JJ I I<|JJ I I<|Ja I<|Ja I<|Ji<|ab (cr jm) I ?_;refine fj [bC b3 (.cells #[.int .i64 (gE).lv,.int .i64 (gE).ma,s3,d3,t3,p3] 41 (0,0)),J1 (gE) s3,J2 (gE) d3,J3 (gE) t3,J4 (gE) p3,bC b5 (.cells #[.int .i64 (iq).lv,.int .i64 (iq).ma,s6,d6,t6,p6] 41 (0,0)),J1 (iq) s6,J2 (iq) d6,J3 (iq) t6,J4 (iq) p6,row 9 1 G6 ([cN,⟨#[]⟩]:List ByteArray).length (aM [cN,⟨#[]⟩]),row 9 1 Lf ([cN,nT,dT]:List ByteArray).length (aM [cN,nT,dT]),row 9 1 LN ([nT]:List ByteArray).length (aM [nT]),row 9 1 OF ([dT,jo]:List ByteArray).length (aM [dT,jo])] (by exact .cons jm (.cons jm (.cons jm (.cons jm (.cons jm (.cons jm (.cons jm (.cons jm (.cons jm (.cons jm (.cons jm (.cons jm (.cons jm (.cons .here .nil)))))))))))))) ?_;refine JN bN I (fun w1 aS=>kZ ⟨du aS (by exact Take.there .here) I,dw aS bT I,dq aS db I,cX aS fg I⟩ An) ?_;rintro ⟨s23,d23,t23,p23⟩ _
 try dsimp only [id_eq,Zb,Za]
 refine mh (r:=gE) (s:=s23) (d:=d23) (t:=t23) (p:=p23) (bz _ _) fun abQ abP abO abN=>?_
 skip
 refine JN bN I (fun w1 aS=>lC ⟨du aS (by exact .here) I,dw aS (by exact Take.there .here) I,dq aS bT I,cX aS db I⟩ An) ?_;rintro ⟨s24,d24,t24,p24⟩ _
 try dsimp only [id_eq,Zb,Za]
 refine dW (r:=gE) (s:=s24) (d:=d24) (t:=t24) (p:=p24) (bz _ _) fun abM abL abK abJ=>?_
 skip
 refine JN dH I (fun w1 aS=>Vi (b:=true) od ⟨du aS (by exact .here) I,dw aS (by exact Take.there .here) I,dq aS bT I,cX aS db I⟩ Fi Px.1 Px.2) ?_;rintro ⟨Wo,d25,t25,WE⟩ _
 try dsimp only [id_eq,Zb,Za]
 refine dW (r:=C0) (s:=Wo) (d:=d25) (t:=t25) (p:=WE) (bz _ _) fun WS WR WQ WO=>?_
 (refine Jv I<|JJ I I<|JJ I I<|Jz I I fun _ _=>au (.of I) (.of I) .here I I (iS I I WS WR WQ WO) (bF I) an ?_;refine Ja I<|Ji<|ab (cr .here) I ?_)
 rename_i b25 ad2;refine fj [row 9 1 G6 ([cN,⟨#[]⟩]:List ByteArray).length (aM [cN,⟨#[]⟩]),row 9 1 Lf ([cN,nT,dT]:List ByteArray).length (aM [cN,nT,dT]),row 9 1 LN ([nT]:List ByteArray).length (aM [nT]),row 9 1 OF ([dT,jo]:List ByteArray).length (aM [dT,jo]),bC b25 (.cells #[.int .i64 (C0).lv,.int .i64 (C0).ma,Wo,d25,t25,WE] 41 (0,0)),J1 (C0) Wo,J2 (C0) d25,J3 (C0) t25,J4 (C0) WE] (by exact .cons (.there (.there (.there (.there (.there (.there (.there ni))))))) (.cons (.there (.there (.there (.there (.there (.there (.there ni))))))) (.cons (.there (.there (.there (.there (.there (.there (.there ni))))))) (.cons (.there (.there (.there (.there (.there (.there (.there ni))))))) (.cons .here (.cons .here (.cons .here (.cons .here (.cons .here .nil))))))))) ?_;refine JN bN I (fun w1 aS=>kZ ⟨du aS fy I,dw aS re I,dq aS Cu I,cX aS OB I⟩ UU) ?_;rintro ⟨s26,d26,t26,p26⟩ _
 try dsimp only [id_eq,Zb,Za]
 refine mh (r:=C0) (s:=s26) (d:=d26) (t:=t26) (p:=p26) (bz _ _) fun abI abH abG abF=>?_
 skip
 refine JN bN I (fun w1 aS=>lC ⟨du aS (by exact .here) I,dw aS (by exact Take.there .here) I,dq aS bT I,cX aS db I⟩ UU) ?_;rintro ⟨s27,d27,t27,p27⟩ _
 try dsimp only [id_eq,Zb,Za]
 refine dW (r:=C0) (s:=s27) (d:=d27) (t:=t27) (p:=p27) (bz _ _) fun abE abD abC abB=>?_
 (refine bb (aB (.cons (.of I) (.cons (.of I) .nil)) I I I I) I fun _ _=>?_;refine ab (aT (.cons (.of I) (.cons (.of I) .nil)) an) I ?_;refine bb (aB (.cons (.of I) (.cons (.of I) .nil)) I I I I) I fun _ _=>?_;refine ab (aT (.cons (.of I) (.cons (.of I) .nil)) an) I ?_;refine bb (bu (.cons (.of I) (.cons (.of I) .nil)) I I bW bW an) I fun _ _=>?_)
 rename_i ga hga gb hgb gc hgc;refine bY (g:=gc) (E:=78) (ys:=(jQ [⟨⟨jo,[⟨#[45]⟩,⟨#[]⟩]⟩,.slice (some ⟨ga,0,none⟩) 2 2⟩,⟨⟨od,[cN,cN]⟩,.slice (some ⟨gb,0,none⟩) 2 2⟩]).flatten) 2 2 (by exact .here) (by exact I) I I ?_;refine JN aX I (fun w1 aS=>PJ (q:=(jz C0 [⟨jo,[⟨#[45]⟩,⟨#[]⟩]⟩,⟨od,[cN,cN]⟩]).1) (i:=1) (e_:=31) (l:=[⟨⟨jo,[⟨#[45]⟩,⟨#[]⟩]⟩,.slice (some ⟨ga,0,none⟩) 2 2⟩,⟨⟨od,[cN,cN]⟩,.slice (some ⟨gb,0,none⟩) 2 2⟩]) (Prod.ext I UZ) ⟨du aS db I,dw aS fg I,dq aS fy I,cX aS re I⟩ UX (mM aS (by exact .here) (by exact I)) (iw (C7 (g:=ga) (x:=⟨#[45]⟩) (y:=⟨#[]⟩) aS bT) (iw (C7 (g:=gb) (x:=⟨#[99,97,109]⟩) (y:=⟨#[99,97,109]⟩) aS (by exact Take.there .here)) (j8 _)))) ?_;rintro ⟨s28,d28,t28,p28⟩ _
 try dsimp only [id_eq,Zb,Za]
 refine dW (r:=(jz C0 [⟨jo,[⟨#[45]⟩,⟨#[]⟩]⟩,⟨od,[cN,cN]⟩]).1) (s:=s28) (d:=d28) (t:=t28) (p:=p28) (bz _ _) fun WN WM WK WJ=>?_
 (refine Jv I<|JJ I I<|JJ I I<|JJ I I<|Jz I I fun _ _=>au (.of I) (.of I) .here I I (iS I I WN WM WK WJ) (bF I) an ?_;refine Ja I<|Ja I<|Ji ?_)
 refine fj [row 9 1 G6 ([cN,⟨#[]⟩]:List ByteArray).length (aM [cN,⟨#[]⟩]),row 9 1 Lf ([cN,nT,dT]:List ByteArray).length (aM [cN,nT,dT]),row 9 1 LN ([nT]:List ByteArray).length (aM [nT]),row 9 1 OF ([dT,jo]:List ByteArray).length (aM [dT,jo])] (by exact .cons ni (.cons ni (.cons ni (.cons ni .nil)))) ?_;refine JN om I (fun w1 aS=>PI w1) ?_;rintro ⟨ya,yc⟩ _
 try dsimp only [id_eq,Zb,Za]
 (refine bb (bu (.cons (.of I) .nil) I I bW bW an) I fun _ _=>?_;refine ab (aT (.cons (.of I) (.cons (.of I) .nil)) an) I ?_)
 rename_i ge J7;refine JN om I (fun w1 aS=>K1 w1) ?_;rintro ⟨ua,uc⟩ _
 try dsimp only [id_eq,Zb,Za]
 (refine bb (bu (.cons (.of I) .nil) I I bW bW an) I fun _ _=>?_;refine ab (aT (.cons (.of I) (.cons (.of I) .nil)) an) I ?_;refine bb (bu (.cons (.of I) (.cons (.of I) .nil)) I I bW bW an) I fun _ _=>?_;refine Ja I<|Ji ?_)
 rename_i gf hgf gg hgg;refine bY (g:=ge) (E:=78) (ys:=(jQ [⟨oq,.slice ya 2 yc⟩]).flatten) 1 2 db (by exact I) I I ?_;refine bY (g:=gf) (E:=78) (ys:=(jQ [⟨oo,.slice ua 2 uc⟩]).flatten) 1 2 bT (by exact I) I I ?_;refine bY (g:=gg) (E:=182) (ys:=(tx [⟨10,[⟨oq,.slice ya 2 yc⟩],.slice (some ⟨ge,0,none⟩) 1 1⟩,⟨12,[⟨oo,.slice ua 2 uc⟩],.slice (some ⟨gf,0,none⟩) 1 1⟩]).flatten) 2 2 bT (by exact I) I I ?_;refine fj [row 9 1 G6 ([cN,⟨#[]⟩]:List ByteArray).length (aM [cN,⟨#[]⟩]),row 9 1 Lf ([cN,nT,dT]:List ByteArray).length (aM [cN,nT,dT]),row 9 1 LN ([nT]:List ByteArray).length (aM [nT]),row 9 1 OF ([dT,jo]:List ByteArray).length (aM [dT,jo]),row 182 2 (.slice (some ⟨gg,0,none⟩) 2 2) 2 (tx [⟨10,[⟨oq,.slice ya 2 yc⟩],.slice (some ⟨ge,0,none⟩) 1 1⟩,⟨12,[⟨oo,.slice ua 2 uc⟩],.slice (some ⟨gf,0,none⟩) 1 1⟩]).flatten,row 78 2 (.slice (some ⟨ge,0,none⟩) 1 1) 1 (jQ [⟨oq,.slice ya 2 yc⟩]).flatten,row 78 2 (.slice (some ⟨gf,0,none⟩) 1 1) 1 (jQ [⟨oo,.slice ua 2 uc⟩]).flatten,row 9 1 (.slice ya 2 yc) 2 (aM oq.so),row 9 1 (.slice ua 2 uc) 2 (aM oo.so)] (by exact .cons fy (.cons fy (.cons fy (.cons fy (.cons .here (.cons (.there .here) (.cons .here (.cons (.there .here) (.cons .here .nil))))))))) ?_
 skip
 refine JN om I (fun w1 aS=>jN w1) ?_;rintro ⟨s29,d29,t29,p29⟩ _
 try dsimp only [id_eq,Zb,Za]
 refine dW (r:=ml) (s:=s29) (d:=d29) (t:=t29) (p:=p29) (bz _ _) fun abA abz aby abx=>?_;refine OU I I ?_;refine JN nO I (fun w1 aS=>K2 (l:=[⟨10,[⟨oq,.slice ya 2 yc⟩],.slice (some ⟨ge,0,none⟩) 1 1⟩,⟨12,[⟨oo,.slice ua 2 uc⟩],.slice (some ⟨gf,0,none⟩) 1 1⟩]) (m:=[⟨10,[oq]⟩,⟨12,[oo]⟩]) dT 9 I ⟨du aS (by exact .here) I,dw aS (by exact Take.there .here) I,dq aS bT I,cX aS db I⟩ r8 Pv.1 Pv.2 (Dj aS OB (by exact I)) (mR (mM aS jm (by exact I)) (iw (dL aS Cw (by exact I)) (j8 _)) (mR (mM aS nj (by exact I)) (iw (dL aS lS (by exact I)) (j8 _)) (zX _)))) ?_;rintro Vz _
 try dsimp only [id_eq,Zb,Za]
 refine Jv I<|JJ I I<|JJ I I<|Ja I<|Ja I<|Ji ?_;refine fj [row 9 1 G6 ([cN,⟨#[]⟩]:List ByteArray).length (aM [cN,⟨#[]⟩]),row 9 1 Lf ([cN,nT,dT]:List ByteArray).length (aM [cN,nT,dT]),row 9 1 LN ([nT]:List ByteArray).length (aM [nT]),row 9 1 OF ([dT,jo]:List ByteArray).length (aM [dT,jo]),row 182 2 (.slice (some ⟨gg,0,none⟩) 2 2) 2 (tx [⟨10,[⟨oq,.slice ya 2 yc⟩],.slice (some ⟨ge,0,none⟩) 1 1⟩,⟨12,[⟨oo,.slice ua 2 uc⟩],.slice (some ⟨gf,0,none⟩) 1 1⟩]).flatten,row 78 2 (.slice (some ⟨ge,0,none⟩) 1 1) 1 (jQ [⟨oq,.slice ya 2 yc⟩]).flatten,row 78 2 (.slice (some ⟨gf,0,none⟩) 1 1) 1 (jQ [⟨oo,.slice ua 2 uc⟩]).flatten,row 9 1 (.slice ya 2 yc) 2 (aM oq.so),row 9 1 (.slice ua 2 uc) 2 (aM oo.so),row 9 1 Vz ([⟨#[]⟩,⟨#[]⟩]:List ByteArray).length (aM [⟨#[]⟩,⟨#[]⟩])] (by exact .cons fy (.cons fy (.cons fy (.cons fy (.cons fy (.cons fy (.cons fy (.cons fy (.cons fy (.cons .here .nil)))))))))) ?_
 skip
 refine JN om I (fun w1 aS=>jN w1) ?_;rintro ⟨s30,d30,t30,p30⟩ _
 try dsimp only [id_eq,Zb,Za]
 refine dW (r:=ml) (s:=s30) (d:=d30) (t:=t30) (p:=p30) (bz _ _) fun abw abv abu abt=>?_;refine OU I I ?_;refine JN nO I (fun w1 aS=>K2 (l:=[⟨10,[⟨oq,.slice ya 2 yc⟩],.slice (some ⟨ge,0,none⟩) 1 1⟩,⟨12,[⟨oo,.slice ua 2 uc⟩],.slice (some ⟨gf,0,none⟩) 1 1⟩]) (m:=[⟨10,[oq]⟩,⟨12,[oo]⟩]) dT 11 I ⟨du aS (by exact .here) I,dw aS (by exact Take.there .here) I,dq aS bT I,cX aS db I⟩ r8 Pu.1 Pu.2 (Dj aS OB (by exact I)) (mR (mM aS jm (by exact I)) (iw (dL aS Cw (by exact I)) (j8 _)) (mR (mM aS nj (by exact I)) (iw (dL aS lS (by exact I)) (j8 _)) (zX _)))) ?_;rintro Wh _
 try dsimp only [id_eq,Zb,Za]
 refine Jv I<|JJ I I<|JJ I I<|Ja I<|Ja I<|Ji ?_;refine fj [row 9 1 G6 ([cN,⟨#[]⟩]:List ByteArray).length (aM [cN,⟨#[]⟩]),row 9 1 Lf ([cN,nT,dT]:List ByteArray).length (aM [cN,nT,dT]),row 9 1 LN ([nT]:List ByteArray).length (aM [nT]),row 9 1 OF ([dT,jo]:List ByteArray).length (aM [dT,jo]),row 182 2 (.slice (some ⟨gg,0,none⟩) 2 2) 2 (tx [⟨10,[⟨oq,.slice ya 2 yc⟩],.slice (some ⟨ge,0,none⟩) 1 1⟩,⟨12,[⟨oo,.slice ua 2 uc⟩],.slice (some ⟨gf,0,none⟩) 1 1⟩]).flatten,row 78 2 (.slice (some ⟨ge,0,none⟩) 1 1) 1 (jQ [⟨oq,.slice ya 2 yc⟩]).flatten,row 78 2 (.slice (some ⟨gf,0,none⟩) 1 1) 1 (jQ [⟨oo,.slice ua 2 uc⟩]).flatten,row 9 1 (.slice ya 2 yc) 2 (aM oq.so),row 9 1 (.slice ua 2 uc) 2 (aM oo.so),row 9 1 Vz ([⟨#[]⟩,⟨#[]⟩]:List ByteArray).length (aM [⟨#[]⟩,⟨#[]⟩]),row 9 1 Wh ([cN,cN]:List ByteArray).length (aM [cN,cN])] (by exact .cons fy (.cons fy (.cons fy (.cons fy (.cons fy (.cons fy (.cons fy (.cons fy (.cons fy (.cons fy (.cons .here .nil))))))))))) ?_
 skip
 refine JN om I (fun w1 aS=>jN w1) ?_;rintro ⟨s31,d31,t31,p31⟩ _
 try dsimp only [id_eq,Zb,Za]
 refine dW (r:=ml) (s:=s31) (d:=d31) (t:=t31) (p:=p31) (bz _ _) fun abr abq abp abo=>?_;refine OU I I ?_;refine JN nO I (fun w1 aS=>K2 (l:=[⟨10,[⟨oq,.slice ya 2 yc⟩],.slice (some ⟨ge,0,none⟩) 1 1⟩,⟨12,[⟨oo,.slice ua 2 uc⟩],.slice (some ⟨gf,0,none⟩) 1 1⟩]) (m:=[⟨10,[oq]⟩,⟨12,[oo]⟩]) dT 12 I ⟨du aS (by exact .here) I,dw aS (by exact Take.there .here) I,dq aS bT I,cX aS db I⟩ r8 Pt.1 Pt.2 (Dj aS OB (by exact I)) (mR (mM aS jm (by exact I)) (iw (dL aS Cw (by exact I)) (j8 _)) (mR (mM aS nj (by exact I)) (iw (dL aS lS (by exact I)) (j8 _)) (zX _)))) ?_;rintro YO _
 try dsimp only [id_eq,Zb,Za]
 refine Jv I<|JJ I I<|JJ I I<|Ja I<|Ja I<|Ji ?_;refine fj [row 9 1 G6 ([cN,⟨#[]⟩]:List ByteArray).length (aM [cN,⟨#[]⟩]),row 9 1 Lf ([cN,nT,dT]:List ByteArray).length (aM [cN,nT,dT]),row 9 1 LN ([nT]:List ByteArray).length (aM [nT]),row 9 1 OF ([dT,jo]:List ByteArray).length (aM [dT,jo]),row 182 2 (.slice (some ⟨gg,0,none⟩) 2 2) 2 (tx [⟨10,[⟨oq,.slice ya 2 yc⟩],.slice (some ⟨ge,0,none⟩) 1 1⟩,⟨12,[⟨oo,.slice ua 2 uc⟩],.slice (some ⟨gf,0,none⟩) 1 1⟩]).flatten,row 78 2 (.slice (some ⟨ge,0,none⟩) 1 1) 1 (jQ [⟨oq,.slice ya 2 yc⟩]).flatten,row 78 2 (.slice (some ⟨gf,0,none⟩) 1 1) 1 (jQ [⟨oo,.slice ua 2 uc⟩]).flatten,row 9 1 (.slice ya 2 yc) 2 (aM oq.so),row 9 1 (.slice ua 2 uc) 2 (aM oo.so),row 9 1 Vz ([⟨#[]⟩,⟨#[]⟩]:List ByteArray).length (aM [⟨#[]⟩,⟨#[]⟩]),row 9 1 Wh ([cN,cN]:List ByteArray).length (aM [cN,cN]),row 9 1 YO ([kE,kE]:List ByteArray).length (aM [kE,kE])] (by exact .cons fy (.cons fy (.cons fy (.cons fy (.cons fy (.cons fy (.cons fy (.cons fy (.cons fy (.cons fy (.cons fy (.cons .here .nil)))))))))))) ?_;refine JN om I (fun w1 aS=>jN w1) ?_;rintro ⟨s32,d32,t32,p32⟩ _
 try dsimp only [id_eq,Zb,Za]
 refine dW (r:=ml) (s:=s32) (d:=d32) (t:=t32) (p:=p32) (bz _ _) fun abn abm abl abk=>?_
 skip
 refine ai bN I (fun w1 aS=>Sf ⟨du aS (by exact .here) I,dw aS (by exact Take.there .here) I,dq aS bT I,cX aS db I⟩) ?_;refine fj [row 9 1 G6 ([cN,⟨#[]⟩]:List ByteArray).length (aM [cN,⟨#[]⟩]),row 9 1 Lf ([cN,nT,dT]:List ByteArray).length (aM [cN,nT,dT]),row 9 1 LN ([nT]:List ByteArray).length (aM [nT]),row 9 1 OF ([dT,jo]:List ByteArray).length (aM [dT,jo]),row 9 1 Vz ([⟨#[]⟩,⟨#[]⟩]:List ByteArray).length (aM [⟨#[]⟩,⟨#[]⟩]),row 9 1 Wh ([cN,cN]:List ByteArray).length (aM [cN,cN]),row 9 1 YO ([kE,kE]:List ByteArray).length (aM [kE,kE])] (by exact .cons fg (.cons fg (.cons fg (.cons fg (.cons jm (.cons jm (.cons jm .nil))))))) ?_;refine Jv I<|JJ I I<|JJ I I<|Ja I<|Ja I<|Ji ?_;simp only [Zb,Za,List.append_eq,List.append]
 (refine Jv I<|Jv I<|JB I (by omega)<|Jv I<|JB I (by omega)<|Jv I<|JB I (by omega)<|Jv I<|JB I (by omega)<|Jv I<|JB I (by omega)<|Jv I<|JB I (by omega)<|Jv I<|JB I (by omega)<|Jv I<|JB I (by omega)<|JC I<|Jv I<|JK I I<|Jv I<|JK I I<|JC I<|ab (dV (.of I) (.of I) (.of I) I) I ?_;refine Jv I<|JK I I<|Jv I<|JK I I<|JC I<|ab (dV (.of I) (.of I) (.of I) I) I ?_;refine Jv I<|JK I I<|Jv I<|JK I I<|bb (aB (.cons (.of I) (.cons (.of I) .nil)) I I I I) I fun _ _=>?_;refine JK I I ?_)
 rename_i gz0 adE;refine ai aX I (fun w1 aS=>lW (l:=[cN,⟨#[]⟩]) (dL aS (by exact Take.there .here) (by exact I)) (C7 (g:=gz0) (x:=⟨#[99,97,109]⟩) (y:=⟨#[]⟩) aS (by exact .here))) ?_
 (refine ab (dV (.of I) (.of I) (.of I) I) I ?_;refine Jv I<|JK I I<|Jv I<|JK I I<|bb (aB (.cons (.of I) (.cons (.of I) (.cons (.of I) .nil))) I I I I) I fun _ _=>?_;refine JK I I ?_)
 rename_i gz1 adD;refine ai aX I (fun w1 aS=>lW (l:=[cN,nT,dT]) (dL aS db (by exact I)) (Wt (g:=gz1) (x:=⟨#[99,97,109]⟩) (y:=⟨#[116]⟩) (z:=⟨#[97,105,114]⟩) aS (by exact .here))) ?_
 (refine ab (dV (.of I) (.of I) (.of I) I) I ?_;refine Jv I<|JK I I<|Jv I<|JK I I<|bb (aB (.cons (.of I) .nil) I I I I) I fun _ _=>?_;refine JK I I ?_)
 rename_i gz2 adC;refine ai aX I (fun w1 aS=>lW (l:=[nT]) (dL aS fy (by exact I)) (Wu (g:=gz2) (x:=⟨#[116]⟩) aS (by exact .here))) ?_
 (refine ab (dV (.of I) (.of I) (.of I) I) I ?_;refine Jv I<|JK I I<|Jv I<|JK I I<|bb (aB (.cons (.of I) (.cons (.of I) .nil)) I I I I) I fun _ _=>?_;refine JK I I ?_)
 rename_i gz3 adB;refine ai aX I (fun w1 aS=>lW (l:=[dT,jo]) (dL aS Cu (by exact I)) (C7 (g:=gz3) (x:=⟨#[97,105,114]⟩) (y:=⟨#[114,101,99]⟩) aS (by exact .here))) ?_
 (refine ab (dV (.of I) (.of I) (.of I) I) I ?_;refine Jv I<|JK I I<|Jv I<|JK I I<|bb (aB (.cons (.of I) (.cons (.of I) .nil)) I I I I) I fun _ _=>?_;refine JK I I ?_)
 rename_i gz4 adA;refine ai aX I (fun w1 aS=>lW (l:=[⟨#[]⟩,⟨#[]⟩]) (dL aS jm (by exact I)) (C7 (g:=gz4) (x:=⟨#[]⟩) (y:=⟨#[]⟩) aS (by exact .here))) ?_
 (refine ab (dV (.of I) (.of I) (.of I) I) I ?_;refine Jv I<|JK I I<|Jv I<|JK I I<|bb (aB (.cons (.of I) (.cons (.of I) .nil)) I I I I) I fun _ _=>?_;refine JK I I ?_)
 rename_i gz5 adz;refine ai aX I (fun w1 aS=>lW (l:=[cN,cN]) (dL aS Cw (by exact I)) (C7 (g:=gz5) (x:=⟨#[99,97,109]⟩) (y:=⟨#[99,97,109]⟩) aS (by exact .here))) ?_
 (refine ab (dV (.of I) (.of I) (.of I) I) I ?_;refine Jv I<|JK I I<|Jv I<|JK I I<|bb (aB (.cons (.of I) (.cons (.of I) .nil)) I I I I) I fun _ _=>?_;refine JK I I ?_)
 rename_i gz6 ady;refine ai aX I (fun w1 aS=>lW (l:=[kE,kE]) (dL aS Sm (by exact I)) (C7 (g:=gz6) (x:=⟨#[118,116,114]⟩) (y:=⟨#[118,116,114]⟩) aS (by exact .here))) ?_
 (refine ab (dV (.of I) (.of I) (.of I) I) I ?_;refine Jv I<|JK I I<|Jv I<|JK I I<|ab (FZ (.of I) (.of I) RQ) I ?_;refine ab (dV (.of I) (.of I) (.of I) I) I ?_;refine Ja I<|Jn<|Je<|JT ?_)
 rfl
end Go.Proofs.A1
