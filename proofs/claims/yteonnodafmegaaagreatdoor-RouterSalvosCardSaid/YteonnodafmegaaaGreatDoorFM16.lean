import Derived.Test.YteonnodafmegaaaGreatDoorFM15
import Derived.Test.YteonnodafmegaaaGreatDoorFM04
import Derived.Test.YteonnodafmegaaaGreatDoorFM12
import Derived.Test.YteonnodafmegaaaGreatDoorFM11
import Derived.Test.YteonnodafmegaaaGreatDoorFM13
set_option linter.unusedSectionVars false
set_option linter.unusedVariables false
set_option linter.unusedSimpArgs false
namespace Go.Proofs.A1
open Go Go.SL
open Tryz
open Tryz renaming prog->T_
def Eb (r:Ro) (t:Tk) (k:Nat):ByteArray:=if t.at k=⟨#[]⟩ then ⟨#[]⟩ else if jD r (k:Nat) t.de=⟨#[]⟩ then dash else jD r (k:Nat) t.de
def Cb (r:Ro) (t:Tk) (k:Nat):List ByteArray:=(List.range k).map (Eb r t)
theorem Hi (r:Ro) (t:Tk) (k:Nat):Cb r t (k+1)=Cb r t k++[Eb r t k]:=by unfold Cb;rw [Zbq,Zt];rfl
theorem Ca (r:Ro) (t:Tk) (k:Nat):(Cb r t k).length=k:=by unfold Cb;simp
theorem Kb (r:Ro) (t:Tk):pg r t=⟨t.de,Cb r t r.lv.toNat⟩:=rfl
theorem tF (L:List ByteArray) (x:ByteArray):aP (L++[x])=aP L++[.string x]:=eT _ _
variable {D:List Nat} {E:Int} {Q:Ro} {X:Act->World->Prop} {c:Cx} {hs:List bd} {k:List Tk} {l:List fc} {o:Int} {r:Ro} {sl:aL} {w:World}
set_option maxHeartbeats 2000000 in
theorem J9 {s d t p kv:Value} (h:RR w r s d t p) (gD:fZ r=0) (hw:Rd w kv 2 (gP l)) (hM:rp w l) (hT:D3 r (bJ l)) :
  bh T_ 51 [RA r s d t p,kv] w [] (fun x:Value×List fc=>bJ x.2=(bJ l).map (pg r)) (fun x=>x.1) (fun x=>[row 69 2 x.1 x.2.length (gP x.2).flatten,gY 9 (x.2.map fc.v) (x.2.map fun y=>aP y.tk.so)]):=by
 have dU:=BY gD;have Vv:=vK gD;have tW:=dU.lim;have tx:(bJ l).length=l.length:=by unfold bJ;rw [Zd]
 have PK:=hT.Bz;rw [tx] at PK;obtain ⟨h1,h2,h3,h4⟩:=h.one;obtain ⟨a,cp,b,o,rfl,dy,bT,ha,hc⟩:=hw;rw [dx] at *;unfold maxLen at bT;have Dl:∀ (v:Int) (o:ByteArray),o≠⟨#[]⟩->∀ {w'},aJ [] w w'->ak T_ 131 [.agg #[.int .i64 r.lv,.int .i64 r.ma,s,d,t,p],.int .i64 v,.string o] w' (.string (jD r v o)):=fun v o ho _ hk=>by rw [<- vM gD v ho];exact qO v o ho (h.keeps hk)
 unfold RA;refine aR func51 I I ?_;refine Jr<|Jy I I fun _ _=>Ja I<|Ji<|Ja I<|Jn<|Jq<|Jr<|Ja I<|Jn<|J0 ?_;rename_i b2 rf;refine aN 69 2 ?_;refine ie 9 ?_
 refine aV (ι:=Nat×Value×List fc) (fun x=>x.1<=l.length/\bJ x.2.2=((bJ l).take x.1).map (pg r)) (fun x=>[(6,.q (x.1:Nat)),(5,x.2.1),(1,.slice a l.length cp),(2,.p b2)])
  (fun x=>[row 69 2 x.2.1 x.2.2.length (gP x.2.2).flatten,gY 9 (x.2.2.map fc.v) (x.2.2.map fun y=>aP y.tk.so),JQ b2 r s d t p]) (fun x=>l.length-x.1) ?_ ?_
 ·apply aI (0,.z,[]) ⟨Zi _,I⟩
  case hs1=>exact bS
  case ht=>
   exact .cons (.there .here) (.h2 .nil)
 rintro ⟨i,v,W⟩ ⟨hi,hW⟩;dsimp only at hi hW ⊢;have NL:W.length=i:=by
  have:=congrArg List.length hW;unfold bJ at this;simp only [Zd,Zq] at this;omega
 by_cases aM:i<l.length
 ·have cu:=ha (iW aM);have aC:=(hc i _ (ph l aM)).2;have gJ:=Zj aM;have B5:=hM _ gJ;have T6:=hT.lv l[i].tk (Z0 gJ);have NK:=hT.de l[i].tk (Z0 gJ);have fO:l[i].tk.de≠⟨#[]⟩:=Vv.ne (.inr (.inl NK));have htk:((bJ l).take (i+1)).map (pg r)=((bJ l).take i).map (pg r)++[pg r l[i].tk]:=by
   rw [Zm (by omega),Zt];unfold bJ;rw [Z2];rfl
  rw [<- hW] at htk;generalize hti:l[i]=ti at *;obtain ⟨tk,tv⟩:=ti;dsimp only at *;obtain ⟨sa,F6,sb,KB,rfl,C8,pR,LY,LV⟩:=B5;rw [bF] at *;unfold maxLen at pR;have c0:w.cell? ⟨b,o+i*2,none⟩=some (.string tk.de):=aC 0 _ I;have c1:w.cell? ⟨b,o+i*2+1,none⟩=some (.slice sa tk.so.length F6):=aC 1 _ I
  (refine Jq<|Jr<|Jv I<|Jv I<|JI I<|JA I<|Jn<|Jd I fun au=>Jk<|Jq<|J0<|Jr<|Jv I<|Jv I<|ab (fY cu au) I<|bG I I ae<|ab (ag (.of I) (At.base c0 I)) I<|ab (aU (.o I .nil) ai) I<|Jz I I fun _ _=>ao (.of I) (.of I) .here I I (gO I I) (bu I) ai<|Jn<|Jq<|Jr<|Ja I<|Jn<|J0 ?_)
  rename_i b7 Um;refine aN 9 1 ?_
  refine aV (ι:=Nat×Option Addr×Nat×List ByteArray) (fun y=>y.1<=r.lv.toNat/\y.2.2.2=Cb r tk y.1) (fun y=>[(8,.q (y.1:Nat)),(7,.p b7),(6,.q (i:Nat)),(5,v),(1,.slice a l.length cp),(2,.p b2)])
   (fun y=>[row 9 1 (.slice y.2.1 (y.2.2.2).length y.2.2.1) (y.2.2.2).length (aP (y.2.2.2)),bz b7 (.cells #[.string tk.de,.slice y.2.1 (y.2.2.2).length y.2.2.1] 69 (0,0)),row 69 2 v W.length (gP W).flatten,gY 9 (W.map fc.v) (W.map fun y=>aP y.tk.so),JQ b2 r s d t p]) (fun y=>r.lv.toNat-y.1) ?_ ?_
  ·apply aI (0,none,0,[]) ⟨Zi _,I⟩
   case hs1=>exact bS
   case ht=>
    exact .h5 .nil
  rintro ⟨k,g1,oX,L⟩ ⟨hk,hL⟩;dsimp only at hk hL ⊢;have Dq:L.length=k:=by rw [hL,Ca]
  by_cases mW:k<r.lv.toNat
  ·have T9:k<tk.so.length:=by omega
   have xb:=LY (ij T9);have w9:w.cell? ⟨sb,KB+k*1,none⟩=some (.string tk.so[k]):=(LV k _ (fw T9)).2 0 _ I;have jA:tk.at k=tk.so[k]:=by unfold Tk.at;rw [Zk,Zc T9];rfl
   have gn:=Hi r tk k;rw [<- hL] at gn;have hu:Eb r tk k=if tk.so[k]=⟨#[]⟩ then ⟨#[]⟩ else if jD r (k:Nat) tk.de=⟨#[]⟩ then ⟨#[45]⟩ else jD r (k:Nat) tk.de:=by unfold Eb;rw [jA];rfl
   have r8:∀ {w'},aJ [] w w'->ak T_ 131 [.agg #[.q r.lv,.q r.ma,s,d,t,p],.q (k:Nat),.string tk.de] w' (.string (jD r (k:Nat) tk.de)):=fun hk=>Dl _ _ fO hk
   have hlen:(aP L).length=L.length*1:=by rw [c6];omega
   generalize jD r (k:Nat) tk.de=ck at *;generalize tk.so[k]=sk at *
   (refine Jq<|Jr<|Jv I<|bG I I ae<|JL I dL I<|JA I<|Jn<|Jd I fun au=>Jk<|Jq<|J0<|Jr<|Ja I<|Jn<|Jq<|Jr<|Jv I<|Jv I<|ab (an (.of I) (.of I) cu (by omega) (by assumption) aW) I<|bG I I ae<|ab (ag (.of I) (At.base c1 I)) I<|Jv I<|ab (an (.of I) (.of I) xb (by omega) (by omega) aW) I<|ab (ag (.of I) (At.base w9 I)) I<|ab (fy (.of I) (.of I)) I<|Jn<|gG I (fun au=>?_) fun au=>?_;refine Jq ?_;rotate_left;refine Jk<|Jg<|bG I I ae<|JL I (.there .here) I<|Jv I<|a8 (aD (.o I .nil) I I I I) I fun _ _=>?_;rotate_right)
   ·with_reducible refine cJ 9 (by kernel_rfl) ?_
    (refine ar (cm dL) I<|fW I I<|fW I I<|fW I I<|ar (an (.of I) (.of I) cu (by omega) (by assumption) aW) I<|lU I I ae<|ar (ag (.of I) (At.base c0 I)) I<|dp eo I (fun w' aB=>(r8 (Mem.keeps aB)))<|ar (cC (.of I)) I ?_)
    with_reducible refine cN ?_
    (refine Ji<|Jv I<|ab (dB (.of I) (.of I)) I<|Jn<|gG I (fun au=>?_) fun au=>?_;refine Jg<|Ja I<|Jn<|Jg<|bG I I ae<|JL I (.there .here) I<|Jv I<|a8 (aD (.o I .nil) I I I I) I fun _ _=>?_;rotate_left;refine Jk<|Jg<|bG I I ae<|JL I (.there .here) I<|Jv I<|a8 (aD (.o I .nil) I I I I) I fun _ _=>?_;rotate_right)
    ·have he:Eb r tk k=⟨#[45]⟩:=by rw [hu,if_neg (by assumption),if_pos (by assumption)]
     rw [he] at gn;refine bn (.of I) (.of I) (.there .here) .here ai (by rfl) (dG I) (by rfl) (by rfl) (by rfl) dW (by rfl) ?_;intro z;refine aK (v:=z) (by exact .here) fun gx cx e0=>?_;subst e0;rw [<- tF,k8 L (⟨#[45]⟩)]
     (refine bG I I ae<|ao (.of I) (.of I) bI I I (dG I) (bu I) ai<|Jx<|Jj<|Jt<|Jg<|Jv I<|JB I (by omega)<|Ja I<|Jn ?_)
     apply aG (k+1,gx,cx,L++[⟨#[45]⟩]) ⟨ZZ mW,gn.symm⟩ (show r.lv.toNat-(k+1)<r.lv.toNat-k by omega)
     case hs1=>exact bS
     case ht=>
      dsimp only;exact .cons (.there .here) (.h1 (.cons (.there .here) (.cons (.there .here) (.cons (.there .here) .nil))))
    ·have he:Eb r tk k=ck:=by rw [hu,if_neg (by assumption),if_neg (by assumption)]
     rw [he] at gn;refine bn (.of I) (.of I) (.there .here) .here ai (by rfl) (dG I) (by rfl) (by rfl) (by rfl) dW (by rfl) ?_;intro z;refine aK (v:=z) (by exact .here) fun gx cx e0=>?_;subst e0;rw [<- tF,k8 L (ck)]
     (refine bG I I ae<|ao (.of I) (.of I) bI I I (dG I) (bu I) ai<|Jx<|Jj<|Jt<|Jg<|Jv I<|JB I (by omega)<|Ja I<|Jn ?_)
     apply aG (k+1,gx,cx,L++[ck]) ⟨ZZ mW,gn.symm⟩ (show r.lv.toNat-(k+1)<r.lv.toNat-k by omega)
     case hs1=>exact bS
     case ht=>
      dsimp only;exact .cons (.there .here) (.h1 (.cons (.there .here) (.cons (.there .here) (.cons (.there .here) .nil))))
   ·have he:Eb r tk k=⟨#[]⟩:=by rw [hu,if_pos (Zo.1 au)]
    rw [he] at gn;refine bn (.of I) (.of I) (.there .here) .here ai (by rfl) (dG I) (by rfl) (by rfl) (by rfl) dW (by rfl) ?_;intro z;refine aK (v:=z) (by exact .here) fun gx cx e0=>?_;subst e0;rw [<- tF,k8 L (⟨#[]⟩)]
    (refine bG I I ae<|ao (.of I) (.of I) bI I I (dG I) (bu I) ai<|Jx<|Jj<|Jt<|Jg<|Jv I<|JB I (by omega)<|Ja I<|Jn ?_)
    apply aG (k+1,gx,cx,L++[⟨#[]⟩]) ⟨ZZ mW,gn.symm⟩ (show r.lv.toNat-(k+1)<r.lv.toNat-k by omega)
    case hs1=>exact bS
    case ht=>
     dsimp only;exact .cons (.there .here) (.h1 (.cons (.there .here) (.cons (.there .here) (.cons (.there .here) .nil))))
  ·obtain rfl:k=r.lv.toNat:=by omega
   have tz:(gP W).flatten.length=W.length*2:=by rw [fH (vV W),dx]
   refine aK (E:=69) (sz:=2) (v:=v) bI fun va vc e=>?_;subst e
   (refine Jq<|Jr<|Jv I<|bG I I ae<|JL I dL I<|JA I<|Jn<|Jc I fun au=>Jp<|Jl<|Jo<|Jt<|Jg<|Jv I<|ab (cm (.there .here)) I<|a8 (ba (.o I .nil) I I bB bB ai) I fun _ _=>?_)
   refine bn (.of I) (.of I) cZ .here ai (by rfl) (gO I I) (by rfl) (by rfl) (by rfl) dW (by rfl) ?_;intro v';refine Ja I<|Jx<|Jj<|Jt<|Jg<|Jv I<|JB I (by omega)<|Ja I<|Jn ?_;have TY:(aP L).length=L.length:=c6 L
   with_reducible apply j7 (E:=9) (vs:=W.map fc.v) (xs:=W.map fun y=>aP y.tk.so) (v:=.slice g1 L.length oX) (x:=aP L) (n:=L.length)
   case ht=>exact dL
   case ht2=>exact bI
   case hn=>exact TY.symm
   case hl=>rw [Zd,Zd]
   case k=>
    apply aG (i+1,v',W++[⟨⟨tk.de,L⟩,.slice g1 L.length oX⟩]) ⟨by show i+1<=_;omega,by
     show bJ (W++[_])=_;rw [htk,Kb,<- hL];unfold bJ;rw [Zt];rfl⟩ (by show l.length-(i+1)<l.length-i;omega)
    case hs1=>exact bS
    case ht=>
     dsimp only;rw [vl,Zg,Zt,Zt];simp only [Z9,Zf,ZE,Zae,Zx];exact .cons (.there .here) (.h1 (.cons bI .nil))
 ·have e:i=l.length:=by omega
  subst e;rw [Zab (by omega)] at hW;refine aK (E:=69) (sz:=2) (v:=v) (by exact .here) fun va vc e=>?_;subst e;refine Jq<|Jr<|Jv I<|Jv I<|JI I<|JA I<|Jn<|Jc I fun au=>Jp<|Jl<|Jo<|Jt<|Jr<|Jv I<|Ja I<|Jn<|Je ?_
  first | with_reducible apply aO | with_reducible apply aQ
  case he=>exact dI I I
  case hR=>
   intro w' aB;exact aF (.slice va W.length vc,W) hW (by exact .h2 .nil) aB I
def PS (l:List fc):fc:=l.headD ⟨Tk.zero,.z⟩
theorem Xp (h:rp w l):Rd w (PS l).v 1 (gT (PS l).tk.so):=by
 cases l with
 | nil=>exact Rd.nil w 1
 | cons x l=>exact h x Zs
theorem Oz (h:AH (bJ l)=true):l.length<=9/\∀ x∈l,x.tk.so.length<=4:=by
 unfold AH at h;rw [Zn,decide_eq_true_iff,Zad] at h;refine ⟨by have:=h.2;unfold bJ at this;rwa [Zd] at this,fun x hx=>?_⟩;have:=h.1 x.tk (Z0 hx);simp only [Zn,decide_eq_true_eq] at this;exact this.1.2
def xN (r:Ro) (k:List Tk):Int:=if fZ r≠0 then fZ r else r5 r k
theorem kW {B o E:Int} (hB:B=xN r k) (hX:il r k=(Q,o,E)):(B≠0->Q=Ro.nil/\o=0/\E=B)/\(B=0->fZ r=0/\D3 r k/\iY r k=(Q,o,E)):=by
 subst hB;unfold il at hX;unfold xN;by_cases h1:fZ r≠0
 ·rw [if_pos h1] at hX;rw [if_pos h1];injection hX with a b
  injection b with b c
  exact ⟨fun _=>⟨a.symm,b.symm,c.symm⟩,fun h=>absurd h h1⟩
 rw [if_neg h1] at hX;rw [if_neg h1];by_cases h2:r5 r k≠0
 ·rw [if_pos h2] at hX;injection hX with a b
  injection b with b c
  exact ⟨fun _=>⟨a.symm,b.symm,c.symm⟩,fun h=>absurd h h2⟩
 rw [if_neg h2] at hX;exact ⟨fun h=>absurd h h2,fun h=>⟨Zo.1 h1,(vk.1 h).2,hX⟩⟩
theorem we (hX:il r k=(Q,o,E)) (h:E≠0):Q=Ro.nil:=by
 by_cases hb:xN r k=0
 ·obtain ⟨_,_,e⟩:=(kW rfl hX).2 hb;unfold iY at e;split at e
  ·injection e with a b
   exact a.symm
  ·split at e
   ·injection e with a b
    exact a.symm
   ·injection e with a b
    injection b with b c
    exact absurd c.symm h
 ·exact ((kW I hX).1 hb).1
theorem F9 {r q:Ro} {i e_:Int} {s d t p kv:Value} (hk:bJ l=k) (e:iY r k=(q,i,e_)) (h:RR w r s d t p) (gD:fZ r=0) (hw:Rd w kv 2 (gP l)) (hM:rp w l) (hT:D3 r k) :
  bh T_ 50 [.agg #[.q r.lv,.q r.ma,s,d,t,p],kv] w [] (fun _:Value×Value×Value×Value=>True) (fun x=>.tuple #[.agg #[.q q.lv,.q q.ma,x.1,x.2.1,x.2.2.1,x.2.2.2],.q i,.q e_]) (fun x=>qt q x):=by
 subst hk;have:=OE h gD hw hM hT;rw [e] at this;exact this
theorem Ce (k:Tr c D sl (qt Ro.nil (.z,.z,.z,.z)++hs) X):Tr c D sl hs X:=aN 180 3 (aN 122 3 (aN 88 3 (aN 118 2 k)))
theorem Hk (k:Tr c D sl (row 69 2 (.z) ([]:List fc).length (gP []).flatten::yX []::hs) X):Tr c D sl hs X:=ie 9 (aN 69 2 k)
theorem Ka {s d t p kv:Value} (h:RR w r s d t p) (gD:fZ r=0) (hw:Rd w kv 2 (gP l)) (hM:rp w l) (hT:D3 r (bJ l)) :
  bh T_ 51 [.agg #[.q r.lv,.q r.ma,s,d,t,p],kv] w [] (fun x:Value×List fc=>bJ x.2=(bJ l).map (pg r)) (fun x=>x.1) (fun x=>[row 69 2 x.1 x.2.length (gP x.2).flatten,yX x.2]):=J9 h gD hw hM hT
theorem CD (hX:il r k=(Q,o,E)) (hF:kE r):kE Q:=by
 by_cases hE:E=0
 ·have hb:xN r k=0:=Decidable.byContradiction fun c=>c (((kW I hX).1 c).2.2.symm.trans hE)
  obtain ⟨gD,hT,e⟩:=(kW rfl hX).2 hb;obtain ⟨q,e1,e2,_⟩:=zm (r:=r) (l:=k) (by rw [e];exact hE);rw [e] at e2;have hq:=lG (BY gD) (CC gD hT e1).1;injection e2 with e2
  rw [e2];exact ⟨hF.1,hF.2.1,hF.2.2.1,(show q.length<=1000000 by omega)⟩
 ·rw [we hX hE];exact ⟨Zi _,Zi _,Zi _,Zi _⟩
theorem N3 {l:List Tk} (hX:il r l=(Q,o,E)) (hs:∀ t∈l,t.so.length<=4):∀ t∈sh r l,t.so.length<=1000:=by
 unfold sh;rw [hX];by_cases hE:E=0
 ·rw [if_neg (not_not_intro hE)];have hb:xN r l=0:=Decidable.byContradiction fun c=>c (((kW I hX).1 c).2.2.symm.trans hE)
  obtain ⟨gD,hT,e⟩:=(kW rfl hX).2 hb;intro t ht;obtain ⟨u,hu,rfl⟩:=Zy.1 ht;have h1:=hT.lv u hu;have h2:=hs u hu;rw [Kb];show (Cb r u r.lv.toNat).length<=1000;rw [Ca];omega
 ·rw [if_pos hE];intro t ht;cases ht
theorem Kc {l:List Tk}:(sh r l).length<=l.length:=by
 unfold sh;split
 ·exact Zi _
 ·rw [Zd];exact Zz _
theorem SY {hs hs':List bd} (hm:Mem c hs w) {b:Nat} {x y:Value} {E:TypeId} {fz:Nat×Nat} (ht:Take hs (bz b (.cells #[x,y] E fz)) hs'):Rd w (.w b 1 1) 2 [[x,y]]:=by
 refine ⟨_,1,b,0,I,Zz _,by unfold maxLen;decide,fun _=>rfl,fun i r hr=>?_⟩;cases i with
 | succ i=>simp at hr
 | zero =>
  obtain rfl:[x,y]=r:=by simpa using hr
  refine ⟨I,fun j u hu=>?_⟩;rw [cell_of_block (hm.bz ht)]
  match j,hu with
  | 0,hu=>simpa using hu
  | 1,hu=>simpa using hu
theorem Mv {gb:Nat} {xd:ByteArray} {xs:List ByteArray} {xv:Value} (h:Rd w (.w gb 1 1) 2 (gP [⟨⟨xd,xs⟩,xv⟩])) (hM:Rd w xv 1 (gT xs)) (hs:xs.length<=1000) :
  bh T_ 46 [.w gb 1 1] w [] (fun _:Nat×Nat×Value=>True) (fun x=>.slice (some ⟨x.1,0,none⟩) 1 x.2.1) (fun x=>[row 78 2 (.slice (some ⟨x.1,0,none⟩) 1 x.2.1) 1 [.string xd,x.2.2],row 9 1 x.2.2 xs.length (aP xs)]):=by
 have hg:=Br h (fun x hx=>by rw [ZG.1 hx];exact hM) (Nat.succ_le_succ (Zi _)) (fun x hx=>by rw [ZG.1 hx];exact hs)
 refine Calls.mono hg fun e w' ⟨⟨v,W⟩,he,hx,hk,fp,hn,hs',hf⟩=>?_;obtain ⟨y,rfl⟩:∃ y,W=[y]:=by
  have:=congrArg List.length hx;unfold bJ at this;simp only [Zd,Z8] at this
  match W,this with
  | [y],_=>exact ⟨y,rfl⟩
 obtain ⟨⟨yd,ys⟩,yv⟩:=y;obtain ⟨rfl,rfl⟩:yd=xd/\ys=xs:=by
  unfold bJ at hx;simp only [Z9,Zf,List.cons.injEq,and_true,Tk.mk.injEq] at hx;exact hx
 obtain ⟨f1,f2,rfl,⟨e1,e2,e3⟩,⟨f3,f4,rfl,⟨f5,f6,rfl,h5,h6⟩,h4⟩⟩:=hs';obtain rfl:f6=[]:=h6;obtain rfl:f4=[]:=h4;rcases e3 with ⟨_,e4⟩ | ⟨g,cap,cur,e3,r⟩
 ·cases e4
 dsimp only at e3;subst e3;refine ⟨(g,cap,yv),he,trivial,hk,f1++((f5++[])++[]),hn,⟨f1,(f5++[])++[],I,⟨e1,e2,.inr ⟨g,cap,cur,I,r⟩⟩,⟨f5,[],by simp,?_,I⟩⟩,hf⟩;rw [c6] at h5;exact h5
noncomputable def Uy:Value->Nat×Nat×Value:=gOf (fun x:Nat×Nat×Value=>.agg #[.q x.1,.q x.2.1,x.2.2]) (0,0,.bool false)
theorem Ux (x:Nat×Nat×Value):∃ v,Uy v=x:=Mw (fun a b h=>by
 obtain ⟨a1,a2,a3⟩:=a;obtain ⟨b1,b2,b3⟩:=b;injection h with h
 have h:=congrArg Array.toList h;simp only [List.cons.injEq,Value.int.injEq,true_and,and_true,Int.natCast_inj] at h;rw [h.1,h.2.1,h.2.2]) _ x
theorem eR.aar {hs hs':List bd} {E:TypeId} {g cap:Nat} {u v:Value} (ht:Take hs (row E 2 (.w g 1 cap) 1 [u,v]) hs'):eR c hs g 0 [u,v]:=eR.tP fun j x hx w hm=>by
 have h:Rd w (.w g 1 cap) 2 [[u,v]]:=hm.pH ht I (fun r hr=>by rw [ZG.1 hr];rfl) I
 obtain ⟨a,iz,b,o',e,_,_,ha,hc⟩:=h;injection e with e1 e2 e3
 rw [ha (by simp)] at e1;injection e1 with e1
 injection e1 with e4 e5
 have:=(hc 0 _ I).2 j x hx;rw [<- e4,<- e5] at this;simpa using this
theorem Oj {r q:Ro} {k:Tk} {i e_:Int} {s d t p v:Value} (e:il r [k]=(q,i,e_)) (h:RR w r s d t p) (hf:og r) (hv:Rd w v 1 (gT k.so)):bh T_ 48 [.agg #[.q r.lv,.q r.ma,s,d,t,p],.agg #[.string k.de,v]] w [] (fun _:Value×Value×Value×Value=>True) (fun y=>.tuple #[.agg #[.q q.lv,.q q.ma,y.1,y.2.1,y.2.2.1,y.2.2.2],.q e_]) (fun y=>u3 q y):=by
 have:=G6 (x:=⟨k,v⟩) h hf hv;rw [show (fc.mk k v).tk=k from I,e] at this;exact this
set_option maxRecDepth 20000 in
set_option maxHeartbeats 4000000 in
theorem Et {s d t p kv:Value} (h:RR w r s d t p) (hw:Rd w kv 2 (gP l)) (hM:rp w l):ak T_ 5 [RA r s d t p,kv] w (.bool true):=by
 obtain ⟨h1,h2,h3,h4⟩:=h.one;have BZ:=hw;obtain ⟨a,cp,b,o,rfl,dy,bT,ha,hc⟩:=BZ;rw [dx] at *;have HW:∀ {w'},aJ [] w w'->ak T_ 18 [.agg #[.int .i64 r.lv,.int .i64 r.ma,s,d,t,p]] w' (.bool (Cz r)):=fun hk=>OA (h.keeps hk)
 have PC:∀ {w'},aJ [] w w'->ak T_ 44 [.slice a l.length cp] w' (.bool (AH (bJ l))):=fun hk=>AI (Rd.keeps hw hk) (hM.keeps hk)
 unfold RA;cases Rf:Cz r with
 | false =>
  rw [Rf] at HW;refine ah func5 I I ?_
  (refine Jr<|Jy I I fun _ _=>Ja I<|Jn<|Jq<|Jr<|aj nC I (fun w' aB=>(th w'))<|JH I<|Jv I<|aH I I inferInstance (fun hg bE=>(bK (.of I) .here ai (by rfl))) I<|fQ I I (fun hg=>(bj (.of I) (.cons (.bM hg I) .nil) inferInstance eY)) I (fun hg w' aB=>(HW (Mem.keeps aB)))<|aH I I inferInstance (fun hg bE=>(eF (.bM bE I))) I<|ab (bH (.of I) I) I<|Jv I<|jz I I I I<|eS I I I I<|aH I I inferInstance (fun hg bE=>(eF (.bM hg I))) I<|ab (bH (.of I) I) I<|Jn<|cY (.of I)<|Jr<|aj nC I (fun w' aB=>(th w'))<|Ja I<|Jn<|Ju<|JT ?_)
  rfl
 | true=>
 cases YK:AH (bJ l) with
 | false =>
  rw [Rf] at HW;rw [YK] at PC;refine ah func5 I I ?_
  (refine Jr<|Jy I I fun _ _=>Ja I<|Jn<|Jq<|Jr<|aj nC I (fun w' aB=>(th w'))<|JH I<|Jv I<|aH I I inferInstance (fun hg bE=>(bK (.of I) .here ai (by rfl))) I<|fQ I I (fun hg=>(bj (.of I) (.cons (.bM hg I) .nil) inferInstance eY)) I (fun hg w' aB=>(HW (Mem.keeps aB)))<|aH I I inferInstance (fun hg bE=>(eF (.bM bE I))) I<|ab (bH (.of I) I) I<|Jv I<|jz I I I I<|fQ I I (fun hg=>(bj (.of I) (.cons (.bM hg I) .nil) inferInstance eY)) I (fun hg w' aB=>(PC (Mem.keeps aB)))<|aH I I inferInstance (fun hg bE=>(eF (.bM hg I))) I<|ab (bH (.of I) I) I<|Jn<|cY (.of I)<|Jr<|aj nC I (fun w' aB=>(th w'))<|Ja I<|Jn<|Ju<|JT ?_)
  rfl
 | true=>
 have hA:yq r=true:=by
  unfold Cz at Rf;exact (Zn _ _ ▸ Rf).1
 rw [Rf] at HW;rw [YK] at PC;obtain ⟨W9,hs4⟩:=Oz YK;have hF:=KD hA;have Vz:=CA hA;clear Rf YK hA;refine ah func5 I I ?_;refine j6 ?_;refine gj ?_;refine a8 (Ex (.of I) I) I (fun _ _=>?_);refine R7 I I ?_;refine kJ ?_;refine iM ?_;refine j6 ?_;refine j6 ?_;refine gj ?_;refine aj nC I (fun w' aB=>(th w')) ?_;refine ab (eF (.of I)) I ?_;refine HK I I ?_;refine aH I I inferInstance (fun hg bE=>(bK (.of I) .here ai (by rfl))) I ?_;refine fQ I I (fun hg=>(bj (.of I) (.cons (.bM hg I) .nil) inferInstance eY)) I (fun hg w' aB=>(HW (Mem.keeps aB))) ?_;refine aH I I inferInstance (fun hg bE=>(eF (.bM bE I))) I ?_;refine ab (bH (.of I) I) I ?_;refine HK I I ?_;refine jz I I I I ?_;refine fQ I I (fun hg=>(bj (.of I) (.cons (.bM hg I) .nil) inferInstance eY)) I (fun hg w' aB=>(PC (Mem.keeps aB))) ?_;refine aH I I inferInstance (fun hg bE=>(eF (.bM hg I))) I ?_;refine ab (bH (.of I) I) I ?_;refine kJ ?_;refine iM ?_;refine bZ (.of I) ?_;refine Ay ?_;refine iM ?_;refine j6 ?_;refine gj ?_;refine ab (aU .nil ai) I ?_;refine a8 (kZ I) I (fun _ _=>?_);refine ao (.of I) (.of I) .here I I (gO I I) (bu I) ai ?_;refine kJ ?_;refine iM ?_;rename_i b2 rf b5 H7;refine ru (ι:=ByteArray×List ByteArray×Value) (fun x=>(⟨⟨x.1,x.2.1⟩,x.2.2⟩:fc)=PS l) (fun x=>[(5,.pointer (some ⟨b5,0,none⟩)),(1,.slice a l.length cp),(2,.pointer (some ⟨b2,0,none⟩))]) (fun x=>[bz b5 (.cells #[.string x.1,x.2.2] 69 (0,0)),JQ b2 r s d t p]) ?_ ?_
 ·by_cases hl:l.length=0
  ·have hz:(⟨Tk.zero,.z⟩:fc)=PS l:=by rw [Z6 hl];rfl
   refine Jr<|Jv I<|JI I<|JE I<|Jn<|Jc I fun au=>Jk ?_
   with_reducible apply iN (⟨#[]⟩,[],.z) hz
   case h1=>exact .cons I (.cons I (.cons I .nil))
   case ht=>exact iQ
  have mX:0<l.length:=by omega
  have cu:=ha (iW mX);have aC:=(hc 0 _ (ph l mX)).2;have hx:l[0]=PS l:=by cases l with | nil=>exact absurd I hl | cons x l=>rfl
  have Ve:=Rd.one (hM _ (Zj mX));rw [hx] at aC Ve;obtain ⟨⟨xd,xs⟩,xv,YF⟩:∃ (x:ByteArray×List ByteArray) (v:Value),(⟨⟨x.1,x.2⟩,v⟩:fc)=PS l:=⟨((PS l).tk.de,(PS l).tk.so),(PS l).v,rfl⟩;rw [<- YF] at aC Ve;dsimp only at aC Ve
  (refine Jr<|Jv I<|JI I<|JE I<|Jn<|Jd I fun au=>Jg<|Jv I<|ab (fY cu au) I<|ab (iU (eR.base aC I)) I<|ao (.of I) (.of I) .here I I (gO I Ve) (bu I) ai<|Jn ?_)
  with_reducible apply iN (xd,xs,xv) YF
  case h1=>exact .cons I (.cons I (.cons I .nil))
  case ht=>exact iQ
 rintro ⟨xd,xs,xv⟩ gi;dsimp only at gi ⊢;have Y7:Rd w xv 1 (gT xs):=by have:=Xp hM;rw [<- gi] at this;exact this
 have Ve:=Rd.one Y7;have ho4:xs.length<=4:=by
  cases l with
  | nil=>cases gi;exact Zi _
  | cons x l=>cases gi;exact hs4 _ Zs
 have LZ:∀ x∈l,x.tk.so.length<=1000:=fun x hx=>ZS (hs4 x hx) (by decide)
 obtain ⟨Q2,I2,E2,Y4⟩:∃ Q o E,il r [⟨xd,xs⟩]=(Q,o,E):=⟨_,_,_,rfl⟩;obtain ⟨Q1,I1,E1,hX⟩:∃ Q o E,il r (bJ l)=(Q,o,E):=⟨_,_,_,rfl⟩;refine Jr<|ab (cm (.there .here)) I ?_;refine JN bN I (fun w1 aT=>lC (h.keeps aT.keeps) Vz) ?_;rintro ⟨o1,o2,o3,o4⟩ _
 try dsimp only [id_eq,Zb,Za]
 refine dE (r:=r) (s:=o1) (d:=o2) (t:=o3) (p:=o4) (br _ _) fun ma mb mc md=>?_;refine HK I I ?_;refine JN bN I (fun w1 aT=>Br (Rd.keeps hw aT.keeps) (hM.keeps aT.keeps) (by omega) LZ) ?_;rintro ⟨gv,W⟩ hW
 try dsimp only [id_eq,Zb,Za]
 dsimp only at hW ⊢
 skip
 refine JN bb I (fun w1 aT=>Nc (q:=Q1) (i:=I1) (e_:=E1) ((congrArg (il r) hW).trans hX) ⟨cV aT bI I,cW aT cZ I,cU aT dL I,cH aT eD I⟩ hF (kF aT (by exact .here) I) (Su aT (by exact Take.there .here))) ?_;rintro ⟨s6,d6,t6,p6⟩ _
 try dsimp only [id_eq,Zb,Za]
 refine dE (r:=Q1) (s:=s6) (d:=d6) (t:=t6) (p:=p6) (br _ _) fun ma6 mb6 mc6 md6=>?_
 (refine Jv I<|JJ I I<|JJ I I<|JJ I I<|Jz I I fun _ _=>ao (.of I) (.of I) .here I I (fk I I ma6 mb6 mc6 md6) (bu I) ai<|Ja I<|Ja I<|Ji<|ab (cm lD) I ?_)
 rename_i b6 hb6;refine eu [bz b6 (.cells #[.q (Q1).lv,.q (Q1).ma,s6,d6,t6,p6] 41 (0,0)),J1 (Q1) s6,J2 (Q1) d6,J3 (Q1) t6,J4 (Q1) p6,bz b5 (.cells #[.string xd,xv] 69 (0,0)),JQ b2 r s d t p] (by exact .h5 (.cons mN (.cons mN .nil))) ?_;refine JN bN I (fun w1 aT=>lC (h.keeps aT.keeps) Vz) ?_;rintro ⟨o1,o2,o3,o4⟩ _
 try dsimp only [id_eq,Zb,Za]
 refine dE (r:=r) (s:=o1) (d:=o2) (t:=o3) (p:=o4) (br _ _) fun ma mb mc md=>?_;refine HK I I ?_;refine JN bN I (fun w1 aT=>Br (Rd.keeps hw aT.keeps) (hM.keeps aT.keeps) (by omega) LZ) ?_;rintro ⟨gv2,W2⟩ Rz
 try dsimp only [id_eq,Zb,Za]
 dsimp only at Rz ⊢
 skip
 refine JN bb I (fun w1 aT=>DO ⟨cV aT bI I,cW aT cZ I,cU aT dL I,cH aT eD I⟩ hF (kF aT (by exact .here) I) (Su aT (by exact Take.there .here))) ?_;rintro ⟨uv,U⟩ hU
 try dsimp only [id_eq,Zb,Za]
 rw [Rz] at hU ⊢;dsimp only at hU ⊢;rw [hX];dsimp only;refine aK (E:=78) (sz:=2) (v:=uv) (by exact .here) fun ua uc e=>?_;subst e;refine Jv I<|JJ I I<|JJ I I<|Ja I<|Ja I<|Jn<|Jq ?_;refine eu [row 78 2 (.slice ua U.length uc) U.length (gP U).flatten,yX U,bz b6 (.cells #[.q (Q1).lv,.q (Q1).ma,s6,d6,t6,p6] 41 (0,0)),J1 (Q1) s6,J2 (Q1) d6,J3 (Q1) t6,J4 (Q1) p6,bz b5 (.cells #[.string xd,xv] 69 (0,0)),JQ b2 r s d t p] (by exact .h2 (.cons mN (.cons mN (.cons mN (.cons mN (.cons mN (.cons mN (.cons mN .nil)))))))) ?_
 with_reducible refine tD 12 [10] (by kernel_rfl) (Zw.2 ⟨sD I (by kernel_rfl) (by kernel_rfl),fun _ h=>absurd h Zp⟩) ?_
 refine aA (fun β=>(bK (.of I) Iy ai (by rfl))) bo I ?_;dsimp only [Nat.zero_add,Nat.reduceAdd]
 with_reducible apply fC (ι:=Value×Value×Value×Value) (Φ:=fun _=>True) (val:=fun x=>.agg #[.q r.lv,.q r.ma,x.1,x.2.1,x.2.2.1,x.2.2.2]) (own:=fun x=>u3 r x) (g:=g4) (B:=[]) (args:=fun _=>[.agg #[.q r.lv,.q r.ma,s,d,t,p]])
 case hg=>exact ri
 case hB=>rfl
 case hr=>exact fun β=>bj (.of I) (.o I .nil) inferInstance I
 case hd=>rfl
 case hc=>exact fun β w' hb=>lC (h.keeps hb.mem.keeps) Vz
 dsimp only [Nat.reduceAdd];refine aA (fun β=>(bK (.of I) oL ai (by rfl))) bo I ?_;refine kD (fun β=>(ba (.o I .nil) I I bB bB ai)) (fun _ _ _=>rfl) I ?_;dsimp only [Nat.reduceAdd]
 with_reducible apply fC (ι:=Nat×Nat×Value) (Φ:=fun _=>True) (val:=fun x=>.slice (some ⟨x.1,0,none⟩) 1 x.2.1) (own:=fun x=>[row 78 2 (.slice (some ⟨x.1,0,none⟩) 1 x.2.1) 1 [.string xd,x.2.2],row 9 1 x.2.2 xs.length (aP xs)]) (g:=Uy) (B:=[3]) (args:=fun β=>[.slice (some ⟨ed (β 3),0,none⟩) 1 1])
 case hg=>exact Ux
 case hB=>kernel_rfl
 case hr=>exact fun β=>bj (.of I) (.o I .nil) inferInstance I
 case hd=>rfl
 case hc=>
  intro β w' hb;have m3:=hb.at 3 Zs (s:=⟨fun β=>.slice (some ⟨ed (β 3),0,none⟩) 1 1,fun β=>[bz (ed (β 3)) (.cells #[.string xd,xv] 69 (0,0))]⟩) I
  dsimp only [Zb,Za] at m3;exact Mv (SY m3 .here) (Y7.keeps hb.mem.keeps) (by omega)
 dsimp only [Nat.reduceAdd]
 with_reducible apply aA (F:=fun β=>.pointer (some ⟨(Uy (β 4)).1,0,none⟩))
 case hr=>(intro β;exact an (.of I) (.of I) I (by omega) (by omega) aW)
 case hi=>exact fun β β' h=>by simp only [h 4 (by kernel_rfl)]
 case hd=>rfl
 dsimp only [Nat.reduceAdd]
 with_reducible apply Yh (j:=4) (F:=fun β=>.agg #[.string xd,(Uy (β 4)).2.2])
 case hS=>rfl
 case hw=>kernel_rfl
 case hr=>exact fun β=>ja (.of I) (eR.aar .here) I
 case hi=>exact fun β β' h=>by simp only [h 4 (by kernel_rfl)]
 case hd=>rfl
 dsimp only [Nat.reduceAdd]
 with_reducible apply fC (ι:=Value×Value×Value×Value) (Φ:=fun _=>True) (val:=fun y=>.tuple #[.agg #[.q (Q2).lv,.q (Q2).ma,y.1,y.2.1,y.2.2.1,y.2.2.2],.q E2]) (own:=fun y=>u3 Q2 y) (g:=g4) (B:=[1,4]) (args:=fun β=>[.agg #[.q r.lv,.q r.ma,(g4 (β 1)).1,(g4 (β 1)).2.1,(g4 (β 1)).2.2.1,(g4 (β 1)).2.2.2],.agg #[.string xd,(Uy (β 4)).2.2]])
 case hg=>exact ri
 case hB=>kernel_rfl
 case hr=>exact fun β=>bj (.of I) (.o I (.o I .nil)) inferInstance I
 case hd=>rfl
 case hc=>
  intro β w' hb;have m1:=hb.at 1 Zs I;have m2:=hb.at 4 (ZP _ Zs) I;dsimp only at m1;dsimp only [Zb,Za] at m2;have m3:=eM (E:=9) (v:=(Uy (β 4)).2.2) (l:=xs) (n:=xs.length) m2 (.there .here) I;have m4:=VY m1 (br _ _);exact Oj (k:=⟨xd,xs⟩) Y4 m4 hF m3
 dsimp only [Nat.reduceAdd]
 with_reducible apply aA (F:=fun β=>.tuple #[.agg #[.q (Q2).lv,.q (Q2).ma,(g4 (β 7)).1,(g4 (β 7)).2.1,(g4 (β 7)).2.2.1,(g4 (β 7)).2.2.2],.q E2])
 case hr=>(intro β;exact aS (.of I))
 case hi=>exact fun β β' h=>by simp only [h 7 (by kernel_rfl)]
 case hd=>rfl
 dsimp only [Nat.reduceAdd]
 with_reducible apply aA (F:=fun β=>.agg #[.q (Q2).lv,.q (Q2).ma,(g4 (β 7)).1,(g4 (β 7)).2.1,(g4 (β 7)).2.2.1,(g4 (β 7)).2.2.2])
 case hr=>(intro β;exact fR (.of I) I)
 case hi=>exact fun β β' h=>by simp only [h 7 (by kernel_rfl)]
 case hd=>rfl
 dsimp only [Nat.reduceAdd]
 with_reducible apply aA (F:=fun β=>.q E2)
 case hr=>(intro β;exact fR (.of I) I)
 case hi=>exact bo
 case hd=>rfl
 dsimp only [Nat.reduceAdd];refine kD (fun β=>(kZ I)) (fun _ _ _=>rfl) I ?_;refine fq fun β=>?_;unfold u3;dsimp only [ez,Za,Zb,List.append_eq,Nat.reduceAdd];generalize g4 (β 1)=ya;generalize Uy (β 4)=yb;generalize ed (β 3)=b3;obtain ⟨s7,d7,t7,p7⟩:=g4 (β 7);generalize ed (β 11)=b7;clear β;dsimp only;refine dE (r:=Q2) (s:=s7) (d:=d7) (t:=t7) (p:=p7) (by unfold u3;dsimp only;exact .cons oL (.cons oL (.cons oL (.cons oL .nil)))) fun ma7 mb7 mc7 md7=>?_;refine bR (rs:=[12]) (by kernel_rfl) (by simp) (Zw.2 ⟨?_,fun _ h=>absurd h Zp⟩);refine cd I ?_
 (refine ao (.of I) (.of I) xU I I (fk I I ma7 mb7 mc7 md7) (bu I) ai<|Jn ?_)
 refine bR (rs:=[13]) (by kernel_rfl) (by simp) (Zw.2 ⟨?_,fun _ h=>absurd h Zp⟩);refine cd I ?_;refine Ja I<|Jn ?_
 with_reducible refine cE (by kernel_rfl) ?_
 refine eu [bz b7 (.cells #[.q (Q2).lv,.q (Q2).ma,s7,d7,t7,p7] 41 (0,0)),J1 (Q2) s7,J2 (Q2) d7,J3 (Q2) t7,J4 (Q2) p7,row 78 2 (.slice ua U.length uc) U.length (gP U).flatten,yX U,bz b6 (.cells #[.q (Q1).lv,.q (Q1).ma,s6,d6,t6,p6] 41 (0,0)),J1 (Q1) s6,J2 (Q1) d6,J3 (Q1) t6,J4 (Q1) p6,bz b5 (.cells #[.string xd,xv] 69 (0,0)),JQ b2 r s d t p] (by exact .h5 (.cons oL (.cons oL (.cons oL (.cons oL (.cons oL (.cons oL (.cons oL (.cons oL (.cons oL .nil)))))))))) ?_;refine Jt<|Jr<|ab (cm Iz) I ?_;refine aj bN I (fun w1 aT=>yK (h.keeps aT.keeps) Vz) ?_;refine R7 I I ?_;refine kJ ?_;refine iM ?_;refine j6 ?_;refine gj ?_;refine HK I I ?_;refine R7 I I ?_;refine kJ ?_;refine iM ?_;refine ru (ι:=Int×Int) (fun x=>(x.1=xN r (bJ l)/\x.2=xN r [⟨xd,xs⟩])) (fun x=>[(14,.q x.2),(13,.q x.1),(12,.q E2),(11,.p b7),(10,.q E1),(9,.slice ua U.length uc),(8,.q E1),(7,.q I1),(6,.p b6),(5,.p b5),(1,.slice a l.length cp),(2,.p b2)]) (fun x=>[bz b7 (.cells #[.q (Q2).lv,.q (Q2).ma,s7,d7,t7,p7] 41 (0,0)),J1 (Q2) s7,J2 (Q2) d7,J3 (Q2) t7,J4 (Q2) p7,row 78 2 (.slice ua U.length uc) U.length (gP U).flatten,yX U,bz b6 (.cells #[.q (Q1).lv,.q (Q1).ma,s6,d6,t6,p6] 41 (0,0)),J1 (Q1) s6,J2 (Q1) d6,J3 (Q1) t6,J4 (Q1) p6,bz b5 (.cells #[.string xd,xv] 69 (0,0)),JQ b2 r s d t p]) ?_ ?_
 ·by_cases gD:fZ r=0
  rotate_left
  ·have hq:xN r (bJ l)=fZ r:=if_pos gD;have rb:xN r [⟨xd,xs⟩]=fZ r:=if_pos gD;refine Jr<|Jv I<|JC I<|Jn<|Jc I fun au=>Jk ?_
   with_reducible apply iN (fZ r,fZ r) ⟨hq.symm,rb.symm⟩
   case h1=>(repeat refine .cons I ?_);exact .nil
   case ht=>exact iQ
  have hq:xN r (bJ l)=r5 r (bJ l):=if_neg (not_not_intro gD);have rb:xN r [⟨xd,xs⟩]=r5 r [⟨xd,xs⟩]:=if_neg (not_not_intro gD);refine Jr<|Jv I<|JC I<|Jn<|Jd I fun au=>?_
  with_reducible refine dO 9 (by kernel_rfl) ?_
  refine aA (fun β=>(bK (.of I) Iz ai (by rfl))) bo I ?_;refine aA (fun β=>(aS (.of I))) bo I ?_;dsimp only [Nat.zero_add,Nat.reduceAdd]
  with_reducible apply c7 (B:=[]) (F:=fun _=>.q (r5 r (bJ l))) (args:=fun _=>[.agg #[.q r.lv,.q r.ma,s,d,t,p],.slice a l.length cp])
  case hB=>rfl
  case hr=>exact fun β=>bj (.of I) (.o I (.o I .nil)) inferInstance I
  case hi=>exact bo
  case hd=>rfl
  case hc=>exact fun β w' hb=>te (h.keeps hb.mem.keeps) (Rd.keeps hw hb.mem.keeps) (hM.keeps hb.mem.keeps)
  dsimp only [Nat.reduceAdd];refine aA (fun β=>(bK (.of I) Iz ai (by rfl))) bo I ?_;refine aA (fun β=>(bK (.of I) lD ai (by rfl))) bo I ?_;refine kD (fun β=>(ba (.o I .nil) I I bB bB ai)) (fun _ _ _=>rfl) I ?_;dsimp only [Nat.reduceAdd]
  with_reducible apply c7 (B:=[5]) (F:=fun _=>.q (r5 r [⟨xd,xs⟩])) (args:=fun β=>[.agg #[.q r.lv,.q r.ma,s,d,t,p],.slice (some ⟨ed (β 5),0,none⟩) 1 1])
  case hB=>kernel_rfl
  case hr=>exact fun β=>bj (.of I) (.o I (.o I .nil)) inferInstance I
  case hi=>exact bo
  case hd=>rfl
  case hc=>
   intro β w' hb;have m5:=hb.at 5 Zs (s:=⟨fun β=>.slice (some ⟨ed (β 5),0,none⟩) 1 1,fun β=>[bz (ed (β 5)) (.cells #[.string xd,xv] 69 (0,0))]⟩) I
   dsimp only [Zb,Za] at m5;exact te (l:=[⟨⟨xd,xs⟩,xv⟩]) (h.keeps hb.mem.keeps) (SY m5 .here) (fun x hx=>by rw [ZG.1 hx];exact Y7.keeps hb.mem.keeps)
  dsimp only [Nat.reduceAdd];refine aA (fun β=>(cC (.of I))) bo I ?_;refine aA (fun β=>(cC (.of I))) bo I ?_;dsimp only [Nat.reduceAdd];refine fq fun β=>?_;dsimp only [ez,Za,Zb,List.append_eq,Nat.reduceAdd];generalize ed (β 5)=b4;clear β
  with_reducible refine cE (by kernel_rfl) ?_
  refine iM ?_
  with_reducible apply iN (r5 r (bJ l),r5 r [⟨xd,xs⟩]) ⟨hq.symm,rb.symm⟩
  case h1=>(repeat refine .cons I ?_);exact .nil
  case ht=>exact iQ
 rintro ⟨B,D⟩ ⟨hB,hD⟩;dsimp only at hB hD ⊢;obtain ⟨r9,rf⟩:=kW hB hX;obtain ⟨Uh,hd2⟩:=kW hD Y4;refine j6 ?_;refine gj ?_;refine R7 I I ?_;refine kJ ?_;refine iM ?_;refine j6 ?_;refine gj ?_;refine a8 (kZ I) I (fun _ _=>?_);refine a8 (kZ I) I (fun _ _=>?_);refine kJ ?_;refine iM ?_;refine j6 ?_;refine gj ?_;refine R7 I I ?_;refine kJ ?_;refine iM ?_;rename_i b8 Xu b9 hb9;refine ru (ι:=Value×Value×Value×Value) (fun x=>True) (fun x=>[(13,.int .i64 E1),(15,.int .i64 I1),(18,.slice none 0 0),(16,.pointer (some ⟨b8,0,none⟩)),(17,.pointer (some ⟨b9,0,none⟩)),(14,.int .i64 D),(12,.int .i64 E2),(11,.pointer (some ⟨b7,0,none⟩)),(10,.int .i64 E1),(9,.slice ua U.length uc),(8,.int .i64 E1),(7,.int .i64 I1),(6,.pointer (some ⟨b6,0,none⟩)),(5,.pointer (some ⟨b5,0,none⟩)),(1,.slice a l.length cp),(2,.pointer (some ⟨b2,0,none⟩))]) (fun x=>[bz b8 (.cells #[.int .i64 (Q1).lv,.int .i64 (Q1).ma,x.1,x.2.1,x.2.2.1,x.2.2.2] 27 (0,0)),row 118 2 x.1 (Q1).sr.length (kG (Q1).sr),row 88 3 x.2.1 (Q1).de.length (jX (Q1).de),row 122 3 x.2.2.1 (Q1).ti.length (kU (Q1).ti),row 180 3 x.2.2.2 (Q1).po.length (gA (Q1).po),bz b9 (.cells #[.int .i64 0,.int .i64 0,.slice none 0 0,.slice none 0 0,.slice none 0 0,.slice none 0 0] 27 (0,0)),bz b7 (.cells #[.int .i64 (Q2).lv,.int .i64 (Q2).ma,s7,d7,t7,p7] 41 (0,0)),J1 (Q2) s7,J2 (Q2) d7,J3 (Q2) t7,J4 (Q2) p7,row 78 2 (.slice ua U.length uc) U.length (gP U).flatten,yX U,bz b6 (.cells #[.int .i64 (Q1).lv,.int .i64 (Q1).ma,s6,d6,t6,p6] 41 (0,0)),J1 (Q1) s6,J2 (Q1) d6,J3 (Q1) t6,J4 (Q1) p6,bz b5 (.cells #[.string xd,xv] 69 (0,0)),JQ b2 r s d t p]) ?_ ?_
 ·by_cases hz:B=0
  ·obtain ⟨gD,hT,YN⟩:=rf hz
   (refine Jr<|Jv I<|JC I<|Jn<|Jd I fun au=>Jg<|ab (cm jy) I<|Jv I ?_)
   refine JN bb I (fun w1 aT=>F9 I YN (h.keeps aT.keeps) gD (Rd.keeps hw aT.keeps) (hM.keeps aT.keeps) hT) ?_;rintro ⟨s8,d8,t8,p8⟩ _
   try dsimp only [id_eq,Zb,Za]
   refine jF (r:=Q1) (s:=s8) (d:=d8) (t:=t8) (p:=p8) (br _ _) fun ma8 mb8 mc8 md8=>?_
   (refine Jv I<|JJ I I<|JJ I I<|JJ I I<|ao (.of I) (.of I) eD I I (fk I I ma8 mb8 mc8 md8) (bu I) ai<|Ja I<|Ja I<|Jn ?_)
   with_reducible apply iN (s8,d8,t8,p8) trivial
   case h1=>(repeat refine .cons I ?_);exact .nil
   case ht=>exact iQ
  ·obtain ⟨rfl,rfl,rfl⟩:=r9 hz;refine Jr<|Jv I<|JC I<|Jn<|Jc I fun au=>Jk ?_;refine Ce ?_;dsimp only [Ro.nil,qt,Zb,Za]
   with_reducible apply iN (.z,.z,.z,.z) trivial
   case h1=>(repeat refine .cons I ?_);exact .nil
   case ht=>exact .cons eD (.h3 (.h8 (.h8 .nil)))
 rintro ⟨s8,d8,t8,p8⟩ _;dsimp only;refine ru (ι:=Value×List fc) (fun x=>bJ x.2=sh r (bJ l)) (fun x=>[(18,x.1),(13,.int .i64 E1),(15,.int .i64 I1),(16,.pointer (some ⟨b8,0,none⟩)),(17,.pointer (some ⟨b9,0,none⟩)),(14,.int .i64 D),(12,.int .i64 E2),(11,.pointer (some ⟨b7,0,none⟩)),(10,.int .i64 E1),(9,.slice ua U.length uc),(8,.int .i64 E1),(7,.int .i64 I1),(6,.pointer (some ⟨b6,0,none⟩)),(5,.pointer (some ⟨b5,0,none⟩)),(1,.slice a l.length cp),(2,.pointer (some ⟨b2,0,none⟩))]) (fun x=>[row 69 2 x.1 (x.2).length (gP (x.2)).flatten,yX (x.2),bz b8 (.cells #[.int .i64 (Q1).lv,.int .i64 (Q1).ma,s8,d8,t8,p8] 27 (0,0)),row 118 2 s8 (Q1).sr.length (kG (Q1).sr),row 88 3 d8 (Q1).de.length (jX (Q1).de),row 122 3 t8 (Q1).ti.length (kU (Q1).ti),row 180 3 p8 (Q1).po.length (gA (Q1).po),bz b9 (.cells #[.int .i64 0,.int .i64 0,.slice none 0 0,.slice none 0 0,.slice none 0 0,.slice none 0 0] 27 (0,0)),bz b7 (.cells #[.int .i64 (Q2).lv,.int .i64 (Q2).ma,s7,d7,t7,p7] 41 (0,0)),J1 (Q2) s7,J2 (Q2) d7,J3 (Q2) t7,J4 (Q2) p7,row 78 2 (.slice ua U.length uc) U.length (gP U).flatten,yX U,bz b6 (.cells #[.int .i64 (Q1).lv,.int .i64 (Q1).ma,s6,d6,t6,p6] 41 (0,0)),J1 (Q1) s6,J2 (Q1) d6,J3 (Q1) t6,J4 (Q1) p6,bz b5 (.cells #[.string xd,xv] 69 (0,0)),JQ b2 r s d t p]) ?_ ?_
 ·by_cases hz:E1=0
  ·have hz2:B=0:=Decidable.byContradiction fun c=>c ((r9 c).2.2.symm.trans hz)
   obtain ⟨gD,hT,YN⟩:=rf hz2
   (refine Jr<|Jv I<|JC I<|Jn<|Jd I fun au=>Jg<|ab (cm (.there (.there (.there jN)))) I<|Jv I ?_)
   refine JN bb I (fun w1 aT=>Ka (h.keeps aT.keeps) gD (Rd.keeps hw aT.keeps) (hM.keeps aT.keeps) hT) ?_;rintro ⟨vv,V⟩ hV
   try dsimp only [id_eq,Zb,Za]
   dsimp only at hV;refine Ja I<|Jn ?_;have GF:bJ V=sh r (bJ l):=by rw [hV];unfold sh;rw [hX];exact (if_neg (not_not_intro hz)).symm
   with_reducible apply iN (vv,V) GF
   case h1=>(repeat refine .cons I ?_);exact .nil
   case ht=>exact iQ
  ·have GF:bJ []=sh r (bJ l):=by unfold sh;rw [hX];exact (if_pos hz).symm
   refine Jr<|Jv I<|JC I<|Jn<|Jc I fun au=>Jk ?_;refine Hk ?_
   with_reducible apply iN (.z,[]) GF
   case h1=>(repeat refine .cons I ?_);exact .nil
   case ht=>exact .h2 (by exact .h4 (.h8 (.h8 .nil)))
 rintro ⟨vv,V⟩ hV;dsimp only at hV ⊢;refine ru (ι:=Value×Value×Value×Value) (fun x=>True) (fun x=>[(14,.int .i64 E2),(18,vv),(13,.int .i64 E1),(15,.int .i64 I1),(16,.pointer (some ⟨b8,0,none⟩)),(17,.pointer (some ⟨b9,0,none⟩)),(12,.int .i64 E2),(11,.pointer (some ⟨b7,0,none⟩)),(10,.int .i64 E1),(9,.slice ua U.length uc),(8,.int .i64 E1),(7,.int .i64 I1),(6,.pointer (some ⟨b6,0,none⟩)),(5,.pointer (some ⟨b5,0,none⟩)),(1,.slice a l.length cp),(2,.pointer (some ⟨b2,0,none⟩))]) (fun x=>[bz b9 (.cells #[.int .i64 (Q2).lv,.int .i64 (Q2).ma,x.1,x.2.1,x.2.2.1,x.2.2.2] 27 (0,0)),row 118 2 x.1 (Q2).sr.length (kG (Q2).sr),row 88 3 x.2.1 (Q2).de.length (jX (Q2).de),row 122 3 x.2.2.1 (Q2).ti.length (kU (Q2).ti),row 180 3 x.2.2.2 (Q2).po.length (gA (Q2).po),row 69 2 vv (V).length (gP (V)).flatten,yX (V),bz b8 (.cells #[.int .i64 (Q1).lv,.int .i64 (Q1).ma,s8,d8,t8,p8] 27 (0,0)),row 118 2 s8 (Q1).sr.length (kG (Q1).sr),row 88 3 d8 (Q1).de.length (jX (Q1).de),row 122 3 t8 (Q1).ti.length (kU (Q1).ti),row 180 3 p8 (Q1).po.length (gA (Q1).po),bz b7 (.cells #[.int .i64 (Q2).lv,.int .i64 (Q2).ma,s7,d7,t7,p7] 41 (0,0)),J1 (Q2) s7,J2 (Q2) d7,J3 (Q2) t7,J4 (Q2) p7,row 78 2 (.slice ua U.length uc) U.length (gP U).flatten,yX U,bz b6 (.cells #[.int .i64 (Q1).lv,.int .i64 (Q1).ma,s6,d6,t6,p6] 41 (0,0)),J1 (Q1) s6,J2 (Q1) d6,J3 (Q1) t6,J4 (Q1) p6,bz b5 (.cells #[.string xd,xv] 69 (0,0)),JQ b2 r s d t p]) ?_ ?_
 ·by_cases hz:D=0
  ·obtain ⟨gD,hT,YN⟩:=hd2 hz
   (refine Jr<|Jv I<|JC I<|Jn<|Jd I fun au=>Jg<|ab (cm (.there (.there (.there (.there (.there jN)))))) I<|ab (cm (.there (.there (.there (.there jN))))) I<|a8 (ba (.o I .nil) I I bB bB ai) I fun _ _=>?_)
   refine JN bb I (fun w1 aT=>F9 (l:=[⟨⟨xd,xs⟩,xv⟩]) I YN (h.keeps aT.keeps) gD (SY aT (by exact .here)) (fun x hx=>by rw [ZG.1 hx];exact Y7.keeps aT.keeps) hT) ?_;rintro ⟨s9,d9,t9,p9⟩ _
   try dsimp only [id_eq,Zb,Za]
   refine jF (r:=Q2) (s:=s9) (d:=d9) (t:=t9) (p:=p9) (br _ _) fun ma9 mb9 mc9 md9=>?_
   (refine Jv I<|JJ I I<|JJ I I<|JJ I I<|ao (.of I) (.of I) lD I I (fk I I ma9 mb9 mc9 md9) (bu I) ai<|Ja I<|Jn ?_)
   with_reducible apply iN (s9,d9,t9,p9) trivial
   case h1=>(repeat refine .cons I ?_);exact .nil
   case ht=>exact iQ
  ·obtain ⟨rfl,rfl,rfl⟩:=Uh hz;refine Jr<|Jv I<|JC I<|Jn<|Jc I fun au=>Jk ?_;refine Ce ?_;dsimp only [Ro.nil,qt,Zb,Za]
   with_reducible apply iN (.z,.z,.z,.z) trivial
   case h1=>(repeat refine .cons I ?_);exact .nil
   case ht=>exact .cons xU (.h1 (.h8 (.h8 (.h8 .nil))))
 rintro ⟨s9,d9,t9,p9⟩ _;dsimp only
 (refine Jr<|ab (cm (.there (.there (.there jN)))) I<|Jv I<|Jv I<|ab (cm oL) I ?_)
 refine aj rZ I (fun w1 aT=>z8 ⟨cV aT (.there (.there (.there (.there jN)))) I,cW aT (.there (.there (.there (.there (.there jN))))) I,cU aT (.there (.there (.there (.there (.there (.there jN)))))) I,cH aT (.there (.there (.there (.there (.there (.there (.there jN))))))) I⟩ (CD hX Vz) ⟨cV aT Iy I,cW aT jY I,cU aT nB I,cH aT xU I⟩ I (we hX) (fun _=>rfl)) ?_;have hU9:U.length<=1000:=by
  have e:(bJ U).length=(sh r (bJ l)).length:=congrArg _ hU;rw [show (bJ U).length=U.length from Zd _] at e;have:=Kc (r:=r) (l:=bJ l);rw [show (bJ l).length=l.length from Zd _] at this;omega
 have hU4:∀ x∈U,x.tk.so.length<=1000:=fun x hx=>N3 hX (fun t ht=>by
  obtain ⟨y,hy,rfl⟩:=Zy.1 ht;exact hs4 y hy) x.tk (by rw [<- hU];exact Z0 hx)
 (refine Jv I<|JK I I<|Jv I<|JK I I<|Jv I<|JK I I<|ab (qC (.of I) (.of I) I) I<|ab (ki (.of I) (.of I) (.of I) I) I<|Jv I<|JK I I<|Jv I<|JK I I ?_)
 refine JN bN I (fun w1 aT=>F0 (kF aT (.there jN) I) (Su aT (.there (.there jN))) hU9 hU4) ?_;rintro ⟨tv,T⟩ hT
 try dsimp only [id_eq,Zb,Za]
 dsimp only at hT;refine JK I I<|Jv I<|JK I I ?_;refine aj bb I (fun w1 aT=>F8 (l:=T) (m:=V) (kF aT (by exact .here) I) (Su aT (by exact Take.there .here)) (kF aT oL I) (Su aT Iy) (hT.trans (hU.trans hV.symm))) ?_
 (refine ab (ki (.of I) (.of I) (.of I) I) I<|Jv I<|JK I I<|Jv I<|JK I I<|Jv I<|JK I I<|ab (qC (.of I) (.of I) I) I<|ab (ki (.of I) (.of I) (.of I) I) I<|Jv I<|JK I I<|ab (cm BX) I<|JK I I<|Jv I<|JK I I<|Jv I<|JK I I<|ab (cm bI) I<|JK I I ?_)
 refine aj rZ I (fun w1 aT=>z8 ⟨cV aT jy I,cW aT jN I,cU aT (.there jN) I,cH aT (.there (.there jN)) I⟩ (CD Y4 Vz) ⟨cV aT cZ I,cW aT dL I,cU aT eD I,cH aT mN I⟩ I (we Y4) (fun _=>rfl)) ?_
 (refine ab (ki (.of I) (.of I) (.of I) I) I<|Ja I<|Jn<|Je<|JT ?_)
 rfl
end Go.Proofs.A1
