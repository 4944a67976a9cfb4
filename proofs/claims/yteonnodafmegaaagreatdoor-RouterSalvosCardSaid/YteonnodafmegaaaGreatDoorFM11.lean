/- Parts of the proof: LD LE LF LG GkRegP LH TryzShelf GkDraws. -/
import Derived.Test.YteonnodafmegaaaGreatDoorFM10
import Derived.Test.YteonnodafmegaaaGreatDoorFM04
import Derived.Test.YteonnodafmegaaaGreatDoorFM06
import Derived.Shelf.Strings.OnBuilder
import Derived.Shelf.Strconv.Itoa3
import Derived.Ground.NamesProg
import Derived.Ground.Names2Prog
import Derived.Test.YteonnodafmegaaaGreatDoorProg
import Derived.Calls
import Derived.RunT
set_option linter.unusedSectionVars false
set_option linter.unusedVariables false
set_option linter.unusedSimpArgs false
namespace Go.Proofs.A1
open Go Go.SL
open Tryz
open Tryz renaming prog->T_
theorem q6 (cs:List Value) (o:Nat) (v:Value) (h:o<cs.length):setCells cs o [v]=cs.set o v:=by
 simp [setCells]
theorem F3 (L:List ByteArray) (cur:List Value) {k:Nat} (h:k<L.length) (v:ByteArray):setCells (aP L++cur) (k*1) [.string v]=aP (L.set k v)++cur:=by
 rw [Zav,q6 _ _ _ (by rw [Zg,c6];omega),List.set_append_left _ _ (by rw [c6];exact h)];unfold aP;rw [List.map_set]
theorem si (L:List ByteArray) (cur:List Value) {k:Nat} (h:k<L.length):(aP L++cur)[k*1]? = some (.string L[k]):=by
 rw [Zav,ZD (by rw [c6];exact h)];unfold aP;rw [ZI,Zc h];rfl
def Cc (r:Ro) (t:Tk) (k:Nat):ByteArray:=if t.at k=⟨#[]⟩ then ⟨#[]⟩ else if jD r (k:Nat) t.de=⟨#[]⟩ then dash else jD r (k:Nat) t.de
def lH (r:Ro) (t:Tk) (k:Nat):List ByteArray:=(List.range r.lv.toNat).map fun i=>if i<k then Cc r t i else jD r (i:Nat) t.de
theorem l9 (r:Ro) (t:Tk) (k:Nat):(lH r t k).length=r.lv.toNat:=by unfold lH;simp
theorem Hg (r:Ro) (t:Tk):lH r t 0=cX r t.de:=by unfold lH cX;simp
theorem Kf (r:Ro) (t:Tk):lH r t r.lv.toNat=(pg r t).so:=by
 unfold lH pg;refine Zbu fun i hi=>?_;rw [if_pos (ZX.1 hi)];rfl
variable {b:Nat} {f:FuncId} {k:Nat} {r:Ro} {t:Tk} {w:World}
theorem Av {k i:Nat} (h:i<r.lv.toNat):(lH r t k)[i]? = some (if i<k then Cc r t i else jD r (i:Nat) t.de):=by
 unfold lH;rw [ZI,List.getElem?_range h];rfl
theorem Ke (h:k<(lH r t k).length):(lH r t k)[k]=jD r (k:Nat) t.de:=by
 have h1:=Zc h;rw [Av (by rw [l9] at h;exact h),if_neg (ZbD _)] at h1;exact (Option.some.inj h1).symm
theorem Kd (h:k<r.lv.toNat):(lH r t k).set k (Cc r t k)=lH r t (k+1):=by
 apply Zax;intro i;rw [List.getElem?_set];by_cases hi:i<r.lv.toNat
 ·rw [Av hi,Av hi,l9];by_cases e:k=i
  ·subst e;rw [if_pos I,if_pos hi,if_pos (Nat.lt_succ_self _)]
  ·rw [if_neg e];by_cases e2:i<k
   ·rw [if_pos e2,if_pos (by omega)]
   ·rw [if_neg e2,if_neg (by omega)]
 ·have e1:(lH r t k)[i]? = none:=Zan (by rw [l9];omega);have e2:(lH r t (k+1))[i]? = none:=Zan (by rw [l9];omega);rw [if_neg (by omega),e1,e2]
theorem Hh (h:Cc r t k=jD r (k:Nat) t.de):lH r t (k+1)=lH r t k:=by
 unfold lH;refine Zbu fun i _=>?_;by_cases e:i=k
 ·subst e;rw [if_pos (Nat.lt_succ_self _),if_neg (ZbD _),h]
 ·by_cases e2:i<k
  ·rw [if_pos e2,if_pos (by omega)]
  ·rw [if_neg e2,if_neg (by omega)]
set_option maxHeartbeats 1000000 in
theorem Ss {s d t p:Value} {x:fc} (h:RR w r s d t p) (hA:BR w b (RC r s d t p)) (tW:1<=r.lv/\r.lv<=1000) (c8:r.ti.length<=1000000) (hx:Rd w x.v 1 (gT x.tk.so)) (Py:(x.tk.so.length:Int)=r.lv) :
  bh T_ 167 [.agg x.cells.toArray,.p b] w [] (fun _:Value=>True) (fun v=>.agg #[.string x.tk.de,v]) (fun v=>[row 9 1 v r.lv.toNat (aP (pg r x.tk).so)]):=by
 obtain ⟨h1,h2,h3,h4⟩:=h.one;have lj:∀ (j:Nat) (u:Value),[Value.int .i64 r.lv,.int .i64 r.ma,s,d,t,p][j]? = some u->w.cell? ⟨b,0+j,none⟩=some u:=hA;clear hA;unfold fc.cells;obtain ⟨tk,tv⟩:=x;dsimp only at *;obtain ⟨sa,F6,sb,KB,rfl,C8,pR,LY,LV⟩:=hx;rw [bF] at *;unfold maxLen at pR;refine aR func167 I I ?_
 (refine Jr<|Jy I I fun _ _=>Jz I I fun _ _=>Ji<|ab (iU (eR.base lj I)) I<|bG I I ae<|JL I (.there .here) I ?_)
 rename_i b2 aid b3 aib;refine JN bb I (fun w1 aT=>xi tk.de (h.keeps aT.keeps) tW.2 c8) ?_;intro v _;dsimp only [id_eq,Zb,Za];have mX:=l9 r tk;rw [<- Hg];refine dA (E:=9) (sz:=1) (v:=v) (by exact .here) (by omega) fun gb cap cur e r9 rf uf uT=>?_;subst e
 (refine Ja I<|Jn<|Jq<|Jr<|bG I I ae<|JL I bI I<|JI I<|Jv I<|Jn<|J0 ?_)
 refine aV (ι:=Nat×List ByteArray) (fun y=>y.1<=tk.so.length/\y.2=lH r tk y.1) (fun y=>[(14,.q (y.1:Nat)),(13,.q (tk.so.length:Nat)),(12,.slice sa tk.so.length F6),(4,.w gb r.lv.toNat cap),(3,.p b3),(2,.p b2)])
  (fun y=>[bz gb (.cells (aP y.2++cur).toArray 9 (0,0)),bz b3 (.cells #[.string ⟨#[]⟩,.z] 78 (0,0)),bz b2 (.cells #[.string tk.de,.slice sa tk.so.length F6] 78 (0,0))]) (fun y=>tk.so.length-y.1) ?_ ?_
 ·apply aI (0,lH r tk 0) ⟨Zi _,I⟩
  case hs1=>exact bS
  case ht=>exact iQ
 rintro ⟨k,L⟩ ⟨hk,hL⟩;dsimp only at hk hL ⊢;have Dq:L.length=r.lv.toNat:=by rw [hL,l9]
 have jK:(aP L++cur).length=cap*1:=by
  rw [Zg,c6] at uf ⊢;rw [l9] at uf;omega
 by_cases aM:k<tk.so.length
 ·have xb:=LY (ij aM);have w9:w.cell? ⟨sb,KB+k*1,none⟩=some (.string tk.so[k]):=(LV k _ (fw aM)).2 0 _ I;have PL:k<L.length:=by omega
  have gD:L[k]=jD r (k:Nat) tk.de:=by subst hL;exact Ke PL
  have c1:=si L cur PL;rw [gD] at c1;have p1:=F3 L cur PL ⟨#[]⟩;have p2:=F3 L cur PL ⟨#[45]⟩;have hle:k*1+1<=(aP L++cur).length:=by omega
  have YW:k<r.lv.toNat:=by omega
  have jA:tk.at k=tk.so[k]:=by unfold Tk.at;rw [Zk,Zc aM];rfl
  have hF:Cc r tk k=if tk.so[k]=⟨#[]⟩ then ⟨#[]⟩ else if jD r (k:Nat) tk.de=⟨#[]⟩ then dash else jD r (k:Nat) tk.de:=by unfold Cc;rw [jA]
  have ny:∀ u,Cc r tk k=u->L.set k u=lH r tk (k+1):=fun u hu=>by rw [<- hu,hL];exact Kd YW
  have LX:Cc r tk k=jD r (k:Nat) tk.de->L=lH r tk (k+1):=fun hu=>by rw [hL,Hh hu]
  generalize jD r (k:Nat) tk.de=ck at *;generalize tk.so[k]=sk at *
  (refine Jr<|JA I<|Jn<|Jq<|Jd I fun au=>Jk<|Jq<|J0<|Jr<|Jv I<|ab (an (.of I) (.of I) xb (by omega) au aW) I ?_;refine ab (ag (.of I) (At.base w9 I)) I ?_;refine Ja I<|Ja I<|Ji<|Jv I<|ab (dB (.of I) (.of I)) I ?_;refine Jn<|gG I (fun au=>?_) fun au=>?_;refine Jg<|Jv I<|Jv I<|ab (an (.of I) (.of I) I (by omega) (by omega) aW) I ?_;refine ao (.of I) (.of I) .here I I (dG I) hle p1 ?_;refine Jx<|Jj<|Jt<|Jg<|JB I (by omega)<|Jv I<|Jn ?_;rotate_left;refine Jr<|Jv I<|Jv I<|ab (an (.of I) (.of I) I (by omega) (by omega) aW) I ?_;refine ab (ag (.of I) (At.mJ .here c1)) I ?_;refine ab (dB (.of I) (.of I)) I ?_;refine Jn<|gG I (fun au=>?_) fun au=>?_;refine Jg<|Jv I<|Jv I<|ab (an (.of I) (.of I) I (by omega) (by omega) aW) I ?_;refine ao (.of I) (.of I) .here I I (dG I) hle p2 ?_;refine Jx<|Jj<|Jt<|Jg<|JB I (by omega)<|Jv I<|Jn ?_;rotate_left;refine Jw<|Jj<|Jt<|Jg<|JB I (by omega)<|Jv I<|Jn ?_;rotate_right;rotate_right)
  ·rw [if_pos au] at hF;rw [ny _ hF];apply aG (k+1,lH r tk (k+1)) ⟨by show k+1<=_;omega,I⟩ (by show tk.so.length-(k+1)<tk.so.length-k;omega)
   case hs1=>exact bS
   case ht=>exact iQ
  ·rw [if_neg (by assumption),if_pos au] at hF;have hq:L.set k ⟨#[45]⟩=lH r tk (k+1):=ny _ hF;rw [hq];apply aG (k+1,lH r tk (k+1)) ⟨by show k+1<=_;omega,I⟩ (by show tk.so.length-(k+1)<tk.so.length-k;omega)
   case hs1=>exact bS
   case ht=>exact iQ
  ·rw [if_neg (by assumption),if_neg au] at hF;apply aG (k+1,L) ⟨by show k+1<=_;omega,LX hF⟩ (by show tk.so.length-(k+1)<tk.so.length-k;omega)
   case hs1=>exact bS
   case ht=>exact iQ
 ·have e:k=tk.so.length:=by omega
  subst e;have sU:L=(pg r tk).so:=by rw [hL,<- Kf];congr 1;omega
  (refine Jr<|JA I<|Jn<|Jq<|Jc I fun au=>Jp<|Jl<|Jo<|Jt<|Jr<|bG I I ae<|JL I bI I<|Jv I<|ab (aU (.o I (.o I .nil)) ai) I<|ao (.of I) (.of I) (.there .here) I I (gO I I) (bu I) ai<|Jn<|Je ?_)
  subst sU;have TJ:(aP (pg r tk).so).length=r.lv.toNat*1:=by rw [c6,Dq,Zav]
  refine dC (n:=r.lv.toNat) (xs:=aP (pg r tk).so) (cap:=cap) (g:=gb) (E:=9) (sz:=1) (by exact Take.there .here) r9 rf jK TJ ?_
  first | with_reducible apply aO | with_reducible apply aQ
  case he=>exact iP I inferInstance I (.there .here) ai (by rfl)
  case hR=>
   intro w' aB;exact aF (.w gb r.lv.toNat cap) trivial (by exact .h1 .nil) aB I
def yX (W:List fc):bd:=gY 9 (W.map fc.v) (W.map fun y=>aP y.tk.so)
theorem N6:gY 9 [] []=yX []:=rfl
theorem vl (W:List fc) (y:fc):(gP (W++[y])).flatten=(gP W).flatten++[.string y.tk.de,y.v]:=by
 unfold gP;simp [fc.cells]
theorem To {kv:Value} {l:List fc} {g:Tk->Tk} {n:Nat} {first cap:List Value} [bV T_ f] {w:World} (h:Rd w kv 2 (gP l)) (hM:rp w l) (hn:l.length<=1000) (hg:∀ x∈l,(g x.tk).so.length=n)
  (cF:∀ x∈l,∀ w',aJ [] w w'->bh T_ f (first++[.agg x.cells.toArray]++cap) w' [] (fun _:Value=>True) (fun v=>.agg #[.string (g x.tk).de,v]) (fun v=>[row 9 1 v n (aP (g x.tk).so)])) :
  bh T_ 166 [kv,.func (.func f) first.toArray cap.toArray] w [] (fun x:Value×List fc=>bJ x.2=(bJ l).map g) (fun x=>x.1) (fun x=>[row 78 2 x.1 x.2.length (gP x.2).flatten,yX x.2]):=by
 obtain ⟨a,cp,b,o,rfl,dy,bT,ha,hc⟩:=h;rw [dx] at *;unfold maxLen at bT;refine aR func166 I I ?_;refine Jr<|Ja I<|Ji<|Ja I<|Jn<|Jq<|Jr<|Jv I<|JI I<|Jv I<|Jn<|J0 ?_;refine aN 78 2 ?_;refine ie 9 ?_
 refine aV (ι:=Nat×Value×List fc) (fun x=>x.1<=l.length/\bJ x.2.2=(bJ (l.take x.1)).map g) (fun x=>[(10,.q (x.1:Nat)),(9,.q (l.length:Nat)),(8,.slice a l.length cp),(5,x.2.1),(1,.func (.func f) first.toArray cap.toArray)])
  (fun x=>[row 78 2 x.2.1 x.2.2.length (gP x.2.2).flatten,gY 9 (x.2.2.map fc.v) (x.2.2.map fun y=>aP y.tk.so)]) (fun x=>l.length-x.1) ?_ ?_
 ·apply aI (0,.z,[]) ⟨Zi _,I⟩
  case hs1=>exact bS
  case ht=>
   exact .cons (.there .here) (.h1 .nil)
 rintro ⟨k,v,W⟩ ⟨hk,hW⟩;dsimp only at hk hW ⊢;have NL:W.length=k:=by
  have:=congrArg List.length hW;unfold bJ at this;rw [Zd,Zd,Zd,Zq] at this;omega
 by_cases aM:k<l.length
 ·have cu:=ha (iW aM);have aC:=(hc k _ (kh aM)).2;have jK:=cF _ (Zj aM);have NJ:=hg _ (Zj aM);have gi:=Rd.one (hM _ (Zj aM));have htk:(bJ (l.take (k+1))).map g=(bJ (l.take k)).map g++[g l[k].tk]:=by
   unfold bJ;rw [Zm aM,Zt,Zt];rfl
  have tz:(gP W).flatten.length=W.length*2:=by rw [fH (vV W),dx]
  unfold fc.cells at aC jK;refine aK (E:=78) (sz:=2) (v:=v) (by exact .here) fun va vc e=>?_;subst e
  (refine Jr<|JA I<|Jn<|Jq<|Jd I fun au=>Jk<|Jq<|J0<|Jr<|ab (fY cu au) I<|ab (iU (eR.base aC I)) I<|Jz I I fun _ _=>ao (.of I) (.of I) .here I I (gO I gi) (bu I) ai<|Jn<|Jg<|Jv I<|Jv I<|ab (cm .here) I ?_)
  refine JN bN I (fun w1 aT=>jK w1 aT.keeps) ?_;intro hv _;dsimp only [id_eq,Zb,Za];refine aK (E:=9) (sz:=1) (v:=hv) (by exact .here) fun jB kr e=>?_;subst e;refine a8 (ba (.o I .nil) I I bB bB ai) I (fun _ _=>?_);refine bn (.of I) (.of I) cZ .here ai (by rfl) (gO I I) (by rfl) (by rfl) (by rfl) dW (by rfl) ?_;intro v';refine Ja I<|Jx<|Jj<|Jt<|Jg<|JB I (by omega)<|Jv I<|Jn ?_;have TY:(aP (g l[k].tk).so).length=n:=by rw [c6,NJ]
  with_reducible apply j7 (E:=9) (vs:=W.map fc.v) (xs:=W.map fun y=>aP y.tk.so) (v:=.slice jB n kr) (x:=aP (g l[k].tk).so) (n:=n)
  case ht=>exact dL
  case ht2=>exact bI
  case hn=>exact TY.symm
  case hl=>rw [Zd,Zd]
  case k=>
   apply aG (k+1,v',W++[⟨g l[k].tk,.slice jB n kr⟩]) ⟨by show k+1<=_;omega,by
    show bJ (W++[_])=_;unfold bJ at hW htk ⊢;rw [Zt,hW];exact htk.symm⟩ (by show l.length-(k+1)<l.length-k;omega)
   case hs1=>exact bS
   case ht=>
    dsimp only;rw [vl,Zg,Zt,Zt];simp only [Z9,Zf,ZE,Zae,Zx];exact .cons (.there .here) (.h1 .nil)
 ·have e:k=l.length:=by omega
  rw [e,ZO] at hW;refine aK (E:=78) (sz:=2) (v:=v) (by exact .here) fun va vc e=>?_;subst e;refine Jr<|JA I<|Jn<|Jq<|Jc I fun au=>Jp<|Jl<|Jo<|Jt<|Jr<|Jv I<|Ja I<|Jn<|Je ?_
  first | with_reducible apply aO | with_reducible apply aQ
  case he=>exact dI I I
  case hR=>
   intro w' aB;exact aF (.slice va W.length vc,W) hW (by exact .h2 .nil) aB I
def sh (r:Ro) (l:List Tk):List Tk:=if (il r l).2.2≠0 then [] else l.map (pg r)
set_option maxHeartbeats 1000000 in
theorem DO {s d t p kv:Value} {l:List fc} (h:RR w r s d t p) (c8:og r) (hw:Rd w kv 2 (gP l)) (hM:rp w l) :
  bh T_ 47 [RA r s d t p,kv] w [] (fun x:Value×List fc=>bJ x.2=sh r (bJ l)) (fun x=>.tuple #[x.1,.q (il r (bJ l)).2.2]) (fun x=>[row 78 2 x.1 x.2.length (gP x.2).flatten,yX x.2]):=by
 obtain ⟨h1,h2,h3,h4⟩:=h.one;have YW:=Rd.one hw;unfold RA;refine aR func47 I I ?_
 (refine Jr<|Jy I I fun _ _=>Ja I<|Ja I<|Jn<|Jq<|Jr<|ab (cm .here) I<|Jv I ?_)
 rename_i b2 rf;refine JN bb I (fun w1 aT=>BU (h.keeps aT.keeps) c8 (hw.keeps aT.keeps) (hM.keeps aT.keeps)) ?_;have H5:sh r (bJ l)=if (il r (bJ l)).2.2≠0 then [] else (bJ l).map (pg r):=rfl
 have TP:(il r (bJ l)).2.2=0->fZ r=0/\r5 r (bJ l)=0:=fun h0=>by
  unfold il at h0;by_cases c1:fZ r=0
  ·rw [if_neg (not_not_intro c1)] at h0;by_cases c2:r5 r (bJ l)=0
   ·exact ⟨c1,c2⟩
   ·rw [if_pos c2] at h0;exact absurd h0 c2
  ·rw [if_pos c1] at h0;exact absurd h0 c1
 by_cases B3:(il r (bJ l)).2.2=0
 ·obtain ⟨DY,NA⟩:=TP B3;have dU:=BY DY;have hT:=(vk.1 NA).2;have tW:=dU.lim;have vG:=dU.len;rw [if_neg (not_not_intro B3)] at H5;rw [H5];clear H5 TP;generalize il r (bJ l)=R at *;obtain ⟨R,at_,e_⟩:=R;dsimp only at B3;subst B3;rintro ⟨s1,d1,t1,p1⟩ _;dsimp only;unfold RA;refine dE (r:=R) (s:=s1) (d:=d1) (t:=t1) (p:=p1) (br _ _) fun k1 k2 k3 k4=>?_
  (refine Jv I<|JJ I I<|JJ I I<|JJ I I<|Jz I I fun _ _=>ao (.of I) (.of I) .here I I (fk I I k1 k2 k3 k4) (bu I) ai<|Ja I<|Ja I<|Ji<|Jv I<|JD I<|Jn<|Jc I fun au=>Jk<|Jr<|Jv I<|ab (bD .nil (.o I .nil)) I ?_)
  with_reducible apply jZ
  case hr=>exact bb
  case hd=>rfl
  case ht=>exact bC.nil
  case hc=>
   intro w1 fp aT _ hs1;obtain rfl:fp=[]:=hs1;have hA:BR w1 b2 [.int .i64 r.lv,.int .i64 r.ma,s,d,t,p]:=BR.of aT eD;have hR:=h.keeps aT.keeps;have hK:=hM.keeps aT.keeps;have PK:=hT.Bz;unfold bJ at PK;rw [Zd] at PK;exact To (f:=167) (first:=[]) (cap:=[.pointer (some ⟨b2,0,none⟩)]) (g:=pg r) (n:=r.lv.toNat) (hw.keeps aT.keeps) hK (by omega) (fun x _=>by unfold pg;simp) (fun x hx w2 fo=>Ss (hR.keeps fo) (hA.keeps fo) (by omega) (by omega) ((hK x hx).keeps fo) (hT.lv _ (Z0 hx)))
  rintro ⟨v,W⟩ hW;dsimp only at hW ⊢;unfold yX;dsimp only [Zb,Za];refine aK (E:=78) (sz:=2) (v:=v) (by exact .here) fun va vc e=>?_;subst e;refine Ja I<|Ja I<|Jn<|Je ?_
  first | with_reducible apply aO | with_reducible apply aQ
  case he=>exact gF I I I
  case hR=>
   intro w' aB;exact aF (.slice va W.length vc,W) hW (by exact .h2 .nil) aB I
 ·rw [if_pos B3] at H5;rw [H5];clear H5 TP;generalize il r (bJ l)=R at *;obtain ⟨R,at_,e_⟩:=R;dsimp only at B3;rintro ⟨s1,d1,t1,p1⟩ _;dsimp only;unfold RA;refine dE (r:=R) (s:=s1) (d:=d1) (t:=t1) (p:=p1) (br _ _) fun k1 k2 k3 k4=>?_
  (refine Jv I<|JJ I I<|JJ I I<|JJ I I<|Jz I I fun _ _=>ao (.of I) (.of I) .here I I (fk I I k1 k2 k3 k4) (bu I) ai<|Ja I<|Ja I<|Ji<|Jv I<|JD I<|Jn<|Jd I fun au=>Jr<|Jv I<|Ja I<|Ja I<|Jn<|Ju ?_)
  refine aN 78 2 ?_;refine ie 9 ?_;rw [N6]
  first | with_reducible apply aO | with_reducible apply aQ
  case he=>exact gF I I I
  case hR=>
   intro w' aB;exact aF (.z,([]:List fc)) (show bJ []=[] from I) (by exact .cons (.there .here) (.h1 .nil)) aB I
def zx (r:Ro) (o:ByteArray):Int:=aZ [fZ r,rm r o]
def zw (r:Ro) (o:ByteArray) (q:Bool):Ro:=if zx r o≠0 then Ro.nil else r.KZ o q
theorem uq (l:List De):(jX l).length=l.length*3:=by unfold jX;rw [fH (Fh l),bY]
theorem UJ (l:List De) (cur:List Value) {k:Nat} (h:k<l.length) (q:Bool):setCells (jX l++cur) (k*3+2) [.bool q]=jX (l.modify k fun x=>⟨x.nm,x.mx,q⟩)++cur:=by
 rw [q6 _ _ _ (by rw [Zg,uq];omega),List.set_append_left _ _ (by rw [uq];omega)];congr 1;have e:l=l.take k++l[k]::l.drop (k+1):=by rw [<- Zu h,Z5]
 have hm:l.modify k (fun x=>⟨x.nm,x.mx,q⟩)=l.take k++⟨l[k].nm,l[k].mx,q⟩::l.drop (k+1):=by
  rw [List.modify_eq_take_cons_drop h]
 have ht:(jX (l.take k)).length=k*3:=by rw [uq,Zq,Zbf (by omega)]
 have hs:∀ (a:List De) (x:De) (b:List De),jX (a++x::b)=jX a++(x.cells++jX b):=fun a x b=>by unfold jX vJ;simp
 rw [hm,hs]
 conv=>lhs;rw [e,hs]
 rw [List.set_append_right _ _ (by omega),ht,Zbx]
 rfl
set_option maxHeartbeats 1000000 in
theorem DR {s d t p:Value} (o:ByteArray) (q:Bool) {w:World} (h:RR w r s d t p) (c8:og r) :
  bh T_ 78 [RA r s d t p,.string o,.bool q] w [] (fun _:Value×Value×Value×Value=>True) (fun x=>.tuple #[RA (zw r o q) x.1 x.2.1 x.2.2.1 x.2.2.2,.q (zx r o)]) (fun x=>u3 (zw r o q) x):=by
 obtain ⟨h1,h2,h3,h4⟩:=h.one;have gD:∀ w',aJ [] w w'->ak T_ 34 [.agg #[.int .i64 r.lv,.int .i64 r.ma,s,d,t,p]] w' (.int .i64 (fZ r)):=fun w' hk=>fj (h.keeps hk) c8
 have nA:∀ w',aJ [] w w'->ak T_ 112 [.agg #[.q r.lv,.q r.ma,s,d,t,p],.string o] w' (.q (rm r o)):=fun w' hk=>eZ o (h.keeps hk)
 unfold RA;refine aR func78 I I ?_;refine Jr<|Jy I I fun _ _=>Jz I I fun _ _=>Ja I<|Jn<|Jq<|Jq ?_;rename_i b3 uf b6 hb6
 with_reducible refine di 6 (by kernel_rfl) ?_
 (refine az (cm (.there .here)) I<|aY bN I (fun w' aB=>(gD w' (Mem.keeps aB)))<|az (cm (.there .here)) I<|az mB I<|aY bb I (fun w' aB=>(nA w' (Mem.keeps aB)))<|eN (aD (.o I (.o I .nil)) I I I I) I I ?_)
 with_reducible refine dN I fun bq nf=>?_
 (refine aj bN I (fun w' aB=>(ee (Mem.dH aB .here I I) (cg.cons (cg.cons cg.nil))))<|Ja I<|Ji<|Jv I<|JD I<|Jn<|gG I (fun au=>?_) fun au=>?_;refine Jr<|ab (aU .nil ai) I<|Jv I<|ao (.of I) (.of I) (.there .here) I I (fk I I I I I I) (bu I) ai<|Ja I<|Jn<|Ju ?_;rotate_left;refine Jk<|Jr<|ab (cm bI) I ?_;rotate_right)
 ·have e1:zw r o q=Ro.nil:=if_pos au;have e2:zx r o=aZ [fZ r,rm r o]:=rfl;rw [e1,e2];refine aN 186 2<|aN 90 3<|aN 187 3<|aN 188 3 ?_
  first | with_reducible apply aO | with_reducible apply aQ
  case he=>exact um I inferInstance I dL ai (by rfl) (by rfl)
  case hR=>
   intro w' aB;exact aF (.z,.z,.z,.z) trivial (by exact .cons cZ (.cons bI (.cons (.there .here) (.h1 .nil)))) aB I
 have e0:aZ [fZ r,rm r o]=0:=Zo.1 au;have e1:zw r o q=r.KZ o q:=if_neg au;have e2:zx r o=0:=e0;have DY:fZ r=0:=cI.1 e0 _ Zs;have Vp:o∈cy r:=by
  have:=(bW (by decide)).1 (cI.1 e0 (rm r o) (by simp));rwa [decide_eq_false_iff_not,cM,Classical.not_not] at this
 have dU:=BY DY;have hf:=lG dU dU.val;rw [e1,e2];refine JN bN I (fun w1 aT=>A4 (h.keeps aT.keeps) c8 (by omega)) ?_;intro y _;dsimp only [id_eq,Zb,Za];obtain ⟨s1,d1,t1,p1⟩:=y;dsimp only;unfold RA PB;refine dE (r:=r) (s:=s1) (d:=d1) (t:=t1) (p:=p1) (by unfold u3 PB;exact .h4 .nil) fun k1 k2 k3 k4=>?_
 (refine Jz I I fun _ _=>ao (.of I) (.of I) .here I I (fk I I k1 k2 k3 k4) (bu I) ai<|Jn<|Jq ?_)
 rename_i b9 hb9;obtain ⟨j0,uS⟩:∃ i:Nat,bA (cy r) o=(i:Nat):=⟨(bA (cy r) o).toNat,by have:=dS Vp;omega⟩;have Dh:j0<r.de.length:=by
  obtain ⟨hl,_⟩:=fB (l:=cy r) (s:=o) (by omega);rw [uS,ZL] at hl;unfold cy at hl;rwa [Zd] at hl
 have hdd:∀ w',aJ [] w w'->ak T_ 155 [.agg #[.q r.lv,.q r.ma,s,d,t,p],.string o] w' (.q (j0:Nat)):=fun w' hk=>uS ▸ gL o (h.keeps hk)
 refine dA (E:=90) (sz:=3) (v:=d1) bI (by omega) fun gd cap cur e hg1 hg2 YZ hg4=>?_;subst e;have p0:=UJ r.de cur Dh q;have hle:j0*3+2+1<=(jX r.de++cur).length:=by rw [Zg,uq];omega
 with_reducible refine cJ 8 (by kernel_rfl) ?_
 (refine lU I I ae<|ar (iB (.there .here)) I<|ar (cm oL) I<|fW I I<|dp bb I (fun w' aB=>(hdd w' (Mem.keeps aB)))<|fW I I<|ar (an (.of I) (.of I) I (by omega) (by omega) aW) I<|lU I I ae ?_)
 with_reducible refine cN ?_
 (refine ao (.of I) (.of I) .here I I (dG I) hle p0<|Ji<|ab (cm (.there .here)) I<|ao (.of I) (.of I) mN I I (fk I I k1 I k3 k4) (bu I) ai<|Ja I<|Jn<|Je ?_)
 have hpr:r.KZ o q=⟨r.lv,r.ma,r.sr,r.de.modify j0 fun x=>⟨x.nm,x.mx,q⟩,r.ti,r.po⟩:=by unfold Ro.KZ;rw [uS,ZL]
 have hml:(r.de.modify j0 fun x=>(⟨x.nm,x.mx,q⟩:De)).length=r.de.length:=List.length_modify _ _ _
 rw [hpr];generalize (r.de.modify j0 fun x=>(⟨x.nm,x.mx,q⟩:De))=D' at *
 have abK:(jX D'++cur).length=cap*3:=by rw [Zg,uq] at YZ ⊢;rw [hml];exact YZ
 refine dC (n:=r.de.length) (xs:=jX D') (cap:=cap) (g:=gd) (E:=90) (sz:=3) (by exact Take.there .here) hg1 hg2 abK (by rw [uq,hml]) ?_
 first | with_reducible apply aO | with_reducible apply aQ
 case he=>exact um I inferInstance I (.there .here) ai (by rfl) (by rfl)
 case hR=>
  intro w' aB;exact aF (s1,.w gd r.de.length cap,t1,p1) trivial (show bC _ [J1 r s1,row 90 3 (.w gd r.de.length cap) D'.length (jX D'),J3 r t1,J4 r p1] _ by rw [hml];exact .cons cZ (.h1 (.cons bI (.cons bI .nil)))) aB I
structure qX where
 fr:Int
 tk:List fc
 v:Value
def qX.cells (x:qX):List Value:=[.q x.fr,x.v]
def uG (l:List qX):List (List Value):=l.map qX.cells
theorem me (l:List qX):(uG l).length=l.length:=by simp [uG]
theorem Ba {l:List qX} (h:k<l.length):(uG l)[k]? = some (l[k]).cells:=by simp [uG,h]
theorem EM {l:List qX} (h:k<l.length):uG l≠[]:=by intro e;have:=congrArg List.length e;rw [me] at this;simp at this;subst this;simp at h
def IZ (w:World) (l:List qX):Prop:=∀ x∈l,Rd w x.v 2 (gP x.tk)/\rp w x.tk
theorem IZ.keeps {w w':World} {l:List qX} (h:IZ w l) (hk:aJ [] w w'):IZ w' l:=fun x hx=>⟨(h x hx).1.keeps hk,(h x hx).2.keeps hk⟩
def eQ (l:List qX):List Od:=l.map fun x=>⟨x.fr,bJ x.tk⟩
theorem vz (l:List qX):(eQ l).length=l.length:=Zd _
theorem CV {l:List qX} (h:k<l.length):(eQ l).getD k Od.zero=⟨l[k].fr,bJ l[k].tk⟩:=by
 unfold eQ;rw [Zk,ZI,Zc h];rfl
theorem Pw {lv:Value} {l:List qX} {p:qX->Bool} {first cap:List Value} [bV T_ f] {w:World} (h:Rd w lv 2 (uG l)) (cF:∀ x∈l,∀ w',aJ [] w w'->ak T_ f (first++[.agg x.cells.toArray]++cap) w' (.bool (p x))) :
  ak T_ 173 [lv,.func (.func f) first.toArray cap.toArray] w (.q (iT p l)):=by
 obtain ⟨a,cp,b,o,rfl,dy,bT,ha,hc⟩:=h;rw [me] at *;unfold maxLen at bT;refine ah func173 I I ?_;refine Jr<|Ja I<|Jn<|Jq<|Jr<|Jv I<|JI I<|Jv I<|Jn<|J0 ?_;refine aV (fun k:Nat=>k<=l.length/\∀ i,i<k->(l[i]?.map p).getD false=false) (fun k=>[(8,.int .i64 k),(7,.int .i64 l.length),(0,.slice a l.length cp),(1,.func (.func f) first.toArray cap.toArray)]) (fun _=>[]) (fun k=>l.length-k) ?_ ?_
 ·apply aI 0 ⟨Zi _,fun i h=>by omega⟩
  case hs1=>exact bS
  case ht=>(try simp only [Ze,Zf,Za]);exact .nil
 rintro k ⟨hk,hf⟩;by_cases aM:k<l.length
 ·have cu:=ha (EM aM);have aC:=(hc k _ (Ba aM)).2;have jK:=cF _ (Zj aM);have hps:(l[k]?.map p).getD false=p l[k]:=by simp [aM]
  unfold qX.cells at aC jK
  (refine Jr<|JA I<|Jn<|Jq<|Jd I fun au=>Jk<|Jq<|J0<|Jr<|Jv I<|Ja I<|Ji<|Jv I<|Jv I<|Jv I<|ab (fY cu au) I<|ab (iU (eR.base aC I)) I<|aj bN I (fun w' aB=>(jK w' (Mem.keeps aB)))<|Jn<|nW I (fun au=>?_) fun au=>?_;refine Jr<|Jv I<|Ja I<|Jn<|Je<|Jm<|Jh<|Jh<|Jm<|Jh<|JT ?_;rotate_left;refine Jw<|Jj<|Jt<|Jg<|JB I (by omega)<|Jv I<|Jn ?_;rotate_right)
  ·rw [gQ hf aM au]
  ·apply aG (k+1) ⟨by omega,fun i hi=>by
    by_cases e:i=k
    ·rw [e,hps];exact au
    ·exact hf i (by omega)⟩ (by omega)
   case hs1=>exact bS
   case ht=>(try simp only [Ze,Zf,Za]);exact .nil
 ·obtain rfl:k=l.length:=by omega
  refine Jr<|JA I<|Jn<|Jq<|Jc I fun au=>Jp<|Jl<|Jo<|Jt<|Jr<|Ja I<|Jn<|Je<|JT ?_;rw [fP hf]
theorem OB {x:qX} {f:Int} (f1:w.cell? ⟨b,0,none⟩=some (.q f)):ak T_ 174 [.agg x.cells.toArray,.p b] w (.bool (decide (f<x.fr))):=by
 unfold qX.cells;refine ah func174 I I ?_
 (refine Jr<|Jy I I fun _ _=>Ja I<|Ji<|bG I I ae<|JL I .here I<|ab (ag (.of I) (At.base f1 I)) I<|JE I<|Ja I<|Jn<|Je<|JT ?_)
 rfl
def O2 (r:Ro) (l:List Od):Int:=if fZ r≠0 then fZ r else Yz r l
def U9 (r:Ro) (l:List Od):Int:=aZ [fZ r,cn (decide ((16:Int)<(l.length:Nat))) 5]
theorem Td (r:Ro) (l:List Od):O2 r l=if U9 r l≠0 then U9 r l else ku (Nx r l) l.length:=by
 unfold O2 U9 Yz;by_cases h1:fZ r=0
 ·rw [if_neg (not_not_intro h1)];by_cases h2:(16:Int)<(l.length:Nat)
  ·rw [if_pos h2,if_pos (by rw [h1,decide_eq_true h2];decide),h1,decide_eq_true h2];rfl
  ·rw [if_neg h2,if_neg (by rw [h1,decide_eq_false h2];decide)]
 ·have:aZ [fZ r,cn (decide ((16:Int)<(l.length:Nat))) 5]=fZ r:=by unfold aZ;rw [if_pos h1]
  rw [if_pos h1,this,if_pos h1]
def Lq (l:List qX) (k:Nat):Int:=if k=0 then -1 else ((eQ l).getD (k-1) Od.zero).fr
theorem Tl {l:List qX} (h:k<l.length):Nx r (eQ l) k=aZ [ia l[k].fr 0 10000000,cn (decide (l[k].fr<=Lq l k)) 11,r5 r (bJ l[k].tk)]:=by
 unfold Nx Lq;have:(eQ l)[k]? = some ⟨l[k].fr,bJ l[k].tk⟩:=by unfold eQ;rw [ZI,Zc h];rfl
 rw [this];rfl
theorem HN {l:List qX} (h:k<l.length):Lq l (k+1)=l[k].fr:=by
 unfold Lq;rw [if_neg (by omega),ZaA,CV h]
set_option maxHeartbeats 1000000 in
theorem yN {s d t p kv:Value} {l:List qX} (h:RR w r s d t p) (c8:og r) (hw:Rd w kv 2 (uG l)) (hM:IZ w l) :
  ak T_ 171 [RA r s d t p,kv] w (.q (O2 r (eQ l))):=by
 obtain ⟨h1,h2,h3,h4⟩:=h.one;obtain ⟨aw,cw,bw,ow,rfl,Rw,Dc,Xw,Mj⟩:=hw;rw [me] at *;unfold maxLen at Dc;have qT:=vz l;have gD:∀ w',aJ [] w w'->ak T_ 34 [.agg #[.int .i64 r.lv,.int .i64 r.ma,s,d,t,p]] w' (.int .i64 (fZ r)):=fun w' hk=>fj (h.keeps hk) c8
 have hX:=Td r (eQ l);have hA:U9 r (eQ l)=aZ [fZ r,cn (decide ((16:Int)<(l.length:Nat))) 5]:=by unfold U9;rw [qT]
 unfold RA;refine ah func171 I I ?_
 (refine Jr<|Jy I I fun _ _=>Ja I<|Jn<|Jq<|Jr<|ab (cm .here) I<|aj bN I (fun w' aB=>(gD w' (Mem.keeps aB)))<|Jv I<|JI I<|JE I<|aj bb I (fun w' aB=>(eE _ 5 w'))<|a8 (aD (.o I (.o I .nil)) I I I I) I fun _ _=>aj bN I (fun w' aB=>(ee (Mem.dH aB .here I I) (cg.cons (cg.cons cg.nil))))<|Ja I<|Ji<|Jv I<|JD I<|Jn<|gG I (fun au=>?_) fun au=>?_;refine Jr<|Jv I<|Ja I<|Jn<|Ju<|JT ?_;rotate_left;refine Jk<|Jr<|Ja I<|Jn<|Jq<|Jr<|Jv I<|JI I<|Jv I<|Jn<|J0 ?_;rotate_right)
 ·rw [hX,hA,if_pos au]
 have GG:U9 r (eQ l)=0:=by rw [hA];exact Zo.1 au
 rw [if_neg (not_not_intro GG),qT] at hX;clear au;rename_i b2 rf bq nf
 refine aV (fun k:Nat=>k<=l.length/\∀ i,i<k->Nx r (eQ l) i=0) (fun k=>[(23,.q (k:Nat)),(22,.q (l.length:Nat)),(21,.slice aw l.length cw),(6,.q (Lq l k)),(2,.p b2)])
  (fun k=>[JP b2 r s d t p]) (fun k=>l.length-k) ?_ ?_
 ·apply aI 0 ⟨Zi _,fun i hi=>by omega⟩
  case hs1=>exact bS
  case ht=>(try simp only [Ze,Zf,Za]);exact .cons (.there .here) .nil
 rintro k ⟨hk,hf⟩;by_cases aM:k<l.length
 ·have Mn:=Xw (EM aM);have aC:=(Mj k _ (Ba aM)).2;unfold qX.cells at aC;have hx:=hM _ (Zj aM);have jA:=Tl (r:=r) aM;have vG:=HN aM;generalize l[k]=x at aC hx jA vG ⊢;obtain ⟨xf,xt,xv⟩:=x;dsimp only at aC hx jA vG ⊢;have gi:=Rd.one hx.1;have htk:∀ w',aJ [] w w'->ak T_ 164 [.agg #[.int .i64 r.lv,.int .i64 r.ma,s,d,t,p],xv] w' (.int .i64 (r5 r (bJ xt))):=fun w' hk=>tf (h.keeps hk) (hx.1.keeps hk) (hx.2.keeps hk)
  (refine Jr<|JA I<|Jn<|Jq<|Jd I fun au=>Jk<|Jq<|J0<|Jr<|ab (an (.of I) (.of I) Mn (by omega) au aW) I<|ab (iU (eR.base aC I)) I<|Jz I I fun _ _=>ao (.of I) (.of I) .here I I (gO I gi) (bu I) ai<|Jn<|Jq<|Jq ?_)
  with_reducible refine di 13 (by kernel_rfl) ?_
  (refine az lV I<|az (iB .here) I<|aY eo I (fun w' aB=>(nI xf 0 10000000 w'))<|az lV I<|az (iB .here) I<|az mB I<|az (nq (.of I) (.of I)) I<|aY bb I (fun w' aB=>(eE _ 11 w'))<|az (cm (.there .here)) I<|az lV I<|az (iB .here) I<|aY bb I (fun w' aB=>(htk w' (Mem.keeps aB)))<|eN (aD (.o I (.o I (.o I .nil))) I I I I) I I ?_)
  with_reducible refine dN I fun b55 acb=>?_
  (refine aj bN I (fun w' aB=>(ee (Mem.dH aB .here I I) (cg.cons (cg.cons (cg.cons cg.nil)))))<|Ja I<|Ji<|Jv I<|JD I<|Jn<|gG I (fun au=>?_) fun au=>?_;refine Jr<|Jv I<|Ja I<|Jn<|Ju<|Jm<|Jh<|Jh<|Jm<|Jh<|JT ?_;rotate_left;refine Jk<|Jg<|bG I I ae<|JL I (.there .here) I<|Ja I<|Jx<|Jj<|Jt<|Jg<|JB I (by omega)<|Jv I<|Jn ?_;rotate_right)
  ·rw [<- jA] at au ⊢;have hB:ku (Nx r (eQ l)) l.length=Nx r (eQ l) k:=fI hf aM au;rw [hX,hB]
  have hz:Nx r (eQ l) k=0:=by rw [jA];exact Zo.1 au
  rw [<- vG];apply aG (k+1) ⟨by omega,fun i hi=>by
   by_cases e:i=k
   ·rw [e];exact hz
   ·exact hf i (by omega)⟩ (by omega)
  case hs1=>exact bS
  case ht=>(try simp only [Ze,Zf,Za]);exact .cons bI .nil
 ·obtain rfl:k=l.length:=by omega
  have XI:ku (Nx r (eQ l)) l.length=0:=ew.2 hf;refine Jr<|JA I<|Jn<|Jq<|Jc I fun au=>Jp<|Jl<|Jo<|Jt<|Jr<|Ja I<|Jn<|Je<|JT ?_;rw [hX,XI]
set_option maxHeartbeats 2000000 in
theorem QW {s d t p kv:Value} {l:List qX} (h:RR w r s d t p) (DY:fZ r=0) (hw:Rd w kv 2 (uG l)) (hM:IZ w l) (hO:QE r (eQ l)) :
  bh T_ 172 [RA r s d t p,kv] w [] (fun _:Value×Value×Value×Value=>True) (fun x=>.tuple #[RA (jG r (eQ l)).1 x.1 x.2.1 x.2.2.1 x.2.2.2,.q (jG r (eQ l)).2.1,.q (jG r (eQ l)).2.2]) (fun x=>u3 (jG r (eQ l)).1 x):=by
 have dU:=BY DY;have tW:=dU.lim;have vG:=dU.len;have c8:og r:=by unfold og;omega
 have Rs:=lG dU dU.val;have hlf:=hO.Bz;rw [vz] at hlf;have qT:=vz l;obtain ⟨h1,h2,h3,h4⟩:=h.one;obtain ⟨a,cp,b,o,rfl,dy,bT,ha,hc⟩:=hw;rw [me] at *;unfold maxLen at bT;have hX:jG r (eQ l)=if ku (CT r (eQ l)) l.length=0 then (QP r (eQ l) l.length,0,0) else (Ro.nil,((QA (CT r (eQ l)) l.length:Nat):Int),ku (CT r (eQ l)) l.length):=by unfold jG;rw [qT]
 unfold RA;refine aR func172 I I ?_;refine Jr<|Jy I I fun _ _=>Jz I I fun _ _=>Ja I<|Ja I<|Ji<|ab (cm (.there .here)) I ?_;rename_i b2 rf b4 uT;refine JN bN I (fun w1 aT=>A4 (h.keeps aT.keeps) c8 (by omega)) ?_;intro y _;dsimp only [id_eq,Zb,Za];obtain ⟨s1,d1,t1,p1⟩:=y;dsimp only;unfold RA PB;refine dE (r:=r) (s:=s1) (d:=d1) (t:=t1) (p:=p1) (by unfold u3 PB;exact .h4 .nil) fun k1 k2 k3 k4=>?_
 (refine Jz I I fun _ _=>ao (.of I) (.of I) .here I I (fk I I k1 k2 k3 k4) (bu I) ai<|Jn<|Jq<|Jr<|Jv I<|JI I<|Jv I<|Jn<|J0 ?_)
 rename_i b7 Um
 refine aV (ι:=Nat×(Value×Value×Value×Value)×List Po) (fun y=>y.1<=l.length/\Np r (eQ l) y.1 y.2.2/\(∀ j,j<y.1->CT r (eQ l) j=0)/\y.2.1.1.oneCell'=true/\y.2.1.2.1.oneCell'=true/\y.2.1.2.2.1.oneCell'=true/\y.2.1.2.2.2.oneCell'=true) (fun y=>[(17,.q (y.1:Nat)),(16,.q (l.length:Nat)),(15,.slice a l.length cp),(7,.p b7),(4,.p b4)])
  (fun y=>[JP b7 r (y.2.1.1) (y.2.1.2.1) (y.2.1.2.2.1) (y.2.1.2.2.2),J1 r y.2.1.1,J2 r y.2.1.2.1,J3 r y.2.1.2.2.1,row 188 3 y.2.1.2.2.2 y.2.2.length (gA y.2.2),bz b4 (.cells #[.q 0,.q 0,.z,.z,.z,.z] 41 (0,0))]) (fun y=>l.length-y.1) ?_ ?_
 ·apply aI (0,(s1,d1,t1,p1),r.po) ⟨Zi _,⟨I,dU.val⟩,fun j hj=>absurd hj (ZU j),k1,k2,k3,k4⟩
  case hs1=>exact bS
  case ht=>exact iQ
 clear k1 k2 k3 k4 s1 d1 t1 p1;rintro ⟨i,⟨s1,d1,t1,p1⟩,q⟩ ⟨hi,Us,PV,k1,k2,k3,k4⟩;dsimp only at hi Us PV k1 k2 k3 k4 ⊢;have hqf:=lG dU Us.val;by_cases aM:i<l.length
 ·have cu:=ha (EM aM);have aC:=(hc i _ (Ba aM)).2;have gJ:=Zj aM;have hx:=hM _ gJ;have jg:i<(eQ l).length:=by omega
  have IP:=CV aM;have hti:=hO.tk i jg;have PO:(eQ l)[i].tk=bJ l[i].tk:=by
   rw [Zk,Zc jg,Zam] at IP;rw [IP]
  rw [PO] at hti;have L4:CT r (eQ l) i=(iY (r.wp q) (bJ l[i].tk)).2.2:=by unfold CT;rw [Us.eq,IP]
  have a7:QP r (eQ l) (i+1)=(iY (r.wp q) (bJ l[i].tk)).1:=by rw [QP,Us.eq,IP]
  have gn:=fun h0=>Us.next DY hO jg h0
  unfold qX.cells at aC;generalize l[i]=x at *;obtain ⟨xf,xt,xv⟩:=x;dsimp only at *;have gi:=Rd.one hx.1
  (refine Jr<|JA I<|Jn<|Jq<|Jd I fun au=>Jk<|Jq<|J0<|Jr<|Jv I<|ab (fY cu au) I<|ab (iU (eR.base aC I)) I<|Jz I I fun _ _=>Ja I<|ao (.of I) (.of I) .here I I (gO I gi) (bu I) ai<|Ji<|ab (cm (.there .here)) I<|bG I I ae<|JL I .here I ?_)
  refine JN bb I (fun w1 aT=>F1 (r:=r.wp q) (RR.wp (cV aT bI I) (cW aT cZ I) (cU aT dL I) (cH aT eD I)) (dU.wp Us.val) (by show q.length<=500;omega) (hx.1.keeps aT.keeps) (hx.2.keeps aT.keeps) (hti.wp q)) ?_;have jo:∀ q',iY (r.wp q) (bJ xt)=(r.wp q',0,0)->True:=fun _ _=>trivial
  generalize iY (r.wp q) (bJ xt)=R at *;obtain ⟨R,at_,e_⟩:=R;rintro ⟨s2,d2,t2,p2⟩ _;dsimp only at L4 a7 ⊢;unfold RA;refine dE (r:=R) (s:=s2) (d:=d2) (t:=t2) (p:=p2) (br _ _) fun m1 m2 m3 m4=>?_;clear jo
  (refine Jv I<|JJ I I<|JJ I I<|JJ I I<|Jz I I fun _ _=>ao (.of I) (.of I) .here I I (fk I I m1 m2 m3 m4) (bu I) ai<|Ja I<|Ja I<|Jn<|Jq<|Jr<|Jv I<|JD I<|Jn<|gG I (fun au=>?_) fun au=>?_;refine Jr<|ab (aU .nil ai) I<|Jv I<|Jv I<|ao (.of I) (.of I) xU I I (fk I I I I I I) (bu I) ai<|Ja I<|Ja I<|Jn<|Ju<|Jm<|Jh<|Jh<|Jm<|Jh ?_;rotate_left;refine Jk<|Jg<|ab (cm .here) I<|ao (.of I) (.of I) mN I I (fk I I m1 m2 m3 m4) (bu I) ai<|Jx<|Jj<|Jt<|Jg<|JB I (by omega)<|Jv I<|Jn ?_;rotate_right)
  ·have hne:CT r (eQ l) i≠0:=by rw [L4];exact au
   have hE:ku (CT r (eQ l)) l.length=e_:=(fI PV aM hne).trans L4;have e4:jG r (eQ l)=(Ro.nil,((i:Nat):Int),e_):=by rw [hX,hE,if_neg au,Qz PV aM hne]
   rw [e4];dsimp only;refine aN 186 2<|aN 90 3<|aN 187 3<|aN 188 3 ?_
   first | with_reducible apply aO | with_reducible apply aQ
   case he=>exact kz I inferInstance I dL ai (by rfl) (by rfl) (by rfl)
   case hR=>
    intro w' aB;exact aF (.z,.z,.z,.z) trivial (by exact .cons cZ (.cons bI (.cons (.there .here) (.h1 .nil)))) aB I
  have hz:e_=0:=Zo.1 au;have ho0:CT r (eQ l) i=0:=L4.trans hz;obtain ⟨q',uQ,_⟩:=gn ho0;have XB:R=r.wp q':=a7.symm.trans uQ.eq;subst XB;apply aG (i+1,(s2,d2,t2,p2),q') ⟨by show i+1<=_;omega,uQ,fun j hj=>by
   by_cases e:j=i
   ·rw [e];exact ho0
   ·exact PV j (by have:j<i+1:=hj;omega),m1,m2,m3,m4⟩ (by show l.length-(i+1)<l.length-i;omega)
  case hs1=>exact bS
  case ht=>
   dsimp only;have w1:(r.wp q').lv=r.lv:=rfl;have w2:(r.wp q').ma=r.ma:=rfl;have w3:(r.wp q').sr=r.sr:=rfl;have w4:(r.wp q').de=r.de:=rfl;have w5:(r.wp q').ti=r.ti:=rfl;have w6:(r.wp q').po=q':=rfl
   try unfold J1 J2 J3
   try unfold J4
   rw [w1,w2,w3,w4,w5,w6];exact .h1 (.cons (.there .here) (.cons (.there .here) (.cons (.there .here) (.cons (.there .here) (.cons mN .nil)))))
 ·have e:i=l.length:=by omega
  subst e
  (refine Jr<|JA I<|Jn<|Jq<|Jc I fun au=>Jp<|Jl<|Jo<|Jt<|Jr<|ab (cm .here) I<|ao (.of I) (.of I) eD I I (fk I I k1 k2 k3 k4) (bu I) ai<|Ja I<|Ja I<|Jn<|Je ?_)
  have hE:ku (CT r (eQ l)) l.length=0:=ew.2 PV;have e4:jG r (eQ l)=(r.wp q,0,0):=by rw [hX,hE,if_pos I,Us.eq]
  rw [e4];dsimp only
  first | with_reducible apply aO | with_reducible apply aQ
  case he=>exact kz I inferInstance I .here ai (by rfl) (by rfl) (by rfl)
  case hR=>
   intro w' aB;exact aF (s1,d1,t1,p1) trivial (by exact .cons bI (.cons bI (.cons bI (.cons bI .nil)))) aB I
theorem Tc {l:List Od} (h:O2 r l=0):fZ r=0/\QE r l:=by
 unfold O2 at h;by_cases c:fZ r=0
 ·rw [if_neg (not_not_intro c)] at h;exact ⟨c,ods h⟩
 ·rw [if_pos c] at h;exact absurd h c
end Go.Proofs.A1
namespace Go.SL
open Go
def AT (l:List Oper) (m:Nat) (p:List Nat):Bool:=
 l.all nw&&vf l 0&&lL l.toArray (l.take m) 0&&(List.range' m (l.length-m)).all (fun k=>(List.range m).all fun i=>p.any (Nat.beq i)||((jb l []).getD k 0).testBit i)&&Nat.ble m l.length
structure G9 (l:List Oper) (m:Nat) (p:List Nat):Prop where
 op:∀ o∈l,nw o=true
 ac:vf l 0=true
 CS:lL l.toArray (l.take m) 0=true
 tail:∀ k,m<=k->k<l.length->∀ i,i<m->i ∉ p->((jb l []).getD k 0).testBit i=true
 le:m<=l.length
variable {p:List Nat}
theorem AS {l:List Oper} {m:Nat} (h:AT l m p=true):G9 l m p:=by
 simp only [AT,Zn,Zad] at h;obtain ⟨⟨⟨⟨h1,h2⟩,h3⟩,h5⟩,h6⟩:=h;refine ⟨h1,h2,h3,fun k hk aM i hi hne=>?_,by simpa using h6⟩;have:=h5 k (ZaL.2 ⟨hk,by omega⟩) i (ZX.2 hi);rw [ZR] at this;refine this.resolve_left fun h=>hne ?_;obtain ⟨x,hx,YF⟩:=ZQ.1 h;rw [Z7 YF];exact hx
theorem qE {l:List Oper} {m:Nat} (hc:G9 l m p) {i j:Nat} {x y:Oper} (yC:i<j) (hj:j<m) (hx:l[i]? = some x) (hy:l[j]? = some y):rE l.toArray x y i=true:=by
 have:=oy hc.CS (i:=i) (j:=j) yC (by rw [ZC,if_pos (by omega)];exact hx) (by rw [ZC,if_pos hj];exact hy);simpa using this
theorem AU {l:List Oper} {m:Nat} (hc:G9 l m p) {listed:Array Bool} (hsz:listed.size=l.length) (Bo:DC l (Ls listed)) {i:Nat} (hi:i∈Region.ready .any l.toArray listed) (hm:m<=i):∀ j,j<m->j ∉ p->Ls listed j:=by
 intro j hj hjp;obtain ⟨o,ho,hn,hd⟩:=(dD hsz).1 hi;have aM:i<l.length:=(Zl.1 ho).1;have E7:DC l (fun k=>k=i\/Ls listed k):=by
  intro k ok hk hL e he hb;rcases hL with e' | hL
  ·subst e';rw [ho] at hk;cases hk;exact .inr (hd e he hb)
  ·exact .inr (Bo k ok hk hL e he hb)
 rcases hG E7 hc.ac i aM (.inl rfl) j (hc.tail i hm aM j hj hjp) with h | h
 ·omega
 ·exact h
section
variable {P:Program} {c:Cx} {D:List Nat} {sl:aL} {hs:List bd} {Q:Exit->Act->World->Prop} {l:List Oper} {m:Nat}
theorem OV {p:List Nat} (hc:G9 l m p) (EY:∀ q∈p,q<m->xR l q) (Vu:∀ c a w,¬ Q (.panic c) a w) {S:List cQ} {l7:(Nat->Value)->aL} (T0:u0 P c hs l 0 (l.take m) (fun _=>sl) [] S l7) {a0:Act} (h0:bU sl a0) (HZ:a0.tmps.size=c.nt)
  (tail:∀ β a w,St c D (l7 β) (dF β (fun _=>true) S 0++hs) a w->wpAnyIn (FR none) 0 P .any l.toArray Q (l.length-m) (kg l.length m) a w) :
  ∀ (fuel:Nat) (listed:Array Bool) (a:Act) (w:World),QF c D hs l m S a0 fuel listed a w->wpAnyIn (FR none) 0 P .any l.toArray Q fuel listed a w:=by
 have hle:=hc.le;have HX:nZ sl [] (fun _=>sl) []:=fun β t v hv=>.inr ⟨fun oj h=>(Zp h).elim,hv⟩
 obtain ⟨xu,_,kL,fg⟩:=T0.spec (sl:=sl) [] rfl rfl HX;rw [Za] at kL fg;rw [Zx,Zq,Zbf hle] at xu;have dP:∀ (j:Nat) (o:Oper),j<m->l[j]? = some o->(l.take m)[j]? = some o:=fun j o hj ho=>by rw [ZC,if_pos hj];exact ho
 have fD:∀ (j:Nat) (o:Oper),(l.take m)[j]? = some o->j<m/\l[j]? = some o:=fun j o ho=>by
  rw [ZC] at ho;split at ho
  ·exact ⟨by assumption,ho⟩
  ·cases ho
 have Mu:∀ j,j<m->∃ s,S[j]? = some s:=fun j hj=>⟨S[j]'(by omega),Zc (by omega)⟩
 have mf:∀ fuel listed a w,QF c D hs l m S a0 fuel listed a w->(∀ i,i<m->Ls listed i)->wpAnyIn (FR none) 0 P .any l.toArray Q fuel listed a w:=by
  intro fuel listed a w hI dK;have hL:∀ i,i<l.length->(Ls listed i↔i<m):=fun i _=>⟨fun h=>ZM fun hm=>hI.hi i hm h,dK i⟩
  obtain ⟨U,uU,oR,qV⟩:=hI.left;have iH:U.Perm (List.range' m (l.length-m)):=by
   rw [Zaw uU (Zbt)];intro i;rw [oR i,ZaL];constructor
   ·rintro ⟨h1,h2⟩;exact ⟨ZaS fun h=>h2 (dK i h),by omega⟩
   ·rintro ⟨h1,h2⟩;exact ⟨by omega,hI.hi i h1⟩
  have hlen:fuel=l.length-m:=by rw [<- qV,iH.length_eq,Zbn]
  have E3:listed=kg l.length m:=by
   have tV:(kg l.length m).size=l.length:=by simp [kg];omega
   apply Array.ext
   ·rw [hI.sz,tV]
   ·intro i h1 h2;rw [hI.sz] at h1;have h3:=hL i h1;unfold Ls at h3;rw [Zv,Zao (by rw [hI.sz];exact h1),Zam] at h3;have h4:(kg l.length m)[i]=decide (i<m):=by
     simp only [kg,List.getElem_toArray];by_cases hi:i<m
     ·rw [Zat (by simpa using hi)];simp [hi]
     ·rw [Zap (by simpa using hi)];simp [hi]
    rw [h4];by_cases hi:i<m
    ·rw [h3.2 hi];simp [hi]
    ·have:¬ listed[i]=true:=fun h=>hi (h3.1 h)
     simp [hi,this]
  subst hlen;rw [E3];obtain ⟨β,hm,jo⟩:=hI.own;have e:dF β (fun i=>listed.getD i false) S 0=dF β (fun _=>true) S 0:=gm fun j s hj=>by
   have gR:j<m:=by have:=(Zl.1 hj).1;omega
   rw [Zx];exact ⟨dK j gR,fun _=>rfl⟩
  rw [e] at hm;refine tail β a w ⟨by rw [Zh];exact hm,fun t v hv=>?_,hI.size,hI.defers⟩;rcases kL β t v hv with ⟨j,oj,s,h1,h2,h3,h4⟩ | ⟨h1,h2⟩
  ·obtain ⟨gR,ly⟩:=fD j oj h1;rw [h4];exact jo j oj t s ly h2 h3 (dK j gR)
  ·rw [hI.zD t fun j oj hj ji=>h1 oj (ZV (dP j oj (ZM fun hm=>hI.hi j hm ji) hj))]
   exact h0 t v h2
 intro fuel
 induction fuel with
 | zero =>
  intro listed a w hI;obtain ⟨U,_,oR,qV⟩:=hI.left;have hU:U=[]:=Zak.1 qV;refine mf 0 listed a w hI fun i hi=>Classical.byContradiction fun hn=>?_;have:=(oR i).2 ⟨by omega,hn⟩;rw [hU] at this;cases this
 | succ fuel ih =>
  intro listed a w hI;by_cases dK:∀ i,i<m->Ls listed i
  ·exact mf _ listed a w hI dK
  ·have hex:∃ i,i<m/\¬ Ls listed i:=Classical.byContradiction fun hh=>dK fun i hi=>Classical.byContradiction fun hn=>hh ⟨i,hi,hn⟩
   obtain ⟨i0,r7,nO⟩:=hex;have main:∀ i,i∈Region.ready .any l.toArray listed->i<m->wpOpIn (FR none) 0 P l.toArray Q i (wpAnyIn (FR none) 0 P .any l.toArray Q fuel (listed.setIfInBounds i true)) a w/\(i∈p->wpAnyIn (FR none) 0 P .any l.toArray Q (fuel+1) listed a w):=by
    intro i hi nP;obtain ⟨o,ho,hn,lh⟩:=(dD hI.sz).1 hi;obtain ⟨d,DQ,s,hd,fO,rh,pS,dU⟩:=fg i o (Zi _) (dP i o nP ho);obtain ⟨wZ,w7,B,hB,gW⟩:=dU;obtain ⟨β,hm,jo⟩:=hI.own;have jU:∀ (j:Nat),eO o j=true->Ls listed j:=fun j hw=>by
     obtain ⟨e,he,hb,mG⟩:=cz hw;rw [<- mG];exact lh e he hb
    have rL:∀ (j:Nat),jE l o j=true->Ls listed j:=fun j hw=>by
     unfold jE at hw;rw [ZR] at hw;rcases hw with hw | hw
     ·exact jU j hw
     ·obtain ⟨k,_,hk⟩:=ZQ.1 hw;rw [Zn] at hk;have DZ:=jU k hk.1;cases hq:l[k]? with
      | none=>rw [hq] at hk;cases hk.2
      | some q =>
       rw [hq] at hk;obtain ⟨e,he,hb,mG⟩:=cz hk.2;rw [<- mG];exact hI.dc k q hq DZ e he hb
    have oO:∀ (j:Nat) (oj:Oper) (e:Nat),l[j]? = some oj->j<m->j≠i->oj.dst=some e->d≠e:=by
     intro j oj e hj gR hne he;rcases Zbi j i with h | h
     ·exact fun e'=>(dh (qE hc h nP hj ho) he hd).1 e'.symm
     ·exact (dh (qE hc (show i<j by omega) gR ho hj) hd he).1
    have iw:i<listed.size:=by rw [hI.sz];omega
    have Bl:nw o=true:=hc.op o (ZV ho)
    -- ze dj Oh ze operation looks at
    have hT:∀ t∈o.looksAt l.toArray,∀ v,c5 (DQ β) t=some v->a.tmps[t]? = some v:=by
     intro t ht v hv;rcases pS β t v hv with ⟨j,oj,sj,h1,h2,h3,h4⟩ | ⟨h1,h2⟩
     ·have lE:j<i:=by have:=(Zl.1 h1).1;rw [Zq] at this;omega
      rw [ZC,if_pos lE] at h1 h3;obtain ⟨gR,ly⟩:=fD j oj h1;have ji:=jU j ((dh (qE hc lE nP ly ho) h2 hd).2 (.inl ht));rw [h4];exact jo j oj t sj ly h2 h3 ji
     ·rw [hI.zD t fun j oj hj ji jh=>?_]
      ·exact h0 t v h2
      ·have gR:j<m:=ZM fun hm=>hI.hi j hm ji
       rcases Zal j i with h | h | h
       ·exact h1 oj (ZV (by rw [ZC,if_pos h];exact dP j oj gR hj)) jh
       ·subst h;exact hn ji
       ·have hw:=(dh (qE hc h gR ho hj) hd jh).2 (.inr ht);obtain ⟨e,he,hb,mG⟩:=cz hw;have:=hI.dc j oj hj ji e he hb;rw [mG] at this;exact hn this
    have tY:∀ t v,c5 (DQ β) t=some v->t<c.nt:=by
     intro t v hv;rcases pS β t v hv with ⟨j,oj,sj,h1,h2,_,_⟩ | ⟨_,h2⟩
     ·have lE:j<i:=by have:=(Zl.1 h1).1;rw [Zq] at this;omega
      rw [ZC,if_pos lE] at h1;obtain ⟨d',_,_,u9,ub,_⟩:=fg j oj (Zi _) h1;rw [h2] at u9;cases u9;exact ub
     ·have:=h0 t v h2;rw [<- HZ];exact (Z1.1 this).1
    obtain ⟨a',lF,jB,_⟩:=nQ hI.size tY hT;have ue:jO c hs (S.take i) B β w:=by
     rintro A (rfl | ⟨j,hj,sj,h1,rfl⟩)
     ·exact hm.sublist ((ZaC _ _).trans (ZaJ _ _))
     ·have lE:j<i:=by have:=(Zl.1 h1).1;rw [Zq] at this;omega
      rw [ZC,if_pos lE] at h1;have ji:=rL j (hB j hj);exact hm.sublist ((pC (lst:=fun i=>listed.getD i false) (i:=0) h1 (by rw [Zx];exact ji)).append (ZaC _ _))
    have hq:=gW β a' w lF ue;have hex:=ix (o:=o) (ops:=l.toArray) Bl jB
    -- N0 a done operation SN UF not Uo on this one
    have mZ:∀ j,Ls listed j->∀ x k,tl l j k=true->β k=tA β i x k:=by
     intro j ji x k hk;refine (rr fun e=>?_).symm;subst e;unfold tl at hk;rw [ZR] at hk;rcases hk with hk | hk
     ·have:j=k:=by simpa using hk
      subst this;exact hn ji
     ·have DX:j<l.length:=by
       have gR:j<m:=ZM fun hm=>hI.hi j hm ji
       omega
      exact hn (hG hI.dc hc.ac j DX ji k hk)
    have gB:∀ v w',Ix i s β w v w'->wpAnyIn (FR none) 0 P .any l.toArray Q fuel (listed.setIfInBounds i true) (a.put o.dst v) w':=by
     rintro v w' ⟨x,rfl,hk,fp,jq,iv,tZ⟩;refine ih _ _ _ ⟨by simpa using hI.sz,?_,?_,by rw [hd];exact hI.defers,by simpa [Act.put,hd] using hI.size,?_,?_,tA β i x,?_,?_⟩
     ·intro k ok qH hL e he hb;rw [bX iw] at hL ⊢;rcases hL with e' | hL
      ·subst e';rw [ho] at qH;cases qH;exact .inr (lh e he hb)
      ·exact .inr (hI.dc k ok qH hL e he hb)
     ·intro k qH hL;rw [bX iw] at hL;rcases hL with e | hL
      ·omega
      ·exact hI.hi k qH hL
     ·intro t ht;have h1:d≠t:=fun e=>by subst e;exact ht i o ho ((bX iw).2 (.inl rfl)) hd
      rw [hd];simp only [Act.put,ZF h1];exact hI.zD t fun j oj hj hL=>ht j oj hj ((bX iw).2 (.inr hL))
     ·obtain ⟨U,uU,oR,qV⟩:=hI.left;refine ⟨U.erase i,uU.erase i,fun k=>?_,?_⟩
      ·rw [uU.mem_erase_iff,oR k,bX iw];constructor
       ·rintro ⟨h1,h2,h3⟩;exact ⟨h2,fun h=>h.elim h1 h3⟩
       ·rintro ⟨h1,h2⟩;exact ⟨fun e=>h2 (.inl e),h1,fun h=>h2 (.inr h)⟩
      ·have PN:i∈U:=(oR i).2 ⟨by omega,hn⟩;rw [ZaB PN,qV];rfl
     ·have l5:Mem c (s.A (tA β i x)++(dF β (fun i=>listed.getD i false) S 0++(hs++nE D))) w':=Mem.RF (As:=[]) hm fun oY _ hf=>by
       rw [show oY=[] from hf];exact ⟨hk,fp,jq,iv,fun b hb=>.inr (tZ b hb)⟩
      have e1:dF β (fun i=>listed.getD i false) S 0=dF (tA β i x) (fun i=>listed.getD i false) S 0:=gm fun j sj hj=>by
       refine ⟨I,fun hl=>?_⟩;rw [Zx] at hl;have gR:j<m:=by have:=(Zl.1 hj).1;omega
       obtain ⟨oj,HY⟩:∃ oj,l[j]? = some oj:=⟨l[j]'(by omega),Zc (by omega)⟩;obtain ⟨_,_,s2,_,_,hs2,_,pV⟩:=fg j oj (Zi _) (dP j oj gR HY);rw [hj] at hs2;cases hs2;exact pV.w7 _ _ (mZ j hl x)
      rw [e1,<- Zh] at l5;refine l5.perm ((pE (k:=i) rh ?_ ?_ ?_).append_right _)
      ·rw [Zx];show listed.getD i false=false;have:¬ listed.getD i false=true:=hn;simpa using this
      ·rw [Zx];exact (bX iw).2 (.inl I)
      ·intro j hj;rw [Zx] at hj;simp [Zv,ZF (Ne.symm hj)]
     ·intro j oj e sj hj he ke hL;rw [bX iw] at hL;by_cases lE:j=i
      ·subst lE;rw [ho] at hj;cases hj;rw [hd] at he;cases he;rw [rh] at ke;cases ke;rw [hd];simp [Act.put,hI.size,fO]
      ·have yh:=hL.resolve_left lE;have gR:j<m:=ZM fun hm=>hI.hi j hm yh
       obtain ⟨_,_,s2,_,_,hs2,_,pV⟩:=fg j oj (Zi _) (dP j oj gR hj);rw [ke] at hs2;cases hs2;rw [hd];simp only [Act.put,ZF (oO j oj e hj gR lE he)];rw [<- pV.wZ _ _ (mZ j yh x)];exact jo j oj e sj hj he ke yh
    have IN:=hq;refine ⟨?_,fun NI=>?_⟩
    rotate_left
    ·obtain ⟨d',x',k',VN,pos',Yi,yA,LU,eK⟩:=EY i NI nP;rw [ho] at yA;cases yA;rw [if_pos (by simp [Region.wanted])] at IN;unfold mz at IN;obtain ⟨v,hv,xq⟩:=xz IN;have tZ:Region.free .any l.toArray listed i=true:=ug eK fun j hj hne hb=>by
      have ly:j<l.length:=by simpa using hj
      have dM:((jb l []).getD i 0).testBit j=true:=by
       rw [Zv] at hb;simpa [ly] using hb
      have Xb:j<listed.size:=by rw [hI.sz];exact ly
      rcases tM hc.ac hI.sz hI.dc hi dM with e | hL
      ·exact absurd e hne
      ·unfold Ls at hL;rw [Zv,Zao Xb] at hL ⊢;exact hL
     refine wpAnyIn_take (oi:=⟨some d',.extract x' k',VN,pos',Yi,none⟩) (v:=v) I (by simpa using ho) LU tZ (by simpa using hi) (fun c a w h=>(Vu c _ w h).elim) ⟨.inl ⟨by simp [Region.wanted],fun w2=>by rw [<- hex];exact xq w2⟩,fun w2=>rfl⟩ (gB v w hv)
    unfold wpOpIn;rw [show l.toArray[i]? = some o from by simpa using ho];simp only [];rw [gS jB] at hq;split
    ·rename_i hw;rw [if_pos hw] at hq;refine ⟨dT _ _ _ _ _,?_⟩;rw [Oper.semAt_eq _ _ _ (fun cc he=>by simp [nw,he] at Bl),<- hex]
     unfold mz at hq
     revert hq
     generalize (execOp a'.eval o).run P w=res;intro hq
     match res,hq with
     | .ok (.value v) w',hq=>exact gB v w' hq
     | .ok (.enter f args) w', ⟨e, cF⟩ =>
      subst e;refine ⟨by simp [FR,Fence.wide],(iA cF).mono fun e vP h=>?_⟩;obtain ⟨v,rfl,hq⟩:=h;exact gB v vP hq
    ·rename_i hw;rw [if_neg hw] at hq;exact ⟨fun _ _=>trivial,gB undef w hq⟩
   by_cases hp:∃ q,q∈p/\q<m/\q∈Region.ready .any l.toArray listed
   ·obtain ⟨q,B0,rb,Rl⟩:=hp;exact (main q Rl rb).2 B0
   ·refine ⟨fun hr=>?_,fun i hi=>?_⟩
    ·obtain ⟨i,hi⟩:=jc hI.sz hc.ac ⟨i0,by omega,nO⟩;rw [hr] at hi;cases hi
    ·have nP:i<m:=ZM fun hm=>by
      have GB:=AU hc hI.sz hI.dc hi hm;have xq:∀ q,q<m->Ls listed q:=by
       intro q
       induction q using Nat.strongRecOn with
       | _ q ih =>
        intro WR;by_cases PF:q∈p
        ·by_cases hLq:Ls listed q
         ·exact hLq
         ·refine absurd ⟨q,PF,WR,(dD hI.sz).2 ⟨l[q]'(by omega),Zc (by omega),hLq,fun e he hb=>?_⟩⟩ hp;have aM:=jv hc.ac (Zc (show q<l.length by omega)) e he hb;exact ih e.on (by omega) (by omega)
        ·exact GB q WR PF
      exact nO (xq i0 r7)
     exact (main i hi nP).1
theorem tD {id:Nat} (m:Nat) (p:List Nat) [pW:Sa P] (gD:AT l m p=true) (EY:∀ q∈p,xR l q) (k:oM P c D hs l Q m 0 m l (fun _=>sl) []):Tr c D sl hs (WP P none (.region id l.toArray true) Q):=fun a w a7=>by
 obtain ⟨S,l7,hp,ht⟩:=k;have h:(Code.region id l.toArray true).wpIn (FR none) 0 P (NP Q) a w:=wpIn_region_any pW.eq (by
  refine OV (p:=p) (AS gD) (fun q hq _=>EY q hq) (fun c a w h=>h.elim) hp a7.dj a7.size (fun β a w a7=>ht β a w a7) l.toArray.size _ _ _ ⟨by simp,?_,?_,a7.defers,a7.size,fun t _=>rfl,?_,fun _=>undef,?_,?_⟩
  ·exact fun k o _ hL=>absurd hL (eA _ _)
  ·exact fun k _ hL=>eA _ _ hL
  ·exact ⟨List.range l.length,Zbk,fun i=>⟨fun h=>⟨by simpa using h,eA _ _⟩,fun h=>by simpa using h.1⟩,by simp⟩
  ·have e:∀ (T:List cQ) (i:Nat),dF (fun _=>undef) (fun i=>(Array.replicate l.toArray.size false).getD i false) T i=[]:=by
    intro T
    induction T with
    | nil=>intro i;rfl
    | cons s T ih =>
     intro i;have:=eA l.toArray.size i;unfold Ls at this;unfold dF;rw [if_neg this,ih];rfl
   rw [e];exact a7.mem.drew
  ·exact fun j o d s _ _ _ hL=>absurd hL (eA _ _))
 exact wpIn_mono h fun e a' w' h=>by
  cases e with
  | panic c=>exact h.elim
  | _=>exact h
end
theorem sD {l:List Oper} {p d k:Nat} {x:Operand} {ty:TypeId} {pos:String} {af:Array Edge} (h:l[p]? = some ⟨some d,.extract x k,ty,pos,af,none⟩) (h2:Region.noSelect l.toArray=true) (h3:Region.free .any l.toArray ((List.range l.length).map fun j=>((jb l []).getD p 0).testBit j).toArray p=true):xR l p:=⟨d,x,k,ty,pos,af,h,h2,h3⟩
end Go.SL
namespace Go.Proofs.A1
open Go Go.SL
open Tryz
open Tryz renaming prog->T_
def g4:Value->Value×Value×Value×Value
 | .agg a=>(a.getD 0 (.slice none 0 0),a.getD 1 (.slice none 0 0),a.getD 2 (.slice none 0 0),a.getD 3 (.slice none 0 0))
 | _=>(.slice none 0 0,.slice none 0 0,.slice none 0 0,.slice none 0 0)
theorem ri (x:Value×Value×Value×Value):∃ v,g4 v=x:=⟨.agg #[x.1,x.2.1,x.2.2.1,x.2.2.2],I⟩
def KC (r:Ro) (o:ByteArray) (f:Int):Int:=aZ [rm r o,ia f 0 10000000]
def su (r:Ro) (l:List Od) (o:ByteArray) (f:Int):Int:=if O2 r l≠0 then O2 r l else if KC r o f≠0 then KC r o f else (jG r (l.take (jk l f))).2.2
def u5 (r:Ro) (l:List Od) (o:ByteArray) (f:Int):List ByteArray:=if su r l o f≠0 then [] else cX (jG r (l.take (jk l f))).1 o
theorem Pu (l:List qX) (f:Int):iT (fun x:qX=>decide (f<x.fr)) l=if jk (eQ l) f<l.length then ((jk (eQ l) f:Nat):Int) else -1:=by
 have hn:jk (eQ l) f=l.findIdx fun x=>decide (f<x.fr):=by
  unfold jk eQ;rw [List.findIdx_map];rfl
 rw [hn];by_cases c:(l.findIdx fun x=>decide (f<x.fr))<l.length
 ·rw [if_pos c];refine gQ (fun i hi=>?_) c (List.findIdx_getElem (w:=c));have:=List.not_of_lt_findIdx hi;rw [Zc (by omega)];simpa using this
 ·rw [if_neg c];refine fP fun i hi=>?_;have:=List.not_of_lt_findIdx (p:=fun x:qX=>decide (f<x.fr)) (xs:=l) (i:=i) (by omega)
  rw [Zc hi];simpa using this
variable {r:Ro}
theorem QE.take {l:List Od} (h:QE r l) (n:Nat):QE r (l.take n):=by
 refine ⟨by rw [Zq];have:=h.Bz;omega,fun k hk=>?_,fun i j hi hj yC=>?_,fun k hk=>?_⟩
 ·rw [Zq] at hk;rw [ZaU];exact h.fr k (by omega)
 ·rw [Zq] at hi hj;rw [ZaU,ZaU];exact h.inc i j (by omega) (by omega) yC
 ·rw [Zq] at hk;rw [ZaU];exact h.tk k (by omega)
theorem Ga {l:List Od} (hc:fZ r=0) (hO:QE r l) (h:(jG r l).2.2=0):∃ q,jP r q/\(jG r l).1=r.wp q:=by
 unfold jG at h ⊢;by_cases c:ku (CT r l) l.length=0
 ·rw [if_pos c];obtain ⟨q,hq⟩:=KK hc hO l.length (Zz _) (ew.1 c);exact ⟨q,hq.val,hq.eq⟩
 ·rw [if_neg c] at h;exact absurd h c
set_option maxHeartbeats 2000000 in
theorem U1 {s d t p kv:Value} {l:List qX} (o:ByteArray) (f:Int) {w:World} (h:RR w r s d t p) (c8:og r) (hw:Rd w kv 2 (uG l)) (hM:IZ w l) :
  bh T_ 64 [RA r s d t p,kv,.string o,.q f] w [] (fun _:Value=>True) (fun v=>.tuple #[v,.q (su r (eQ l) o f)]) (fun v=>[row 9 1 v (u5 r (eQ l) o f).length (aP (u5 r (eQ l) o f))]):=by
 obtain ⟨h1,h2,h3,h4⟩:=h.one;have BZ:=hw;obtain ⟨a,cp,b,ow,rfl,dy,bT,ha,hc⟩:=hw;rw [me] at *;unfold maxLen at bT;have qT:=vz l;have L4:∀ w',aJ [] w w'->ak T_ 171 [.agg #[.int .i64 r.lv,.int .i64 r.ma,s,d,t,p],.slice a l.length cp] w' (.int .i64 (O2 r (eQ l))):=fun w' hk=>yN (h.keeps hk) c8 (BZ.keeps hk) (hM.keeps hk)
 have nA:∀ w',aJ [] w w'->ak T_ 112 [.agg #[.q r.lv,.q r.ma,s,d,t,p],.string o] w' (.q (rm r o)):=fun w' hk=>eZ o (h.keeps hk)
 unfold RA;refine aR func64 I I ?_
 (refine Jr<|Jy I I fun _ _=>Jy I I fun _ _=>Ja I<|Ja I<|Jn<|Jq<|Jr<|ab (cm (.there .here)) I<|Jv I<|aj bb I (fun w' aB=>(L4 w' (Mem.keeps aB)))<|Ja I<|Ji<|Jv I<|JD I<|Jn<|gG I (fun au=>?_) fun au=>?_;refine Jr<|Jv I<|Ja I<|Ja I<|Jn<|Ju ?_;rotate_left;refine Jk<|Jq<|Jq ?_;rotate_right)
 ·have e1:su r (eQ l) o f=O2 r (eQ l):=if_pos au;have e2:u5 r (eQ l) o f=[]:=if_pos (by rw [e1];exact au);rw [e1,e2];refine aN 9 1 ?_
  first | with_reducible apply aO | with_reducible apply aQ
  case he=>exact gF I I I
  case hR=>
   intro w' aB;exact aF (.z) trivial (by exact .h1 .nil) aB I
 have VA:su r (eQ l) o f=if KC r o f≠0 then KC r o f else (jG r ((eQ l).take (jk (eQ l) f))).2.2:=if_neg au
 obtain ⟨DY,hO⟩:=Tc (Zo.1 au);clear au;rename_i b4 uT b7 Um
 with_reducible refine di 6 (by kernel_rfl) ?_
 (refine az (cm (.there .here)) I<|az mB I<|aY bb I (fun w' aB=>(nA w' (Mem.keeps aB)))<|az (iB .here) I<|aY eo I (fun w' aB=>(nI f 0 10000000 w'))<|eN (aD (.o I (.o I .nil)) I I I I) I I ?_)
 with_reducible refine dN I fun bq nf=>?_
 (refine aj bN I (fun w' aB=>(ee (Mem.dH aB .here I I) (cg.cons (cg.cons cg.nil))))<|Ja I<|Ji<|Jv I<|JD I<|Jn<|gG I (fun au=>?_) fun au=>?_;refine Jr<|Jv I<|Ja I<|Ja I<|Jn<|Ju ?_;rotate_left;refine Jk<|Jr<|Jv I<|ab (bD .nil (.o I .nil)) I ?_;rotate_right)
 ·have e1:su r (eQ l) o f=KC r o f:=by rw [VA];exact if_pos au
  have e2:u5 r (eQ l) o f=[]:=if_pos (by rw [e1];exact au);rw [e1,e2];refine aN 9 1 ?_
  first | with_reducible apply aO | with_reducible apply aQ
  case he=>exact gF I I I
  case hR=>
   intro w' aB;exact aF (.z) trivial (by exact .h1 .nil) aB I
 have eq2:su r (eQ l) o f=(jG r ((eQ l).take (jk (eQ l) f))).2.2:=by rw [VA];exact if_neg au
 clear VA;have VA:=eq2;have hsd:o∈cy r:=by
  have:=(bW (by decide)).1 (cI.1 (Zo.1 au) (rm r o) (by simp));rwa [decide_eq_false_iff_not,cM,Classical.not_not] at this
 clear au eq2
 with_reducible apply aj
 case hr=>exact bb
 case hd=>rfl
 case hc=>
  intro w' aB;have f7:w'.cell? ⟨b7,0,none⟩=some (.q f):=At.lit (by exact Take.there .here) I w' aB;exact Pw (f:=174) (p:=fun x:qX=>decide (f<x.fr)) (first:=[]) (cap:=[.p b7]) (BZ.keeps aB.keeps) (fun x _ w2 fo=>OB (cG f7 I fo))
 rw [Pu];have TJ:=Sq (eQ l) f;rw [qT] at TJ;by_cases kS:jk (eQ l) f<l.length
 ·rw [if_pos kS];have TH:jk (eQ l) f<=l.length:=TJ;have TI:jk (eQ l) f=jk (eQ l) f:=rfl;refine Ja I<|Jn<|Jq<|Jr<|Jv I<|JA I<|Jn<|Jc I fun au=>Jk<|Jq ?_;have w8:su r (eQ l) o f=(jG r ((eQ l).take (jk (eQ l) f))).2.2/\u5 r (eQ l) o f=if (jG r ((eQ l).take (jk (eQ l) f))).2.2≠0 then [] else cX (jG r ((eQ l).take (jk (eQ l) f))).1 o:=by
   have x1:su r (eQ l) o f=(jG r ((eQ l).take (jk (eQ l) f))).2.2:=by rw [VA,TI]
   refine ⟨x1,?_⟩;unfold u5;rw [x1,TI]
  have Ut:=hO.take (jk (eQ l) f);have mG:(eQ l).take (jk (eQ l) f)=eQ (l.take (jk (eQ l) f)):=by unfold eQ;rw [Zba]
  rw [mG] at w8 Ut;have xe:=Ga DY Ut;have uP:Rd w (Go.sliced a 0 (((jk (eQ l) f):Nat):Int).toNat cp 2) 2 (uG (l.take (jk (eQ l) f))):=by
   have:=BZ.sliced (l:=0) (m:=(jk (eQ l) f)) (Zi _) TH;rw [ZL];rwa [List.drop_zero,show (uG l).take (jk (eQ l) f)=uG (l.take (jk (eQ l) f)) by unfold uG;rw [Zba]] at this
  have hMn:IZ w (l.take (jk (eQ l) f)):=fun x hx=>hM x (ZaR hx)
  rw [w8.1,w8.2];have sR:∀ w',aJ [] w w'->bh T_ 172 [.agg #[.q r.lv,.q r.ma,s,d,t,p],Go.sliced a 0 (((jk (eQ l) f):Nat):Int).toNat cp 2] w' [] (fun _:Value×Value×Value×Value=>True) (fun x=>.tuple #[RA (jG r (eQ (l.take (jk (eQ l) f)))).1 x.1 x.2.1 x.2.2.1 x.2.2.2,.q (jG r (eQ (l.take (jk (eQ l) f)))).2.1,.q (jG r (eQ (l.take (jk (eQ l) f)))).2.2]) (fun x=>u3 (jG r (eQ (l.take (jk (eQ l) f)))).1 x):=fun w' hk=>QW (h.keeps hk) DY (uP.keeps hk) (hMn.keeps hk) Ut
  generalize jG r (eQ (l.take (jk (eQ l) f)))=R at xe sR ⊢;obtain ⟨R,at_,e_⟩:=R;dsimp only at xe sR ⊢
  with_reducible refine tD 10 [7,8] (by kernel_rfl) (Zw.2 ⟨sD I (by kernel_rfl) (by kernel_rfl),Zw.2 ⟨sD I (by kernel_rfl) (by kernel_rfl),fun _ h=>absurd h Zp⟩⟩) ?_
  (refine aA (fun β=>(bK (.of I) bI ai (by rfl))) dR I<|aA (fun β=>(aS (.of I))) dR I<|aA (fun β=>(aS (.of I))) dR I<|aA (fun β=>(iZ (.of I) (.of I) (by omega) (by omega))) dR I ?_)
  dsimp only [Nat.zero_add,Nat.reduceAdd]
  with_reducible apply fC (ι:=Value×Value×Value×Value) (Φ:=fun _=>True) (val:=fun x=>.tuple #[.agg #[.q R.lv,.q R.ma,x.1,x.2.1,x.2.2.1,x.2.2.2],.q at_,.q e_]) (own:=fun x=>[J1 R x.1,J2 R x.2.1,J3 R x.2.2.1,J4 R x.2.2.2]) (g:=g4) (B:=[]) (args:=fun _=>[.agg #[.q r.lv,.q r.ma,s,d,t,p],Go.sliced a 0 (((jk (eQ l) f):Nat):Int).toNat cp 2])
  case hg=>exact ri
  case hB=>rfl
  case hr=>exact fun β=>bj (.of I) (.o I (.o I .nil)) inferInstance I
  case hd=>rfl
  case hc=>exact fun β w' hb=>sR w' hb.mem.keeps
  dsimp only [Nat.reduceAdd]
  with_reducible apply aA
  case hr=>(intro β;exact aS (.of I))
  case hi=>exact fun β β' h=>by simp only [h 4 (by kernel_rfl)]
  case hd=>rfl
  dsimp only [Nat.reduceAdd]
  with_reducible apply aA
  case hr=>(intro β;exact fR (.of I) I)
  case hi=>exact fun β β' h=>by simp only [h 4 (by kernel_rfl)]
  case hd=>rfl
  dsimp only [Nat.reduceAdd]
  (refine aA (fun β=>(fR (.of I) I)) dR I<|aA (fun β=>(fR (.of I) I)) dR I ?_)
  refine kD (fun β=>(kZ I)) (fun _ _ _=>rfl) I ?_;refine fq fun β=>?_;dsimp only [ez,Za,Zb,List.append_eq,Nat.reduceAdd];generalize ed (β 9)=UU;generalize g4 (β 4)=y;obtain ⟨s1,d1,t1,p1⟩:=y;clear β;dsimp only;refine dE (r:=R) (s:=s1) (d:=d1) (t:=t1) (p:=p1) (by unfold u3 PB;exact .h4 .nil) fun m1 m2 m3 m4=>?_;refine bR (rs:=[10]) (by kernel_rfl) (by simp) (Zw.2 ⟨?_,fun _ h=>absurd h Zp⟩);refine cd I ?_
  (refine ao (.of I) (.of I) dL I I (fk I I m1 m2 m3 m4) (bu I) ai<|Jn ?_)
  refine bR (rs:=[11]) (by kernel_rfl) (by simp) (Zw.2 ⟨?_,fun _ h=>absurd h Zp⟩);refine cd I ?_;refine Ja I<|Jn ?_;refine bR (rs:=[12]) (by kernel_rfl) (by simp) (Zw.2 ⟨?_,fun _ h=>absurd h Zp⟩);refine cd I ?_;refine Ja I<|Jn ?_
  with_reducible refine cE (by kernel_rfl) ?_
  clear sR;by_cases B3:e_=0
  ·obtain ⟨q,hVq,XB⟩:=xe B3;clear xe;rw [if_neg (not_not_intro B3)];subst XB;subst B3;have WW:=(BY DY).wp hVq;have tW:=WW.lim;have vG:=WW.len
   (refine Jt<|Jq<|Jr<|Jv I<|JD I<|Jn<|Jc I fun au=>Jk<|Jr<|ab (cm .here) I<|Jv I ?_)
   have hnh:(cX (r.wp q) o).length=(r.wp q).lv.toNat:=by unfold cX;simp
   rw [hnh];generalize r.wp q=R at *;refine JN bb I (fun w1 aT=>xi (r:=R) o ⟨cV aT (by exact Take.there .here) I,cW aT bI I,cU aT cZ I,cH aT dL I⟩ (by omega) (by omega)) ?_;intro hv _;dsimp only [id_eq,Zb,Za];refine aK (E:=9) (sz:=1) (v:=hv) (by exact .here) fun va vc e=>?_;subst e;refine Ja I<|Ja I<|Jn<|Je ?_
   first | with_reducible apply aO | with_reducible apply aQ
   case he=>exact gF I I I
   case hR=>
    intro w' aB;exact aF (.slice va R.lv.toNat vc) trivial (by exact .h1 .nil) aB I
  ·clear xe;rw [if_pos B3];refine Jt<|Jq<|Jr<|Jv I<|JD I<|Jn<|Jd I fun au=>Jr<|Jv I<|Ja I<|Ja I<|Jn<|Ju ?_;refine aN 9 1 ?_
   first | with_reducible apply aO | with_reducible apply aQ
   case he=>exact gF I I I
   case hR=>
    intro w' aB;exact aF (.z) trivial (by exact .h1 .nil) aB I
 ·rw [if_neg kS];have TH:l.length<=l.length:=Zz _;have TI:jk (eQ l) f=l.length:=by omega
  refine Ja I<|Jn<|Jq<|Jr<|Jv I<|JA I<|Jn<|Jd I fun au=>Jg<|Jv I<|JI I<|Ja I<|Jn<|Jq ?_;have w8:su r (eQ l) o f=(jG r ((eQ l).take l.length)).2.2/\u5 r (eQ l) o f=if (jG r ((eQ l).take l.length)).2.2≠0 then [] else cX (jG r ((eQ l).take l.length)).1 o:=by
   have x1:su r (eQ l) o f=(jG r ((eQ l).take l.length)).2.2:=by rw [VA,TI]
   refine ⟨x1,?_⟩;unfold u5;rw [x1,TI]
  have Ut:=hO.take l.length;have mG:(eQ l).take l.length=eQ (l.take l.length):=by unfold eQ;rw [Zba]
  rw [mG] at w8 Ut;have xe:=Ga DY Ut;have uP:Rd w (Go.sliced a 0 ((l.length:Nat):Int).toNat cp 2) 2 (uG (l.take l.length)):=by
   have:=BZ.sliced (l:=0) (m:=l.length) (Zi _) TH;rw [ZL];rwa [List.drop_zero,show (uG l).take l.length=uG (l.take l.length) by unfold uG;rw [Zba]] at this
  have hMn:IZ w (l.take l.length):=fun x hx=>hM x (ZaR hx)
  rw [w8.1,w8.2];have sR:∀ w',aJ [] w w'->bh T_ 172 [.agg #[.q r.lv,.q r.ma,s,d,t,p],Go.sliced a 0 ((l.length:Nat):Int).toNat cp 2] w' [] (fun _:Value×Value×Value×Value=>True) (fun x=>.tuple #[RA (jG r (eQ (l.take l.length))).1 x.1 x.2.1 x.2.2.1 x.2.2.2,.q (jG r (eQ (l.take l.length))).2.1,.q (jG r (eQ (l.take l.length))).2.2]) (fun x=>u3 (jG r (eQ (l.take l.length))).1 x):=fun w' hk=>QW (h.keeps hk) DY (uP.keeps hk) (hMn.keeps hk) Ut
  generalize jG r (eQ (l.take l.length))=R at xe sR ⊢;obtain ⟨R,at_,e_⟩:=R;dsimp only at xe sR ⊢
  with_reducible refine tD 10 [7,8] (by kernel_rfl) (Zw.2 ⟨sD I (by kernel_rfl) (by kernel_rfl),Zw.2 ⟨sD I (by kernel_rfl) (by kernel_rfl),fun _ h=>absurd h Zp⟩⟩) ?_
  (refine aA (fun β=>(bK (.of I) bI ai (by rfl))) dR I<|aA (fun β=>(aS (.of I))) dR I<|aA (fun β=>(aS (.of I))) dR I<|aA (fun β=>(iZ (.of I) (.of I) (by omega) (by omega))) dR I ?_)
  dsimp only [Nat.zero_add,Nat.reduceAdd]
  with_reducible apply fC (ι:=Value×Value×Value×Value) (Φ:=fun _=>True) (val:=fun x=>.tuple #[.agg #[.q R.lv,.q R.ma,x.1,x.2.1,x.2.2.1,x.2.2.2],.q at_,.q e_]) (own:=fun x=>[J1 R x.1,J2 R x.2.1,J3 R x.2.2.1,J4 R x.2.2.2]) (g:=g4) (B:=[]) (args:=fun _=>[.agg #[.q r.lv,.q r.ma,s,d,t,p],Go.sliced a 0 ((l.length:Nat):Int).toNat cp 2])
  case hg=>exact ri
  case hB=>rfl
  case hr=>exact fun β=>bj (.of I) (.o I (.o I .nil)) inferInstance I
  case hd=>rfl
  case hc=>exact fun β w' hb=>sR w' hb.mem.keeps
  dsimp only [Nat.reduceAdd]
  with_reducible apply aA
  case hr=>(intro β;exact aS (.of I))
  case hi=>exact fun β β' h=>by simp only [h 4 (by kernel_rfl)]
  case hd=>rfl
  dsimp only [Nat.reduceAdd]
  with_reducible apply aA
  case hr=>(intro β;exact fR (.of I) I)
  case hi=>exact fun β β' h=>by simp only [h 4 (by kernel_rfl)]
  case hd=>rfl
  dsimp only [Nat.reduceAdd]
  (refine aA (fun β=>(fR (.of I) I)) dR I<|aA (fun β=>(fR (.of I) I)) dR I ?_)
  refine kD (fun β=>(kZ I)) (fun _ _ _=>rfl) I ?_;refine fq fun β=>?_;dsimp only [ez,Za,Zb,List.append_eq,Nat.reduceAdd];generalize ed (β 9)=UU;generalize g4 (β 4)=y;obtain ⟨s1,d1,t1,p1⟩:=y;clear β;dsimp only;refine dE (r:=R) (s:=s1) (d:=d1) (t:=t1) (p:=p1) (by unfold u3 PB;exact .h4 .nil) fun m1 m2 m3 m4=>?_;refine bR (rs:=[10]) (by kernel_rfl) (by simp) (Zw.2 ⟨?_,fun _ h=>absurd h Zp⟩);refine cd I ?_
  (refine ao (.of I) (.of I) dL I I (fk I I m1 m2 m3 m4) (bu I) ai<|Jn ?_)
  refine bR (rs:=[11]) (by kernel_rfl) (by simp) (Zw.2 ⟨?_,fun _ h=>absurd h Zp⟩);refine cd I ?_;refine Ja I<|Jn ?_;refine bR (rs:=[12]) (by kernel_rfl) (by simp) (Zw.2 ⟨?_,fun _ h=>absurd h Zp⟩);refine cd I ?_;refine Ja I<|Jn ?_
  with_reducible refine cE (by kernel_rfl) ?_
  clear sR;by_cases B3:e_=0
  ·obtain ⟨q,hVq,XB⟩:=xe B3;clear xe;rw [if_neg (not_not_intro B3)];subst XB;subst B3;have WW:=(BY DY).wp hVq;have tW:=WW.lim;have vG:=WW.len
   (refine Jt<|Jq<|Jr<|Jv I<|JD I<|Jn<|Jc I fun au=>Jk<|Jr<|ab (cm .here) I<|Jv I ?_)
   have hnh:(cX (r.wp q) o).length=(r.wp q).lv.toNat:=by unfold cX;simp
   rw [hnh];generalize r.wp q=R at *;refine JN bb I (fun w1 aT=>xi (r:=R) o ⟨cV aT (by exact Take.there .here) I,cW aT bI I,cU aT cZ I,cH aT dL I⟩ (by omega) (by omega)) ?_;intro hv _;dsimp only [id_eq,Zb,Za];refine aK (E:=9) (sz:=1) (v:=hv) (by exact .here) fun va vc e=>?_;subst e;refine Ja I<|Ja I<|Jn<|Je ?_
   first | with_reducible apply aO | with_reducible apply aQ
   case he=>exact gF I I I
   case hR=>
    intro w' aB;exact aF (.slice va R.lv.toNat vc) trivial (by exact .h1 .nil) aB I
  ·clear xe;rw [if_pos B3];refine Jt<|Jq<|Jr<|Jv I<|JD I<|Jn<|Jd I fun au=>Jr<|Jv I<|Ja I<|Ja I<|Jn<|Ju ?_;refine aN 9 1 ?_
   first | with_reducible apply aO | with_reducible apply aQ
   case he=>exact gF I I I
   case hR=>
    intro w' aB;exact aF (.z) trivial (by exact .h1 .nil) aB I
end Go.Proofs.A1
namespace Go.Proofs
open Go.Shelf
def Tryz.uL:Go.Shelf.Ren:=⟨fun | 156=>278 | 165=>326 | 166=>327 | 169=>328 | 240=>357 | 241=>358 | 276=>379 | 277=>380 | n=>n,fun | 31=>32 | 9=>9 | 3=>3 | 4=>4 | 0=>0 | 20=>20 | 72=>397 | 76=>401 | 70=>395 | 37=>351 | 75=>400 | 127=>421 | 164=>437 | 5=>5 | 80=>197 | n=>n,fun | n=>n⟩
theorem Tryz.Gu:Go.Proofs.Lays.n156 Tryz.prog Tryz.uL:={
 mixed:=by kernel_rfl
 f156:=Tryz.func278.trans (congrArg some (by kernel_rfl))
 f165:=Tryz.func326.trans (congrArg some (by kernel_rfl))
 f166:=Tryz.func327.trans (congrArg some (by kernel_rfl))
 f169:=Tryz.func328.trans (congrArg some (by kernel_rfl))
 f240:=Tryz.func357.trans (congrArg some (by kernel_rfl))
 f241:=Tryz.func358.trans (congrArg some (by kernel_rfl))
 f276:=Tryz.func379.trans (congrArg some (by kernel_rfl))
 f277:=Tryz.func380.trans (congrArg some (by kernel_rfl))
 t0:=Tryz.underlying0
 a0:=Tryz.isAgg0
 z0:=Tryz.sizeOf0
 v0:=Tryz.zeroValue0
 t3:=Tryz.underlying3
 a3:=Tryz.isAgg3
 z3:=Tryz.sizeOf3
 v3:=Tryz.zeroValue3
 t4:=Tryz.underlying4
 a4:=Tryz.isAgg4
 z4:=Tryz.sizeOf4
 v4:=Tryz.zeroValue4
 t9:=Tryz.underlying9
 a9:=Tryz.isAgg9
 z9:=Tryz.sizeOf9
 v9:=Tryz.zeroValue9
 t20:=Tryz.underlying20
 a20:=Tryz.isAgg20
 z20:=Tryz.sizeOf20
 v20:=Tryz.zeroValue20
 t31:=Tryz.underlying32
 a31:=Tryz.isAgg32
 z31:=Tryz.sizeOf32
 v31:=Tryz.zeroValue32
 t37:=Tryz.underlying351
 a37:=Tryz.isAgg351
 z37:=Tryz.sizeOf351
 v37:=Tryz.zeroValue351
 t70:=Tryz.underlying395
 a70:=Tryz.isAgg395
 z70:=Tryz.sizeOf395
 v70:=Tryz.zeroValue395
 t72:=Tryz.underlying397
 a72:=Tryz.isAgg397
 z72:=Tryz.sizeOf397
 v72:=Tryz.zeroValue397
 t75:=Tryz.underlying400
 a75:=Tryz.isAgg400
 z75:=Tryz.sizeOf400
 v75:=Tryz.zeroValue400
 t76:=Tryz.underlying401
 a76:=Tryz.isAgg401
 z76:=Tryz.sizeOf401
 v76:=Tryz.zeroValue401
 t127:=Tryz.underlying421
 a127:=Tryz.isAgg421
 z127:=Tryz.sizeOf421
 v127:=Tryz.zeroValue421
 t164:=Tryz.underlying437
 a164:=Tryz.isAgg437
 z164:=Tryz.sizeOf437
 v164:=Tryz.zeroValue437 }
theorem Tryz.nj:Builder.Extra Tryz.prog Tryz.uL:={
 sizeBuilder:=by kernel_rfl
 liesBuilder:=by kernel_rfl
 t5:=Tryz.underlying5
 a5:=Tryz.isAgg5
 z5:=Tryz.sizeOf5
 v5:=Tryz.zeroValue5
 infoByte:=by kernel_rfl
 cellsByte:=by kernel_rfl
 sizeByte:=by kernel_rfl
 neB5:=by decide }
open Go.RowKit in
theorem Tryz.strings_Join_none (a:Option Addr) (c:Nat) (sep:ByteArray) (w:World) :
  Calls Tryz.prog 278 #[.slice a 0 c,.string sep] w fun e w'=>e=.returned (.string ⟨#[]⟩)/\w'=w:=Any.strings_Join_none Tryz.Gu Tryz.nj a c sep w
open Go.RowKit in
theorem Tryz.strings_Join (bk o c:Nat) (xs:List ByteArray) (sep:ByteArray) (w:World) (Uj:∀ (j:Nat) x,xs[j]? = some x->w.cell? ⟨bk,o+j,none⟩=some (.string x)) (hbk:bk<w.heap.size) (hN:xs.length<=140737488355328) (dy:xs.length<=c) (hlen:(Lib.join (xs.map (·.data.toList)) sep.data.toList).length<=140737488355328) :
  Calls Tryz.prog 278 #[.slice (some ⟨bk,o,none⟩) xs.length c,.string sep] w fun e w'=>e=.returned (.string ⟨(Lib.join (xs.map (·.data.toList)) sep.data.toList).toArray⟩)/\Below w.heap.size w w':=Any.strings_Join Tryz.Gu Tryz.nj bk o c xs sep w Uj hbk hN dy hlen
def Tryz.C1:Go.Shelf.Ren:=⟨fun | 243=>279 | 246=>329 | 283=>359 | 284=>360 | 285=>361 | 286=>362 | 129=>313 | 317=>381 | 318=>382 | 319=>383 | 320=>384 | 337=>393 | 338=>394 | n=>n,fun | 3=>3 | 9=>9 | 2=>2 | 4=>4 | 171=>422 | 0=>0 | 53=>383 | 37=>351 | 5=>5 | 173=>424 | 212=>441 | 51=>381 | 20=>20 | 213=>442 | 46=>318 | 232=>449 | 233=>450 | n=>n,fun | 17=>1 | 18=>3 | 19=>4 | n=>n⟩
theorem Tryz.Pg:Go.Proofs.Lays.n243 Tryz.prog Tryz.C1:={
 mixed:=by kernel_rfl
 f129:=Tryz.func313.trans (congrArg some (by kernel_rfl))
 f243:=Tryz.func279.trans (congrArg some (by kernel_rfl))
 f246:=Tryz.func329.trans (congrArg some (by kernel_rfl))
 f283:=Tryz.func359.trans (congrArg some (by kernel_rfl))
 f284:=Tryz.func360.trans (congrArg some (by kernel_rfl))
 f285:=Tryz.func361.trans (congrArg some (by kernel_rfl))
 f286:=Tryz.func362.trans (congrArg some (by kernel_rfl))
 f317:=Tryz.func381.trans (congrArg some (by kernel_rfl))
 f318:=Tryz.func382.trans (congrArg some (by kernel_rfl))
 f319:=Tryz.func383.trans (congrArg some (by kernel_rfl))
 f320:=Tryz.func384.trans (congrArg some (by kernel_rfl))
 f337:=Tryz.func393.trans (congrArg some (by kernel_rfl))
 f338:=Tryz.func394.trans (congrArg some (by kernel_rfl))
 t0:=Tryz.underlying0
 a0:=Tryz.isAgg0
 z0:=Tryz.sizeOf0
 v0:=Tryz.zeroValue0
 t2:=Tryz.underlying2
 a2:=Tryz.isAgg2
 z2:=Tryz.sizeOf2
 v2:=Tryz.zeroValue2
 t3:=Tryz.underlying3
 a3:=Tryz.isAgg3
 z3:=Tryz.sizeOf3
 v3:=Tryz.zeroValue3
 t4:=Tryz.underlying4
 a4:=Tryz.isAgg4
 z4:=Tryz.sizeOf4
 v4:=Tryz.zeroValue4
 t5:=Tryz.underlying5
 a5:=Tryz.isAgg5
 z5:=Tryz.sizeOf5
 v5:=Tryz.zeroValue5
 t9:=Tryz.underlying9
 a9:=Tryz.isAgg9
 z9:=Tryz.sizeOf9
 v9:=Tryz.zeroValue9
 t20:=Tryz.underlying20
 a20:=Tryz.isAgg20
 z20:=Tryz.sizeOf20
 v20:=Tryz.zeroValue20
 t37:=Tryz.underlying351
 a37:=Tryz.isAgg351
 z37:=Tryz.sizeOf351
 v37:=Tryz.zeroValue351
 t46:=Tryz.underlying318
 a46:=Tryz.isAgg318
 z46:=Tryz.sizeOf318
 v46:=Tryz.zeroValue318
 t51:=Tryz.underlying381
 a51:=Tryz.isAgg381
 z51:=Tryz.sizeOf381
 v51:=Tryz.zeroValue381
 t53:=Tryz.underlying383
 a53:=Tryz.isAgg383
 z53:=Tryz.sizeOf383
 v53:=Tryz.zeroValue383
 t171:=Tryz.underlying422
 a171:=Tryz.isAgg422
 z171:=Tryz.sizeOf422
 v171:=Tryz.zeroValue422
 t173:=Tryz.underlying424
 a173:=Tryz.isAgg424
 z173:=Tryz.sizeOf424
 v173:=Tryz.zeroValue424
 t212:=Tryz.underlying441
 a212:=Tryz.isAgg441
 z212:=Tryz.sizeOf441
 v212:=Tryz.zeroValue441
 t213:=Tryz.underlying442
 a213:=Tryz.isAgg442
 z213:=Tryz.sizeOf442
 t232:=Tryz.underlying449
 a232:=Tryz.isAgg449
 z232:=Tryz.sizeOf449
 v232:=Tryz.zeroValue449
 t233:=Tryz.underlying450
 a233:=Tryz.isAgg450
 z233:=Tryz.sizeOf450
 v233:=Tryz.zeroValue450
 g17:=by kernel_rfl
 g18:=by kernel_rfl
 g19:=by kernel_rfl }
open Go.RowKit Go.Sort Go.Lib in
theorem Tryz.internal_strconv_Itoa_small (i:Nat) (hi:i<100) (w:World) :
  Calls Tryz.prog 279 #[.q i] w fun e w'=>e=.returned (.string ⟨(Lib.decDigits i).toArray⟩)/\w'=w:=Any.internal_strconv_Itoa_small Tryz.Pg i hi w
end Go.Proofs
namespace Go
def Result.up {α:Type} (w:World):Result α->Prop
  | .ok _ w'=>w.drawn<=w'.drawn
  | .halt _ w'=>w.drawn<=w'.drawn
variable {a:Halt} {atomic:Bool} {es:Array Event} {p:Program} {r:World×List Addr} {v:Value} {var:Addr} {w w':World}
theorem Result.dQ {α:Type} (h:w.drawn<=w'.drawn) {r:Result α} (k:r.up w'):r.up w:=by
  cases r <;> exact Nat.le_trans h k
theorem U0 {α:Type} (a:Ask α):∀ w:World,w.drawn<=(w.ask a).2.drawn:=by
  induction a with
  | done a=>intro w;exact Nat.le_refl _
  | ask N0 range k ih =>
    intro w;unfold World.ask;dsimp only;split
    · exact ih _ w
    · exact Nat.le_trans (Nat.le_succ _) (ih _ { w with drawn:=w.drawn+1 })
theorem SD (w:World) (c:Sys):w.drawn<=(w.sys c).2.drawn:=by
  unfold World.sys;have h:=U0 (Kernel.perform c w.os) w;generalize w.ask (Kernel.perform c w.os)=r at h;obtain ⟨⟨x,os⟩,w'⟩:=r;cases x <;> first | exact Nat.le_refl _ | exact h
theorem Ao {at_:Addr} {u:TypeId} {k:Addr}
    (h:w.viewStore p at_ u k v atomic=.ok r):r.1.drawn=w.drawn:=by
  unfold World.viewStore at h;simp only [bind,Except.bind,pure,Except.pure,throw,throwThe,MonadExceptOf.throw] at h
  repeat' split at h
  all_goals first | (cases h;rfl) | (injection h with h;rw [<- h]) | nomatch h
theorem Dv {a:Addr}
    (h:w.farStore p a v atomic=.ok r):r.1.drawn=w.drawn:=by
  unfold World.farStore at h;split at h
  · split at h
    · next e=>injection h with h;rw [<- h];exact Ao e
    · nomatch h
  · nomatch h
theorem Ib (w:World) (a:Addr) (n:Nat):(w.freeze a n).drawn=w.drawn:=by
  unfold World.freeze;split <;> rfl
theorem AM {α:Type} (p:Program) (s:Sem α):∀ w:World,(s.run p w).up w:=by
  induction s with
  | pure a=>intro w;exact Nat.le_refl _
  | load m a k ih =>
    intro w;unfold Sem.run;split
    · exact ih _ w
    · split
      · exact ih _ w
      · exact Nat.le_refl _
  | store m a v k ih =>
    intro w
    cases v <;> first
      | exact Nat.le_refl _
      | (simp only [Sem.run]
         split
         · split
           · exact Nat.le_refl _
           · exact ih (w.setCell _ _)
         · split
           · next hf=>exact Result.dQ (Nat.le_of_eq (Dv hf).symm) (ih _)
           · exact Nat.le_refl _)
  | new o k ih=>intro w;exact ih _ _
  | shape r k ih=>intro w;exact ih _ w
  | freeze a n k ih=>intro w;exact Result.dQ (Nat.le_of_eq (Ib w a n).symm) (ih (w.freeze a n))
  | frozen a k ih=>intro w;exact ih _ w
  | getObj r k ih =>
    intro w;unfold Sem.run;split
    · exact Nat.le_refl _
    · exact ih _ w
    · exact Nat.le_refl _
  | setObj r o k ih =>
    intro w;unfold Sem.run;split
    · exact Nat.le_refl _
    · exact ih _
    · exact Nat.le_refl _
  | choose q k ih =>
    intro w;unfold Sem.run;split
    · exact ih _ w
    · exact Result.dQ (Nat.le_succ w.drawn) (ih _ { w with drawn:=w.drawn+1 })
  | sys c k ih=>intro w;exact Result.dQ (SD w c) (ih _ _)
  | program k ih=>intro w;exact ih _ w
  | mark m k ih=>intro w;exact ih w
  | halt h=>intro w;exact Nat.le_refl _
theorem sx {α:Type} (p:Program) (s:Sem α) (w:World) (es:Array Event):(s.runT p w es).1.up w:=by
  rw [Sem.runT_fst];exact AM p s w
theorem iO {α:Type} {s:Sem α} {a:α} (h:s.run p w=.ok a w'):w.drawn<=w'.drawn:=by
  have k:=AM p s w;rw [h] at k;exact k
theorem PZ {α:Type} {s:Sem α} (h:s.run p w=.halt a w'):w.drawn<=w'.drawn:=by
  have k:=AM p s w;rw [h] at k;exact k
theorem Tj {α:Type} {s:Sem α} {es Qa:Array Event} {a:α} (h:s.runT p w es=(.ok a w',Qa)):w.drawn<=w'.drawn:=by
  have k:=sx p s w es;rw [h] at k;exact k
theorem Mr {α:Type} {s:Sem α} {es Qa:Array Event} (h:s.runT p w es=(.halt a w',Qa)):w.drawn<=w'.drawn:=by
  have k:=sx p s w es;rw [h] at k;exact k
theorem km {α:Type} {s:Sem α} {a:α} (h:(s.runT p w es).1=.ok a w'):w.drawn<=w'.drawn:=by
  have k:=sx p s w es;rw [h] at k;exact k
theorem l6 {α:Type} {s:Sem α} (h:(s.runT p w es).1=.halt a w'):w.drawn<=w'.drawn:=by
  have k:=sx p s w es;rw [h] at k;exact k
def GStep.up (w:World):GStep->Prop
  | .go _ w' _=>w.drawn<=w'.drawn
  | .comm _ _ _ _ w' _=>w.drawn<=w'.drawn
  | .spawn _ _ w' _=>w.drawn<=w'.drawn
  | .count _ w' _=>w.drawn<=w'.drawn
  | .timer _ _ w' _=>w.drawn<=w'.drawn
  | .alone _ _ w' _=>w.drawn<=w'.drawn
  | .newcoro _ _ _ w' _=>w.drawn<=w'.drawn
  | .coroswitch _ _ _ w' _=>w.drawn<=w'.drawn
  | .collect _ w' _=>w.drawn<=w'.drawn
  | .watch _ w' _=>w.drawn<=w'.drawn
  | .ended _ _ _=>True
theorem GStep.dQ (h:w.drawn<=w'.drawn) {s:GStep} (k:s.up w'):s.up w:=by
  cases s <;> first | trivial | exact Nat.le_trans h k
theorem GStep.Au {c:Prop} [Decidable c] {s t:GStep} (h:s.up w) (k:t.up w):(if c then s else t).up w:=by
  split
  · exact h
  · exact k
theorem GStep.jQ (es:Array Event) {s:GStep} (k:s.up w):(s.after es).up w:=by
  cases s <;> exact k
theorem qd (fr:Frame) (m:String) (w:World):(endThrow fr m w).up w:=Nat.le_refl _
theorem Fg (w0 w:World) (fd:Nat) (text:ByteArray) (o:Outcome):(endWith w fd text o).up w0:=by
  unfold endWith;dsimp only;split
  · split <;> trivial
  · trivial
  · trivial
theorem qe (p:Program) (fr:Frame) (v:Value) (w:World):(endPrinting p fr v w).up w:=by
  unfold endPrinting;dsimp only;split
  · exact qd _ _ _
  · trivial
theorem uW (p:Program) (fr:Frame) (callers:List Frame) (dying:Option Dying) (m:String) (w:World):(endFatal p fr callers dying m w).up w:=by
  unfold endFatal;dsimp only;split
  · next h=>exact iO h
  · trivial
  · trivial
theorem D7 (p:Program) (fr:Frame) (d:Dying) (f:Fatal) (w:World):(writeOn p fr d f w).up w:=by
  unfold writeOn;dsimp only;split
  · trivial
  · split
    · next h=>exact Tj h
    · next h=>exact Mr h
    · trivial
    · trivial
theorem UG (p:Program) (fr:Frame) (d:Dying) (w:World):(die p fr d w).up w:=by
  unfold die;dsimp only;split
  · exact D7 _ _ _ _ _
  · split
    · split
      · exact Nat.le_refl _
      · exact Fg _ _ _ _ _
    · split
      · exact Nat.le_refl _
      · split
        · next h=>exact iO h
        · trivial
      · apply GStep.jQ
        split
        · next h=>exact km h
        · next h=>exact km h
        · trivial
        · next h=>exact GStep.dQ (l6 h) (qe _ _ _ _)
        · trivial
      · trivial
theorem ln (p:Program) (main:Bool) (fr:Frame) (callers:List Frame) (dying:Option Dying) (v:Value) (w:World) :
    (doReturn p main fr callers dying v w).up w:=by
  unfold doReturn;dsimp only
  repeat' split
  all_goals first | trivial | exact Nat.le_refl _
theorem ve (p:Program) (fr:Frame) (callers:List Frame) (dying:Option Dying) (d:Deferred) (w:World) :
    (callDeferred p fr callers dying d w).up w:=by
  unfold callDeferred;dsimp only;apply GStep.Au
  · trivial
  · apply GStep.jQ
    repeat' split
    all_goals first
      | trivial
      | exact km (by assumption)
      | exact l6 (by assumption)
      | exact GStep.dQ (l6 (by assumption)) (uW _ _ _ _ _ _)
      | exact GStep.dQ (l6 (by assumption)) (qd _ _ _)
theorem Hf (p:Program) (main:Bool) (fr:Frame) (callers:List Frame) (dying:Option Dying) (w:World) :
    (unwind p main fr callers dying w).up w:=by
  unfold unwind;dsimp only;split
  · apply GStep.jQ
    split
    · next h=>exact km h
    · trivial
  · exact ve _ _ _ _ _ _
  · split
    · trivial
    · split
      · trivial
      · split
        · exact Nat.le_refl _
        · split
          · split
            · exact Nat.le_refl _
            · split
              · next h=>exact iO h
              · trivial
              · trivial
          · split
            · exact qe _ _ _ _
            · trivial
    · split
      · exact ln _ _ _ _ _ _ _
      · apply GStep.jQ
        split
        · next h=>exact GStep.dQ (km h) (ln _ _ _ _ _ _ _)
        · trivial
        · trivial
theorem ME (p:Program) (fr:Frame) (callers:List Frame) (dying:Option Dying) (g:Nat) (w:World) :
    (early p fr callers dying g w).up w:=by
  unfold early;dsimp only
  repeat' split
  all_goals first
    | trivial
    | exact Nat.le_refl _
    | (next h _=>have k:=iO h;exact k)
    | (next h _ _=>have k:=iO h;exact k)
    | (next h=>have k:=iO h;exact k)
    | (next h _ _ _=>have k:=iO h;exact k)
    | (next h _ _ _ _=>have k:=iO h;exact k)
theorem tj (p:Program) (listen:Bool) (fr:Frame) (callers:List Frame) (dying:Option Dying) (s:Sem Next) (w:World) :
    (stepG.apply p listen fr callers dying s w).up w:=by
  unfold stepG.apply;dsimp only;apply GStep.jQ;have hr:∃ r:Result Next×Array Event,(if listen=true then s.runT p w #[] else (s.run p w,#[]))=r/\r.1.up w:=by
    refine ⟨_,rfl,?_⟩;split
    · exact sx p s w #[]
    · exact AM p s w
  obtain ⟨r,hr,hu⟩:=hr;rw [hr];generalize r.1=r1 at hu ⊢
  repeat' split
  all_goals first
    | trivial
    | exact VM hu (by assumption)
    | exact N2 hu (by assumption)
    | exact hu
    | (refine GStep.dQ ?_ (qd _ _ _);first | exact hu | exact VM hu (by assumption) | exact N2 hu (by assumption))
    | (refine GStep.dQ ?_ (uW _ _ _ _ _ _);exact hu)
    | (refine GStep.dQ ?_ (ME _ _ _ _ _ _);exact hu)
theorem Gk (p:Program) (listen:Bool) (fr:Frame) (callers:List Frame) (dying:Option Dying) (w:World) :
    (stepG.oper p listen fr callers dying w).up w:=by
  unfold stepG.oper
  repeat' split
  all_goals first | trivial | exact tj _ _ _ _ _ _ _
theorem P8 (p:Program) (main listen:Bool) (fr:Frame) (callers:List Frame) (dying:Option Dying) (w:World) :
    (stepG.exec p main listen fr callers dying w).up w:=by
  unfold stepG.exec;dsimp only;split
  all_goals first
    | trivial
    | exact Nat.le_refl _
    | (split
       · first | exact Nat.le_refl _ | (apply GStep.Au <;> first | exact Nat.le_refl _ | trivial) | trivial
       · apply GStep.jQ
         split
         · next h=>exact GStep.dQ (km h) (ln _ _ _ _ _ _ _)
         · trivial)
    | (split <;> first | exact Nat.le_refl _ | trivial)
    | (generalize exitTo _ _ = o; cases o with
       | none =>
         split
         · first | exact Nat.le_refl _ | (apply GStep.Au <;> first | exact Nat.le_refl _ | trivial) | trivial
         · apply GStep.jQ
           split
           · next h=>exact GStep.dQ (km h) (ln _ _ _ _ _ _ _)
           · trivial
       | some k=>exact Nat.le_refl _)
    | (generalize gotoIn _ _ = o; cases o with
       | none =>
         split
         · first | exact Nat.le_refl _ | (apply GStep.Au <;> first | exact Nat.le_refl _ | trivial) | trivial
         · apply GStep.jQ
           split
           · next h=>exact GStep.dQ (km h) (ln _ _ _ _ _ _ _)
           · trivial
       | some k=>exact Nat.le_refl _)
    | (apply GStep.jQ
       split
       · next h=>first | (have k:=km h;exact k) | exact GStep.dQ (km h) (tj _ _ _ _ _ _ _)
       · first | trivial | (next h=>have k:=l6 h;exact k)
       done)
    | (apply GStep.jQ
       split
       · next h=>(have k:=km h;exact k)
       · next h=>(have k:=l6 h;exact k)
       · trivial)
    | exact tj _ _ _ _ _ _ _
    | exact Gk _ _ _ _ _ _
    | (generalize Extern.next _ = o; cases o with
       | none=>trivial
       | some e=>exact tj _ _ _ _ _ _ _)
    | (split
       · exact Nat.le_refl _
       · split
         · next h=>have k:=iO h;exact k
         · trivial)
    | (split
       · exact Gk _ _ _ _ _ _
       · exact Nat.le_refl _)
    | skip
theorem Kw (p:Program) (main:Bool) (g:Goroutine) (w:World) (listen:Bool):(stepG p main g w listen).up w:=by
  unfold stepG;split;split
  · exact UG _ _ _ _
  · exact P8 _ _ _ _ _ _ _
  · exact Hf _ _ _ _ _ _
def Stepped.up (w:World):Stepped->Prop
  | .next m=>w.drawn<=m.world.drawn
  | .ended _ _=>True
theorem Stepped.dQ (h:w.drawn<=w'.drawn) {s:Stepped} (k:s.up w'):s.up w:=by
  cases s <;> first | trivial | exact Nat.le_trans h k
theorem Bc (p:Program) (gs:Array Goroutine) (rest:Rest) (w:World):(look p gs rest w).up w:=by
  unfold look;dsimp only;split
  · split
    · trivial
    · split
      · trivial
      · split
        · next h=>have k:=iO h;exact k
        · trivial
        · trivial
  · trivial
theorem An {rest:Rest} {cases:Array CommCase} (h:waitingAt rest cases w=some w'):w.drawn<=w'.drawn:=by
  unfold waitingAt at h;split at h
  · split at h
    · injection h with h;rw [<- h];exact Nat.le_refl _
    · nomatch h
  · injection h with h;rw [<- h];exact Nat.le_refl _
theorem xF (p:Program) (rest:Rest) (gs:Array Goroutine) (i:Nat) (g:Goroutine) (cases:Array CommCase) (DI:Bool)
    (shape:CommShape) (w:World):(communicate p rest gs i g cases DI shape w).1.up w:=by
  unfold communicate;dsimp only;split
  · trivial
  · split
    · split
      · split
        · next h=>exact An h
        · trivial
      · exact Nat.le_refl _
    · split
      · trivial
      · next h=>
        have k:=iO h;split
        · split
          · next h2=>
            have k2:=PZ h2;exact Nat.le_trans k k2
          · trivial
        · exact k
        · exact k
        · split
          · exact k
          · split
            · next h3=>have k3:=iO h3;exact Nat.le_trans k k3
            · trivial
        · exact k
        · exact k
        · trivial
theorem MF (w:World) (c:Nat):(drain w c).2.drawn=w.drawn:=by
  unfold drain;split <;> rfl
theorem zt (m:Machine) (k:Nat) (t:Timer) (when period:Nat):(retime m k t when period).2.world.drawn=m.world.drawn:=by
  unfold retime;dsimp only;split
  · exact MF _ _
  · rfl
theorem CZ {m:Machine} {f:Nat->Timer->Value×Machine} {n:Nat} (hf:∀ k t,(f k t).2.world.drawn=n) {r:Value×Machine}
    (h:timerOp.named m var f=.ok r):r.2.world.drawn=n:=by
  unfold timerOp.named at h;split at h
  · injection h with h;rw [<- h];exact hf _ _
  · nomatch h
theorem HI {m m':Machine} (h:timerOp.opened m var=some m'):m'.world.drawn=m.world.drawn:=by
  unfold timerOp.opened at h;split at h
  · split at h
    · injection h with h;rw [<- h]
    · nomatch h
  · injection h with h;rw [<- h]
theorem Ei {m:Machine} {op:TimerOp} {r:Value×Machine} (h:timerOp m op=.ok r):r.2.world.drawn=m.world.drawn:=by
  unfold timerOp at h;split at h
  · split at h
    · injection h with h;rw [<- h];rfl
    · split at h
      · split at h
        · nomatch h
        · injection h with h;rw [<- h]
      · nomatch h
  · exact CZ (fun k t=>zt m k t 0 t.period) h
  · split at h
    · next ho=>exact (CZ (fun k t=>zt _ k t _ _) h).trans (HI ho)
    · nomatch h
  · injection h with h;rw [<- h];rfl
theorem KG (p:Program) (m:Machine) (k:Nat):(serve p m k).up m.world:=by
  unfold serve;dsimp only;split
  · trivial
  · exact Nat.le_refl _
  · split
    · trivial
    · exact Nat.le_refl _
def Move.up (w:World):Move->Prop
  | .goroutine m _=>w.drawn<=m.world.drawn
  | .machine s _=>s.up w
theorem xO (p:Program) (m:Machine):(askOn p m).up m.world:=by
  unfold askOn;dsimp only;split
  · trivial
  · next h=>
    have k:=iO h;split
    · exact Stepped.dQ k (KG _ _ _)
    · split
      · split
        · exact k
        · split
          · exact k
          · split
            · trivial
            · trivial
      · split
        · split
          · trivial
          · next h0=>
            have k0:=iO h0;split
            · exact Nat.le_trans k k0
            · split
              · trivial
              · next h3=>have k3:=iO h3;exact Nat.le_trans k (Nat.le_trans k0 k3)
        · split
          · trivial
          · next h2=>
            have k2:=iO h2;split
            · trivial
            · next h0=>
              have k0:=iO h0;split
              · exact Nat.le_trans (Nat.le_trans k k2) k0
              · split
                · trivial
                · next h3=>have k3:=iO h3;exact Nat.le_trans (Nat.le_trans k k2) (Nat.le_trans k0 k3)
          · next h2=>have k2:=iO h2;exact Nat.le_trans k k2
          · next h2=>
            have k2:=iO h2;split
            · trivial
            · next h0=>
              have k0:=iO h0;split
              · exact Nat.le_trans (Nat.le_trans k k2) k0
              · split
                · trivial
                · next h3=>have k3:=iO h3;exact Nat.le_trans (Nat.le_trans k k2) (Nat.le_trans k0 k3)
theorem Move.dQ (h:w.drawn<=w'.drawn) {s:Move} (k:s.up w'):s.up w:=by
  cases s with
  | goroutine m i=>exact Nat.le_trans h k
  | machine s ops=>exact Stepped.dQ h k
theorem G3 (p:Program) (m:Machine):(Go.ask p m).up m.world:=by
  unfold Go.ask;split
  · split
    · trivial
    · next h=>
      have k:=iO h;split
      · next hl=>
        have k2:=Bc p m.gs m.rest ‹World›;rw [hl] at k2;exact Move.dQ (Nat.le_trans k k2) (xO _ _)
      · exact Stepped.dQ k (Bc _ _ _ _)
    · next h=>have k:=iO h;exact Move.dQ k (xO _ _)
  · exact xO _ _
theorem O7 (p:Program) (m:Machine):(move p m).up m.world:=by
  unfold move;split
  · split
    · exact Nat.le_refl _
    · trivial
  · split
    · split
      · exact Nat.le_refl _
      · exact G3 p { m with rest:=_ }
    · exact G3 p m
theorem AN (p:Program) (m:Machine) (i:Nat) (listen:Bool):(Go.runT p m i listen).1.up m.world:=by
  unfold Go.runT;dsimp only;have h:=Kw p (i==0) (m.gs.swapAt! i { (default:Goroutine) with status:=.finished }).1 m.world listen
  generalize stepG p (i==0) (m.gs.swapAt! i { (default:Goroutine) with status:=.finished }).1 m.world listen=s at h ⊢
  cases s with
  | ended o w es=>trivial
  | comm g cases DI shape w es=>exact Stepped.dQ h (xF _ _ _ _ _ _ _ _ _)
  | go g w es=>exact h
  | spawn g child w es=>exact h
  | count g w es =>
    dsimp only;split
    · trivial
    · exact h
  | alone g on w es=>exact h
  | collect g w es=>exact Stepped.dQ h (Bc _ _ _ _)
  | watch g w es=>exact h
  | newcoro g c d w es=>exact h
  | coroswitch g c exit w es =>
    dsimp only;split
    · exact h
    · exact h
    · trivial
  | timer g op w es =>
    dsimp only;split
    · next ht=>have k:=Ei ht;exact Nat.le_trans h (Nat.le_of_eq k.symm)
    · exact h
    · trivial
    · trivial
theorem Ou (p:Program) (m:Machine):(step p m).up m.world:=by
  unfold step stepT;have h:=O7 p m;generalize move p m=v at h ⊢;cases v with
  | goroutine m' i=>exact Stepped.dQ h (AN p m' i true)
  | machine s ops=>exact h
theorem OG (p:Program) (n:Nat):∀ m:Machine,(runN p n m).up m.world:=by
  induction n with
  | zero=>intro m;exact Nat.le_refl _
  | succ n ih =>
    intro m;have h:=Ou p m;unfold runN;generalize step p m=s at h ⊢;cases s with
    | next m'=>exact Stepped.dQ h (ih m')
    | ended o w=>trivial
theorem Steps.up {P:Program} {m m':Machine} (h:Steps P m m'):m.world.drawn<=m'.world.drawn:=by
  obtain ⟨n,hn⟩:=h;have k:=OG P n m;rw [hn] at k;exact k
theorem Calls.up {P:Program} {f:FuncId} {args:Array Value} {w:World} {v:Value} {R:World->Prop}
    (h:Calls P f args w fun e w'=>e=.returned v/\R w'):Calls P f args w fun e w'=>e=.returned v/\R w'/\w.drawn<=w'.drawn:=by
  intro cs;obtain ⟨e,w',fr,⟨rfl,hR⟩,hc,hf,hl⟩:=h cs;exact ⟨_,w',fr,⟨rfl,hR,Steps.up hc⟩,hc,hf,hl⟩
end Go
