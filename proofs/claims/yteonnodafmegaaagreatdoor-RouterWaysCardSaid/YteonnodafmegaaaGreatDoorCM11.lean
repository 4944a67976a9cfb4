/- Parts of the proof: GkPoolJ LB LC LD LE LF LG GkRegP. -/
import Derived.Test.YteonnodafmegaaaGreatDoorCM04
import Derived.Test.YteonnodafmegaaaGreatDoorCM10
import Derived.Test.YteonnodafmegaaaGreatDoorCM06
set_option linter.unusedSectionVars false
set_option linter.unusedVariables false
set_option linter.unusedSimpArgs false
namespace Go.SL
open Go
def rI (E:TypeId) (vs:List Value) (xs:List (List Value)) (j:Nat):a8:=Lj (fA E (vs.take j) (xs.take j))
def rH (E:TypeId) (vs:List Value) (xs:List (List Value)) (j:Nat):a8:=Lj (fA E (vs.drop (j+1)) (xs.drop (j+1)))
theorem oU {E:TypeId} {v:Value} {x:List Value}:∀ {vs:List Value} {xs:List (List Value)} {j:Nat},vs[j]? = some v->xs[j]? = some x->fA E vs xs=fA E (vs.take j) (xs.take j)++row E 1 v x.length x::fA E (vs.drop (j+1)) (xs.drop (j+1))
 | [],_,j,h,_=>by simp at h
 | _::_,[],j,_,h=>by simp at h
 | v' :: vs, x' :: xs, 0, h1, h2 => by
  simp only [List.getElem?_cons_zero,Option.some.injEq] at h1 h2;subst h1 h2
  rfl
 | v' :: vs, x' :: xs, j + 1, h1, h2 => by
  simp only [List.getElem?_cons_succ] at h1 h2;show row E 1 v' x'.length x'::fA E vs xs=row E 1 v' x'.length x'::(fA E (vs.take j) (xs.take j)++_);rw [oU h1 h2];rfl
theorem yj:∀ (l:List a8) (A:a8) (m:List a8),Take (l++A::m) A (l++m)
 | [],_,_=>.here
 | _::l,A,m=>.there (yj l A m)
theorem pM:∀ (P l m:List a8),bn (P++(l++m)) l (P++m)
 | _,[],_=>.nil
 | P,A::l,m=>.cons (yj P A (l++m)) (pM P l m)
section
variable {P:Program} {c:Cx} {D:List Nat} {sl:aI} {hs hs':List a8} {X:Act->World->Prop}
theorem u3 {E:TypeId} {vs:List Value} {xs:List (List Value)} {v:Value} {x:List Value} {n j:Nat} (ht:Take hs (jn E vs xs) hs') (hv:vs[j]? = some v) (hx:xs[j]? = some x) (hn:x.length=n)
  (k:Tr c D sl (row E 1 v n x::rI E vs xs j::rH E vs xs j::hs') X):Tr c D sl hs X:=by
 subst hn;refine xV (As:=fA E vs xs) ht ?_;rw [oU hv hx,Zh];refine su (As:=fA E (vs.take j) (xs.take j)) (pM [] _ _) ?_;refine su (As:=fA E (vs.drop (j+1)) (xs.drop (j+1))) (hs':=Lj (fA E (vs.take j) (xs.take j))::row E 1 v x.length x::hs') (pM [_,_] _ _) ?_;intro a w a7;have hT:bn (Lj (fA E (vs.drop (j+1)) (xs.drop (j+1)))::Lj (fA E (vs.take j) (xs.take j))::row E 1 v x.length x::hs') [row E 1 v x.length x,rI E vs xs j,rH E vs xs j] hs':=.cons (.there (.there .here)) (.cons (.there .here) (.cons .here .nil));have hm:=a7.mem.jd (hT.append (mC D));exact k a w (a7.heap hm)
theorem xX {E:TypeId} {vs:List Value} {xs:List (List Value)} {v:Value} {x:List Value} {n:Nat} (j:Nat) {h1 h2:List a8} (ht:Take hs (rI E vs xs j) h1) (ht2:Take h1 (rH E vs xs j) h2) (ht3:Take h2 (row E 1 v n x) hs') (hv:vs[j]? = some v) (hx:xs[j]? = some x) (hn:x.length=n)
  (k:Tr c D sl (jn E vs xs::hs') X):Tr c D sl hs X:=fun a w a7=>by
 subst hn;have hT:bn hs [rI E vs xs j,rH E vs xs j,row E 1 v x.length x] hs':=.cons ht (.cons ht2 (.cons ht3 .nil));have hT2:bn ([rI E vs xs j,rH E vs xs j,row E 1 v x.length x]++(hs'++mC D)) [rI E vs xs j,row E 1 v x.length x,rH E vs xs j] (hs'++mC D):=.cons .here (.cons (.there .here) (.cons .here .nil));have hm:=(a7.mem.jd (hT.append (mC D))).jd hT2;obtain ⟨kk,fp,tK,⟨f1,Z2,rfl,g1,⟨f2,f3',rfl,g2,⟨f3,f4,rfl,g3,g4⟩⟩⟩,hb⟩:=hm;refine k a w (a7.heap ⟨kk,(f1++(f2++f3))++f4,by simpa only [Zh] using tK,⟨f1++(f2++f3),f4,I,?_,g4⟩,by simpa only [Zh] using hb⟩);show ch (hp w) (fA E vs xs) _;rw [oU hv hx];exact ch.append_iff.2 ⟨f1,f2++f3,I,g1,⟨f2,f3,I,g2,g3⟩⟩
end
attribute [irreducible] rI rH
end Go.SL
namespace Go.Proofs.A1
open Go Go.SL
open Tryz
open Tryz renaming prog->T_
theorem IZ {α β:Type} (f:α->β) (p:β->Bool) (l:List α):ia p (l.map f)=ia (fun x=>p (f x)) l:=by
 unfold ia;rw [Zd];congr 1;congr 1;funext i;rw [List.getElem?_map,Option.map_map];rfl
theorem II (r:Ro) (l:List hP):tA r (dy l)=ia (fun x:hP=>IM r x.tk) l:=by
 unfold tA dy;rw [IZ];rfl
def uw (r:Ro) (x:Value×Value×Value×Value):List a8:=[J1 r x.1,J2 r x.2.1,J3 r x.2.2.1,PB x.2.2.2 r.po]
theorem FO {c:Cx} {D:List Nat} {sl:aI} {hs hs':List a8} {X:Act->World->Prop} {kJ:List Wy} {xv:Value} {xp:List Nat} {xf:Nat} (hx:(⟨xv,xp,xf⟩:Wy)∈kJ\/(⟨xv,xp,xf⟩:Wy)=⟨.slice none 0 0,[],0⟩) (ht:Take hs (iP kJ) hs')
  (k:∀ oh,Tr c D sl (row 3 1 xv xp.length (gz xp)::iP oh::hs') X):Tr c D sl hs X:=by
 rcases hx with hx | hx
 ·refine u7 hx ht fun oh _=>?_;intro a w a7;have hT:bn (iP oh::row 3 1 xv xp.length (gz xp)::hs') [row 3 1 xv xp.length (gz xp),iP oh] hs':=.cons (.there .here) (.cons .here .nil);have Gi:St c D sl (iP oh::row 3 1 xv xp.length (gz xp)::hs') a w:=a7;have hm:=Gi.mem.jd (hT.append (mC D));exact k oh a w (a7.heap hm)
 ·cases hx;refine aP 3 1 ?_;intro a w a7;have hT:bn (row 3 1 (.slice none 0 0) 0 []::hs) [row 3 1 (.slice none 0 0) 0 [],iP kJ] hs':=.cons .here (.cons ht .nil);have hm:=a7.mem.jd (hT.append (mC D));exact k kJ a w (a7.heap hm)
set_option maxHeartbeats 4000000 in
theorem Eu {r:Ro} {s d t p kv:Value} {l:List hP} {w:World} (h:RR w r s d t p) (dU:rb r) (Xn:r.po.length<=500) (hw:Rd w kv 2 (jQ l)) (hM:xe w l) (hT:Ld r (dy l)) :
  bh T_ 165 [RA r s d t p,kv] w [] (fun _:Value×Value×Value×Value=>True) (fun x=>.tuple #[RA (lK r (dy l)).1 x.1 x.2.1 x.2.2.1 x.2.2.2,.int .i64 (lK r (dy l)).2.1,.int .i64 (lK r (dy l)).2.2]) (fun x=>uw (lK r (dy l)).1 x):=by
 have BZ:=dU.lim;have vS:=dU.len;have cL:np r:=by unfold np;omega
 have Up:=hT.DM;unfold dy at Up;rw [Zd] at Up;obtain ⟨h1,h2,h3,h4⟩:=h.one;have AM:=hw;obtain ⟨a,cp,b,o,rfl,c8,bV,ha,hc⟩:=hw;rw [eX] at *;unfold maxLen at bV;have Ul:=II r l;unfold RA;refine aR func165 I I ?_;refine Jr<|Jy I I fun _ _=>Jz I I fun _ _=>Ja I<|Ja I<|Ji<|Jv I<|ab (bo .nil (.cons (.of I) .nil)) I ?_;rename_i b2 uh b4 uQ
 with_reducible apply ai
 case hr=>exact aX
 case hd=>rfl
 case hc=>
  intro w' aq;have hA:BR w' b2 [.int .i64 r.lv,.int .i64 r.ma,s,d,t,p]:=BR.of aq (by exact Take.there .here);have hR:=h.keeps aq.keeps;exact EY (f:=253) (p:=fun x:hP=>IM r x.tk) (first:=[]) (cap:=[.pointer (some ⟨b2,0,none⟩)]) (AM.keeps aq.keeps) (fun x hx w2 eR=>M4 (hR.keeps eR) (hA.keeps eR) (hT.de _ (List.mem_map_of_mem hx)))
 rw [<- Ul]
 (refine Ja I<|Jn<|Jq<|Jr<|Jv I<|JG I<|Jn<|gl I (fun ar=>?_) fun ar=>?_;refine Jr<|ab (aT .nil an) I ?_;refine Jv I<|au (.of I) (.of I) .here I I (iS I I I I I I) (bF I) an ?_;refine Ja I<|Ja I<|Jn<|Ju ?_;rotate_left;refine Jk<|Jr<|ab (cr (.there .here)) I ?_;rotate_right)
 ·have e0:lK r (dy l)=(Ro.nil,tA r (dy l),31):=by unfold lK;rw [if_pos (by omega)]
  rw [e0];dsimp only;refine aP 186 2 ?_;refine aP 90 3 ?_;refine aP 187 3 ?_;refine aP 188 3 ?_
  first | with_reducible apply aN | with_reducible apply aO
  case he=>exact l6 I inferInstance I fg an (by rfl) (by rfl) (by rfl)
  case hR=>
   intro w' aq;exact aG (.slice none 0 0,.slice none 0 0,.slice none 0 0,.slice none 0 0) trivial (by exact .cons db (.cons bT (.cons (.there .here) (.cons .here .nil)))) aq I
 have ZS:¬ 0<=tA r (dy l):=by omega
 refine JN bN I (fun w1 aS=>zT (h.keeps aS.keeps) cL (by omega)) ?_;intro y _;dsimp only [id_eq,Zb,Za];obtain ⟨s1,d1,t1,p1⟩:=y;dsimp only;unfold RA PB;refine aW (E:=186) (sz:=2) (v:=s1) (by exact .here) fun _ _ e=>?_;have k1:s1.oneCell'=true:=by rw [e];rfl
 clear e;refine aW (E:=90) (sz:=3) (v:=d1) (by exact Take.there .here) fun _ _ e=>?_;have k2:d1.oneCell'=true:=by rw [e];rfl
 clear e;refine aW (E:=187) (sz:=3) (v:=t1) bT fun _ _ e=>?_;have k3:t1.oneCell'=true:=by rw [e];rfl
 clear e;refine aW (E:=188) (sz:=3) (v:=p1) db fun _ _ e=>?_;have k4:p1.oneCell'=true:=by rw [e];rfl
 clear e
 (refine Jz I I fun _ _=>au (.of I) (.of I) .here I I (iS I I k1 k2 k3 k4) (bF I) an ?_;refine Ji<|Jv I<|ab (bo .nil (.cons (.of I) .nil)) I ?_)
 rename_i b8 ZF
 with_reducible apply jh
 case hr=>exact aX
 case hd=>rfl
 case ht=>exact bn.nil
 case hc=>
  intro w1 fp aS _ hs1;obtain rfl:fp=[]:=hs1;have hA:BR w1 b2 [.int .i64 r.lv,.int .i64 r.ma,s,d,t,p]:=BR.of aS re;have hR:=h.keeps aS.keeps;exact QJ (f:=255) (first:=[]) (cap:=[.pointer (some ⟨b2,0,none⟩)]) (g:=fun x:hP=>cG r x.tk.de) (n:=r.lv.toNat) (AM.keeps aS.keeps) (hM.keeps aS.keeps) (by omega) (fun x _=>by unfold cG;simp) (fun x hx w2 eR=>NC (hR.keeps eR) (hA.keeps eR) (by omega) (by omega))
 rintro ⟨hv,o6⟩ Lx;dsimp only at Lx;dsimp only [id_eq,Zb,Za];refine aW (E:=32) (sz:=1) (v:=hv) (by exact .here) fun kK kc e=>?_;subst e;refine Ja I<|Jn<|Jq<|Jr<|Jv I<|JI I<|Jv I<|Jn<|J0 ?_;have Zy:∀ i,(kr r (dy l) i).length<=r.po.length:=fun i=>by rw [kX];exact List.length_filter_le _ _
 have tI:(dy l).length=l.length:=by unfold dy;rw [Zd]
 refine aY (ι:=Nat×Value×List Po) (fun y=>y.1<=l.length/\y.2.2=kr r (dy l) y.1) (fun y=>[(34,.int .i64 (y.1:Nat)),(33,.int .i64 (l.length:Nat)),(32,.slice a l.length cp),(9,.slice kK l.length kc),(8,.pointer (some ⟨b8,0,none⟩)),(4,.pointer (some ⟨b4,0,none⟩)),(1,.slice a l.length cp)])
  (fun y=>[JP b8 r s1 d1 t1 (y.2.1),J1 r s1,J2 r d1,J3 r t1,row 188 3 y.2.1 y.2.2.length (jC y.2.2),row 32 1 (.slice kK l.length kc) l.length o6,jn 9 o6 (l.map fun y=>aM (cG r y.tk.de)),bC b4 (.cells #[.int .i64 0,.int .i64 0,.slice none 0 0,.slice none 0 0,.slice none 0 0,.slice none 0 0] 41 (0,0))]) (fun y=>l.length-y.1) ?_ ?_
 ·apply aK (0,p1,r.po) ⟨Zi _,I⟩
  case hs1=>exact cj
  case ht=>exact .cons bT (.cons bT (.cons bT (.cons bT (.cons bT (.cons .here (.cons .here (.cons .here .nil)))))))
 rintro ⟨i,pv,L⟩ ⟨hi,hL⟩;dsimp only at hi hL ⊢;by_cases aL:i<l.length
 ·have Rk:=nr aL;have cM:=ha Rk;have aF:=(hc i _ (kM aL)).2;have jT:=Zj aL;have Yp:=hM _ jT;have O9:(dy l).getD i Tk.zero=l[i].tk:=by unfold dy;rw [List.getD_eq_getElem?_getD,List.getElem?_map,Zc aL];rfl
  have fH:kr r (dy l) (i+1)=nY r l[i].tk l[i].tk.so.length (kr r (dy l) i):=by rw [kr,O9]
  have VS:=hT.lv l[i].tk (List.mem_map_of_mem jT);have hdi:L.length<=r.po.length:=by rw [hL];exact Zy i
  rw [<- hL] at fH;have X2:∀ k,(nY r l[i].tk k L).length<=r.po.length:=fun k=>Nat.le_trans (by rw [nJ];exact List.length_filter_le _ _) hdi
  have QU:∃ u,o6[i]? = some u:=⟨o6[i],Zc (by omega)⟩;have TM:(l.map fun y=>aM (cG r y.tk.de))[i]? = some (aM (cG r l[i].tk.de)):=by rw [List.getElem?_map,Zc aL];rfl
  unfold hP.cells at aF;generalize hti:l[i]=ti at *;obtain ⟨tk,tv⟩:=ti;dsimp only at *;obtain ⟨sa,ON,sb,Tb,rfl,O2,BU,T1,T0⟩:=Yp;rw [bA] at *;unfold maxLen at BU
  (refine Jr<|JA I<|Jn<|Jq<|Jd I fun ar=>Jk<|Jq<|J0<|Jr<|Jv I<|ab (gj cM ar) I ?_;refine ab (iI (eU.base aF I)) I ?_;refine Jz I I fun _ _=>Ja I<|au (.of I) (.of I) .here I I (ie I I) (bF I) an ?_;refine Ji<|bK I I ae ?_;refine JL I .here I<|JI I<|Jv I<|Jn<|J0 ?_)
  rename_i PG Yh;obtain ⟨u,hu⟩:=QU;have RL:(cG r tk.de).length=r.lv.toNat:=by unfold cG;simp
  refine u3 (E:=9) (j:=i) (n:=r.lv.toNat) Cu hu TM (by rw [dd,RL]) ?_;refine c7 (E:=9) (sz:=1) (v:=u) (by exact .here) (by omega) fun gu uc Hp e W0 QZ WZ WY=>?_;subst e;refine c7 (E:=32) (sz:=1) (v:=.slice kK l.length kc) jm (by omega) fun gh hc nF e XQ XP XO XN=>?_;cases e;have f1:(o6++nF)[i*1]? = some (.slice (some ⟨gu,0,none⟩) r.lv.toNat uc):=by
   rw [Nat.mul_one,List.getElem?_append_left (by omega)];exact hu
  have f2:∀ k,k<r.lv.toNat->(aM (cG r tk.de)++Hp)[k*1]? = some (.string (jX r (k:Nat) tk.de)):=fun k hk=>by
   rw [Nat.mul_one,List.getElem?_append_left (by rw [dd,RL];exact hk)];unfold aM cG;rw [List.getElem?_map,List.getElem?_map,List.getElem?_range hk];rfl
  refine aY (ι:=Nat×Value×List Po) (fun y=>y.1<=tk.so.length/\y.2.2=nY r tk y.1 L) (fun y=>[(42,.int .i64 (y.1:Nat)),(41,.int .i64 (tk.so.length:Nat)),(40,.slice sa tk.so.length ON),(34,.int .i64 (i:Nat)),(33,.int .i64 (l.length:Nat)),(32,.slice a l.length cp),(10,.int .i64 (i:Nat)),(11,.pointer (some ⟨PG,0,none⟩)),(9,.slice (some ⟨gh,0,none⟩) l.length kc),(8,.pointer (some ⟨b8,0,none⟩)),(4,.pointer (some ⟨b4,0,none⟩)),(1,.slice a l.length cp)])
   (fun y=>[JP b8 r s1 d1 t1 (y.2.1),J1 r s1,J2 r d1,J3 r t1,row 188 3 y.2.1 y.2.2.length (jC y.2.2),bC gh (.cells (o6++nF).toArray 32 (0,0)),bC gu (.cells (aM (cG r tk.de)++Hp).toArray 9 (0,0)),rI 9 o6 (l.map fun y=>aM (cG r y.tk.de)) i,rH 9 o6 (l.map fun y=>aM (cG r y.tk.de)) i,bC b4 (.cells #[.int .i64 0,.int .i64 0,.slice none 0 0,.slice none 0 0,.slice none 0 0,.slice none 0 0] 41 (0,0)),bC PG (.cells #[.string tk.de,.slice sa tk.so.length ON] 78 (0,0))]) (fun y=>tk.so.length-y.1) ?_ ?_
  ·apply aK (0,pv,L) ⟨Zi _,I⟩
   case hs1=>exact cj
   case ht=>exact .cons fy (.cons fy (.cons fy (.cons fy (.cons fy (.cons .here (.cons .here (.cons .here (.cons .here (.cons (.there .here) (.cons .here .nil))))))))))
  rintro ⟨k,H7,L2⟩ ⟨hk,uR⟩;dsimp only at hk uR ⊢;by_cases wZ:k<tk.so.length
  ·have Js:=T1 (iy wZ);have I8:w.cell? ⟨sb,Tb+k*1,none⟩=some (.string tk.so[k]):=(T0 k _ (fF wZ)).2 0 _ I;have f3:=f2 k (by omega);have ja:tk.at k=tk.so[k]:=by unfold Tk.at;rw [List.getD_eq_getElem?_getD,Zc wZ];rfl
   have hdk:=X2 k;rw [<- uR] at hdk;have hs2:nY r tk (k+1) L=if og r tk k then L2.filter (fun x=>!yD (k:Nat) tk.de x) else L2:=by rw [nY,<- uR]
   have Zz:og r tk k=(!decide (tk.so[k]=⟨#[]⟩)&&!decide (tk.so[k]=jX r (k:Nat) tk.de)):=by unfold og;rw [ja]
   generalize jX r (k:Nat) tk.de=ck at *;generalize tk.so[k]=sk at *
   (refine Jr<|JA I<|Jn<|Jq<|Jd I fun ar=>Jk<|Jq<|J0<|Jr<|Jv I<|ab (az (.of I) (.of I) Js (by omega) ar ba) I ?_;refine ab (ag (.of I) (At.base I8 I)) I ?_;refine Ja I<|Ja I<|Ji<|Jv I<|ab (ig (.of I) (.of I)) I ?_;refine Jv I<|fM I I I I ?_;refine fM I I I I ?_;refine fM I I I I ?_;refine aC I I inferInstance (fun hg br=>(az (.bL hg I) (.bL hg I) I (by omega) (by assumption) ba)) I ?_;refine aC I I inferInstance (fun hg br=>(ag (.bL hg I) (At.lP fy f1))) I ?_;refine fM I I I I ?_;refine aC I I inferInstance (fun hg br=>(az (.bL hg I) (.bL hg I) I (by omega) (by omega) ba)) I ?_;refine aC I I inferInstance (fun hg br=>(ag (.bL hg I) (At.lP re f3))) I ?_;refine aC I I inferInstance (fun hg br=>(ig (.bL hg I) (.bL hg I))) I ?_;refine ab (bH (.of I) I) I ?_;refine Jn<|oz I (fun ar=>?_) fun ar=>?_;refine Jg<|Jv I<|bK I I ae ?_;refine JL I nj I ?_;rotate_left;refine Jw<|Jj<|Jt<|Jg<|JB I (by omega)<|Jv I<|Jn ?_;rotate_right)
   ·obtain ⟨q1,q2⟩:sk≠⟨#[]⟩/\sk≠ck:=by simpa using ar
    have DE:og r tk k=true:=by rw [Zz,decide_eq_false q1,decide_eq_false q2];rfl
    rw [DE,if_pos I] at hs2;obtain ⟨L3,Pm⟩:∃ L3,L3=nY r tk (k+1) L:=⟨_,rfl⟩;rw [<- Pm] at hs2
    with_reducible apply gp (As:=[JP b8 r s1 d1 t1 H7,row 188 3 H7 L2.length (jC L2)])
    case hr=>exact dH
    case hd=>rfl
    case ht=>exact oA
    case hc=>
     intro w1 AS aS vQ hs1 CF kU;exact xP (r:=r) (s:=s1) (d:=d1) (t:=t1) (p:=H7) (b:=b8) (l:=L2) (k:Nat) tk.de vQ hs1 (by omega)
    intro p3 _;dsimp only [id_eq,Zb,Za];unfold RB PB;rw [<- hs2];refine Jx<|Jj<|Jt<|Jg<|JB I (by omega)<|Jv I<|Jn ?_;apply aJ (k+1,p3,L3) ⟨by show k+1<=_;omega,Pm⟩ (by show tk.so.length-(k+1)<tk.so.length-k;omega)
    case hs1=>exact cj
    case ht=>exact oA
   ·have DE:og r tk k=false:=by
     rw [Zz];simp only [ne_eq,Decidable.not_not,decide_eq_true_eq,Classical.not_and_iff_not_or_not] at ar;rcases ar with e | e
     ·rw [decide_eq_true e];rfl
     ·rw [decide_eq_true e];simp
    rw [DE,if_neg (by decide)] at hs2;apply aJ (k+1,H7,L2) ⟨by show k+1<=_;omega,hs2.symm⟩ (by show tk.so.length-(k+1)<tk.so.length-k;omega)
    case hs1=>exact cj
    case ht=>exact oA
  ·have e:k=tk.so.length:=by omega
   subst e;refine Jr<|JA I<|Jn<|Jq<|Jc I fun ar=>Jp<|Jl<|Jo<|Jj<|Jt<|Jg<|JB I (by omega)<|Jv I<|Jn ?_;refine dx (E:=9) (sz:=1) (g:=gu) re W0 QZ WZ WY ?_;refine dx (E:=32) (sz:=1) (g:=gh) re XQ XP XO XN ?_;have VF:(aM (cG r tk.de)).length=r.lv.toNat:=by rw [dd,RL]
   with_reducible apply xX (E:=9) (vs:=o6) (xs:=l.map fun y=>aM (cG r y.tk.de)) (v:=.slice (some ⟨gu,0,none⟩) r.lv.toNat uc) (x:=aM (cG r tk.de)) (n:=r.lv.toNat) i
   case ht=>exact Cu
   case ht2=>exact Cu
   case ht3=>exact Take.there .here
   case hv=>exact hu
   case hn=>exact VF
   case hx=>exact TM
   case k=>
    apply aJ (i+1,H7,L2) ⟨by show i+1<=_;omega,by show L2=kr r (dy l) (i+1);rw [fH,uR]⟩ (by show l.length-(i+1)<l.length-i;omega)
    case hs1=>exact cj
    case ht=>exact .cons bT (.cons bT (.cons bT (.cons bT (.cons bT (.cons (.there .here) (.cons .here (.cons .here .nil)))))))
 ·have e:i=l.length:=by omega
  subst e;refine Jr<|JA I<|Jn<|Jq<|Jc I fun ar=>Jp<|Jl<|Jo<|Jt<|Jr ?_;have ZP:L=r.po.filter (fun p=>!Kv r (dy l) l.length p):=by rw [hL,kX]
  have Gu:=Zy l.length;rw [<- hL] at Gu
  with_reducible apply gp (As:=[JP b8 r s1 d1 t1 pv,J1 r s1,J2 r d1,J3 r t1,row 188 3 pv L.length (jC L)])
  case hr=>exact bN
  case hd=>rfl
  case ht=>exact oA
  case hc=>
   intro w1 AS aS vQ hs1 CF kU;exact Mi (r:=r.wp L) (s:=s1) (d:=d1) (t:=t1) (p:=pv) (b:=b8) vQ hs1 cL (by show L.length<=1000;omega)
  rintro ⟨pw,ff⟩ ⟨RH,V8⟩;have rh:(r.wp L).po.filter ff=uV r (dy l):=by
   show L.filter ff=A9 (cz r) (kr r (dy l) (dy l).length);rw [tI,<- hL];exact OE.tid dU.ue (by rw [ZP];exact dU.val.acy.sub _) ⟨RH,V8⟩
  dsimp only [id_eq,Zb,Za];rw [rh];unfold RW RB PB;dsimp only [Zb,Za]
  try unfold JP
  try unfold J1 J2 J3
  rw [show (r.wp L).lv=r.lv from I,show (r.wp L).ma=r.ma from I,show (r.wp L).sr=r.sr from I,show (r.wp L).de=r.de from I,show (r.wp L).ti=r.ti from I];refine Jn<|Jq<|Jr<|Jv I<|JI I<|Jv I<|Jn<|J0 ?_
  refine aY (ι:=Nat×Value×List Po) (fun y=>y.1<=l.length/\jZ r (dy l) (uV r (dy l)) y.1=some y.2.2/\jl r y.2.2) (fun y=>[(69,.int .i64 (y.1:Nat)),(68,.int .i64 (l.length:Nat)),(67,.slice a l.length cp),(9,.slice kK l.length kc),(8,.pointer (some ⟨b8,0,none⟩)),(4,.pointer (some ⟨b4,0,none⟩)),(1,.slice a l.length cp)])
   (fun y=>[JP b8 r s1 d1 t1 (y.2.1),J1 r s1,J2 r d1,J3 r t1,row 188 3 y.2.1 y.2.2.length (jC y.2.2),row 32 1 (.slice kK l.length kc) l.length o6,jn 9 o6 (l.map fun y=>aM (cG r y.tk.de)),bC b4 (.cells #[.int .i64 0,.int .i64 0,.slice none 0 0,.slice none 0 0,.slice none 0 0,.slice none 0 0] 41 (0,0))]) (fun y=>l.length-y.1) ?_ ?_
  ·have Yz:jZ r (dy l) (uV r (dy l)) 0=some (uV r (dy l)):=by rw [jZ]
   have h01:=(qY dU hT).1;generalize uV r (dy l)=D0 at *;apply aK (0,pw,D0) ⟨Zi _,Yz,h01⟩
   case hs1=>exact cj
   case ht=>exact oA
  clear RH V8 rh ff pw Gu ZP hL pv L hi;rintro ⟨i,pv,L⟩ ⟨hi,hL,hLV⟩;dsimp only at hi hL hLV ⊢;by_cases aL:i<l.length
  ·have cM:=ha (nr aL);have aF:=(hc i _ (kM aL)).2;have jT:=Zj aL;have Yp:=hM _ jT;have kG:i<(dy l).length:=by omega
   have V3:(dy l)[i]=l[i].tk:=List.getElem_map _;have O9:(dy l).getD i Tk.zero=l[i].tk:=by rw [List.getD_eq_getElem?_getD,Zc kG,Option.getD_some,V3]
   have Uh:=fun k hk q h1=>QG dU hT kG (k:=k) (q0:=L) (q:=q) hk hL h1
   have Ur:=fun k=>z8 dU hT (Zj kG) (k:=k)
   rw [V3] at Uh Ur;have VN:jZ r (dy l) (uV r (dy l)) (i+1)=qj r l[i].tk l[i].tk.so.length L:=by rw [jZ,hL,O9];rfl
   have hrf:=fun h2=>MD (r:=r) (l:=dy l) (po:=uV r (dy l)) kG hL h2
   have VS:=hT.lv l[i].tk (List.mem_map_of_mem jT);have QU:∃ u,o6[i]? = some u:=⟨o6[i],Zc (by omega)⟩;have TM:(l.map fun y=>aM (cG r y.tk.de))[i]? = some (aM (cG r l[i].tk.de)):=by rw [List.getElem?_map,Zc aL];rfl
   unfold hP.cells at aF;generalize hti:l[i]=ti at *;obtain ⟨tk,tv⟩:=ti;dsimp only at *;obtain ⟨sa,ON,sb,Tb,rfl,O2,BU,T1,T0⟩:=Yp;rw [bA] at *;unfold maxLen at BU
   (refine Jr<|JA I<|Jn<|Jq<|Jd I fun ar=>Jk<|Jq<|J0<|Jr<|Jv I<|ab (gj cM ar) I ?_;refine ab (iI (eU.base aF I)) I ?_;refine Jz I I fun _ _=>Ja I<|au (.of I) (.of I) .here I I (ie I I) (bF I) an ?_;refine Ji<|bK I I ae ?_;refine JL I .here I<|JI I<|Jv I<|Jn<|J0 ?_)
   rename_i Sd Yf;obtain ⟨u,hu⟩:=QU;have RL:(cG r tk.de).length=r.lv.toNat:=by unfold cG;simp
   refine u3 (E:=9) (j:=i) (n:=r.lv.toNat) Cu hu TM (by rw [dd,RL]) ?_;refine c7 (E:=9) (sz:=1) (v:=u) (by exact .here) (by omega) fun gu uc Hp e W0 QZ WZ WY=>?_;subst e;refine c7 (E:=32) (sz:=1) (v:=.slice kK l.length kc) jm (by omega) fun gh hc nF e XQ XP XO XN=>?_;cases e;have f1:(o6++nF)[i*1]? = some (.slice (some ⟨gu,0,none⟩) r.lv.toNat uc):=by
    rw [Nat.mul_one,List.getElem?_append_left (by omega)];exact hu
   have f2:∀ k,k<r.lv.toNat->(aM (cG r tk.de)++Hp)[k*1]? = some (.string (jX r (k:Nat) tk.de)):=fun k hk=>by
    rw [Nat.mul_one,List.getElem?_append_left (by rw [dd,RL];exact hk)];unfold aM cG;rw [List.getElem?_map,List.getElem?_map,List.getElem?_range hk];rfl
   refine aY (ι:=Nat×Value×List Po) (fun y=>y.1<=tk.so.length/\qj r tk y.1 L=some y.2.2) (fun y=>[(77,.int .i64 (y.1:Nat)),(76,.int .i64 (tk.so.length:Nat)),(75,.slice sa tk.so.length ON),(69,.int .i64 (i:Nat)),(68,.int .i64 (l.length:Nat)),(67,.slice a l.length cp),(14,.int .i64 (i:Nat)),(15,.pointer (some ⟨Sd,0,none⟩)),(9,.slice (some ⟨gh,0,none⟩) l.length kc),(8,.pointer (some ⟨b8,0,none⟩)),(4,.pointer (some ⟨b4,0,none⟩)),(1,.slice a l.length cp)])
    (fun y=>[JP b8 r s1 d1 t1 (y.2.1),J1 r s1,J2 r d1,J3 r t1,row 188 3 y.2.1 y.2.2.length (jC y.2.2),bC gh (.cells (o6++nF).toArray 32 (0,0)),bC gu (.cells (aM (cG r tk.de)++Hp).toArray 9 (0,0)),rI 9 o6 (l.map fun y=>aM (cG r y.tk.de)) i,rH 9 o6 (l.map fun y=>aM (cG r y.tk.de)) i,bC b4 (.cells #[.int .i64 0,.int .i64 0,.slice none 0 0,.slice none 0 0,.slice none 0 0,.slice none 0 0] 41 (0,0)),bC Sd (.cells #[.string tk.de,.slice sa tk.so.length ON] 78 (0,0))]) (fun y=>tk.so.length-y.1) ?_ ?_
   ·have Yz:qj r tk 0 L=some L:=by rw [qj]
    apply aK (0,pv,L) ⟨Zi _,Yz⟩
    case hs1=>exact cj
    case ht=>exact .cons fy (.cons fy (.cons fy (.cons fy (.cons fy (.cons .here (.cons .here (.cons .here (.cons .here (.cons (.there .here) (.cons .here .nil))))))))))
   rintro ⟨k,H7,L2⟩ ⟨hk,uR⟩;dsimp only at hk uR ⊢;obtain ⟨UJ,eJ⟩:=Uh k hk L2 uR;have hfw:=pF dU UJ;by_cases wZ:k<tk.so.length
   ·have Js:=T1 (iy wZ);have I8:w.cell? ⟨sb,Tb+k*1,none⟩=some (.string tk.so[k]):=(T0 k _ (fF wZ)).2 0 _ I;have f3:=f2 k (by omega);have ja:tk.at k=tk.so[k]:=by unfold Tk.at;rw [List.getD_eq_getElem?_getD,Zc wZ];rfl
    have hs2:qj r tk (k+1) L=if oW r tk k then (mg (r.wp L2) (k:Nat) tk.so[k] tk.de).map (fun p=>lJ r L2 (k:Nat) tk.so[k] p tk.de) else some L2:=by rw [qj,uR,Option.bind_some,ja]
    have Zr:oW r tk k=true↔¬ ((tk.so[k]=⟨#[]⟩\/tk.so[k]=⟨#[45]⟩)\/tk.so[k]=jX r (k:Nat) tk.de):=by
     rw [mT,ja];constructor
     ·rintro ⟨x1,x2,x3⟩ ((e | e) | e)
      ·exact x1 e
      ·exact x3 e
      ·exact x2 e
     ·intro e;exact ⟨fun c=>e (.inl (.inl c)),fun c=>e (.inr c),fun c=>e (.inl (.inr c))⟩
    have Zq:=Ur k wZ;rw [ja] at Zq;have DE:oW r tk k=true->og r tk k=true:=fun c=>by
     obtain ⟨x1,x2,_⟩:=mT.1 c;exact lz.2 ⟨x1,x2⟩
    generalize jX r (k:Nat) tk.de=ck at *;generalize tk.so[k]=sk at *
    (refine Jr<|JA I<|Jn<|Jq<|Jd I fun ar=>Jk<|Jq<|J0<|Jr<|Jv I<|ab (az (.of I) (.of I) Js (by omega) ar ba) I ?_;refine ab (ag (.of I) (At.base I8 I)) I ?_;refine Ja I<|Ja I<|Jn<|Jq<|Jr<|Jv I<|ab (eh (.of I) (.of I)) I ?_;refine Jv I<|fM I I I I ?_;refine aC I I inferInstance (fun hg br=>(eh (.bL hg I) (.of I))) I ?_;refine ab (bX (.of I) I) I ?_;refine Jv I<|fM I I I I ?_;refine fM I I I I ?_;refine fM I I I I ?_;refine aC I I inferInstance (fun hg br=>(az (.bL hg I) (.bL hg I) I (by omega) (by assumption) ba)) I ?_;refine aC I I inferInstance (fun hg br=>(ag (.bL hg I) (At.lP fy f1))) I ?_;refine fM I I I I ?_;refine aC I I inferInstance (fun hg br=>(az (.bL hg I) (.bL hg I) I (by omega) (by omega) ba)) I ?_;refine aC I I inferInstance (fun hg br=>(ag (.bL hg I) (At.lP re f3))) I ?_;refine aC I I inferInstance (fun hg br=>(eh (.bL hg I) (.bL hg I))) I ?_;refine ab (bX (.of I) I) I ?_;refine Jn<|oz I (fun ar=>?_) fun ar=>?_;refine Jp<|Jo<|Jt<|Jg<|JB I (by omega)<|Jv I<|Jn ?_;rotate_left;refine Jk<|Jr<|ab (cr .here) I ?_;refine Jv I<|Jv I<|bK I I ae ?_;refine JL I nj I ?_;rotate_right)
    ·have hj:oW r tk k=false:=by
      rw [<- Bool.not_eq_true];exact fun c=>Zr.1 c ar
     rw [hj,if_neg (by decide)] at hs2;apply aJ (k+1,H7,L2) ⟨by show k+1<=_;omega,hs2⟩ (by show tk.so.length-(k+1)<tk.so.length-k;omega)
     case hs1=>exact cj
     case ht=>exact oA
    have hj:oW r tk k=true:=Zr.2 (fun c=>c.elim (fun c=>c.elim ar.1.1 ar.1.2) ar.2)
    obtain ⟨⟨j1,j2⟩,rR,fH,_⟩:=Zq hj;have pX:=eJ k (Nat.le_refl _) wZ (DE hj);rw [hj,if_pos I] at hs2;refine JN nO I (fun w1 aS=>OH (r:=r.wp L2) (k:Nat) sk tk.de (RR.wp (du aS (by exact Take.there .here) I) (dw aS bT I) (dq aS db I) (cX aS fg I)) dU.ue.wp UJ.wp dU.N3.wp rR fH) ?_;rintro ⟨Wb,⟨xv,xp,xf⟩,kJ⟩ ⟨Y0,YZ,YY⟩;dsimp only at Y0 YZ YY;dsimp only [Wy.cells,Zb,Za]
    (refine Jv I<|JJ I I<|JJ I I<|Jz I I fun _ _=>au (.of I) (.of I) .here I I (ie YY I) (bF I) an ?_;refine Ja I<|Jn<|Jq<|Jr<|Jv I<|JH I<|Jn<|oz I (fun ar=>?_) fun ar=>?_;refine Jr<|ab (aT .nil an) I ?_;refine Jv I<|au (.of I) (.of I) Cw I I (iS I I I I I I) (bF I) an ?_;refine Ja I<|Ja I<|Jn<|Ju<|Jm<|Jh<|Jh<|Jm<|Jm<|Jh<|Jh<|Jm<|Jh ?_;rotate_left;refine Jk<|Jg<|Jv I<|Jv I<|ab (cr .here) I ?_;refine bK I I ae ?_;refine JL I lS I ?_;rotate_right)
    ·have hf:Wb=false:=by simpa using ar
     subst hf;have e1:qj r tk (k+1) L=none:=by rw [hs2,xR (YZ I)];rfl
     have e2:jZ r (dy l) (uV r (dy l)) (i+1)=none:=by rw [VN];exact FV e1 (by omega)
     have e3:=yo e2 (m:=(dy l).length) (by omega);have e4:lK r (dy l)=(Ro.nil,((i:Nat):Int),18):=by
      unfold lK;rw [if_neg ZS];show (match jZ r (dy l) (uV r (dy l)) (dy l).length with | none=>(Ro.nil,((H3 r (dy l) (uV r (dy l)):Nat):Int),(18:Int)) | some po=>(r.wp po,0,0))=_
      rw [e3,hrf e2]
     rw [e4];dsimp only;refine aP 186 2 ?_;refine aP 90 3 ?_;refine aP 187 3 ?_;refine aP 188 3 ?_
     first | with_reducible apply aN | with_reducible apply aO
     case he=>exact l6 I inferInstance I fg an (by rfl) (by rfl) (by rfl)
     case hR=>
      intro w' aq;exact aG (.slice none 0 0,.slice none 0 0,.slice none 0 0,.slice none 0 0) trivial (by exact .cons db (.cons bT (.cons (.there .here) (.cons .here .nil)))) aq I
    have hf:Wb=true:=by simpa using ar
    subst hf;obtain ⟨hle,RD⟩:=Y0 rfl;have hwp:=xQ hle;have Nx:(dE r L2 (k:Nat) sk).least (jV r tk.de) xp:=hle;have kl:qj r tk (k+1) L=some (lJ r L2 (k:Nat) sk xp tk.de):=by rw [hs2,hwp];rfl
    have hVn:=HQ dU ⟨j1,j2⟩ UJ rR fH pX Nx;have hxp:∀ i∈xp,i<r.ti.length:=Wn.tw Nx.1;have OZ:xp.length<=6:=by have:=Wn.sH Nx.1;show _<=_;have h6:(dE r L2 (k:Nat) sk).n=r.ti.length:=rfl;omega
    refine FO RD (by exact Take.there .here) fun oh=>?_
    with_reducible apply gp (As:=[JP b8 r s1 d1 t1 H7,J1 r s1,J2 r d1,J3 r t1,row 188 3 H7 L2.length (jC L2),row 3 1 xv xp.length (gz xp)])
    case hr=>exact Cy
    case hd=>rfl
    case ht=>exact .cons db (.cons db (.cons db (.cons db (.cons db (.cons .here .nil)))))
    case hc=>
     intro w1 AS aS vQ hs1 CF kU;exact Td (r:=r) (s:=s1) (d:=d1) (t:=t1) (p:=H7) (b:=b8) (po:=L2) xf (k:Nat) sk tk.de vQ hs1 cL (by omega) (by omega) dU.N3 hxp UJ.out fH hVn.rr
    intro p3 _;dsimp only [id_eq,Zb,Za];unfold RB PB;generalize lJ r L2 (k:Nat) sk xp tk.de=L3 at *;refine Jx<|Jj<|Jt<|Jg<|JB I (by omega)<|Jv I<|Jn ?_;apply aJ (k+1,p3,L3) ⟨by show k+1<=_;omega,kl⟩ (by show tk.so.length-(k+1)<tk.so.length-k;omega)
    case hs1=>exact cj
    case ht=>exact oA
   ·have e:k=tk.so.length:=by omega
    subst e;refine Jr<|JA I<|Jn<|Jq<|Jc I fun ar=>Jp<|Jl<|Jo<|Jj<|Jt<|Jg<|JB I (by omega)<|Jv I<|Jn ?_;refine dx (E:=9) (sz:=1) (g:=gu) re W0 QZ WZ WY ?_;refine dx (E:=32) (sz:=1) (g:=gh) re XQ XP XO XN ?_;have VF:(aM (cG r tk.de)).length=r.lv.toNat:=by rw [dd,RL]
    with_reducible apply xX (E:=9) (vs:=o6) (xs:=l.map fun y=>aM (cG r y.tk.de)) (v:=.slice (some ⟨gu,0,none⟩) r.lv.toNat uc) (x:=aM (cG r tk.de)) (n:=r.lv.toNat) i
    case ht=>exact Cu
    case ht2=>exact Cu
    case ht3=>exact Take.there .here
    case hv=>exact hu
    case hn=>exact VF
    case hx=>exact TM
    case k=>
     have hne:jZ r (dy l) (uV r (dy l)) (i+1)=some L2:=by rw [VN,uR]
     apply aJ (i+1,H7,L2) ⟨by show i+1<=_;omega,hne,UJ⟩ (by show l.length-(i+1)<l.length-i;omega)
     case hs1=>exact cj
     case ht=>exact .cons bT (.cons bT (.cons bT (.cons bT (.cons bT (.cons (.there .here) (.cons .here (.cons .here .nil)))))))
  ·have e:i=l.length:=by omega
   subst e;refine Jr<|JA I<|Jn<|Jq<|Jc I fun ar=>Jp<|Jl<|Jo<|Jt<|Jr<|ab (cr .here) I ?_;have e4:lK r (dy l)=(r.wp L,0,0):=by
    unfold lK;rw [if_neg ZS];show (match jZ r (dy l) (uV r (dy l)) (dy l).length with | none=>(Ro.nil,((H3 r (dy l) (uV r (dy l)):Nat):Int),(18:Int)) | some po=>(r.wp po,0,0))=_
    rw [tI,hL]
   rw [e4];dsimp only;refine aW (E:=188) (sz:=3) (v:=pv) fg fun _ _ e=>?_;have k5:pv.oneCell'=true:=by rw [e];rfl
   clear e
   (refine au (.of I) (.of I) Cu I I (iS I I k1 k2 k3 k5) (bF I) an ?_;refine Ja I<|Ja I<|Jn<|Je ?_)
   first | with_reducible apply aN | with_reducible apply aO
   case he=>exact l6 I inferInstance I .here an (by rfl) (by rfl) (by rfl)
   case hR=>
    intro w' aq;exact aG (s1,d1,t1,pv) trivial (by exact .cons bT (.cons bT (.cons bT (.cons bT .nil)))) aq I
def jz (r:Ro) (l:List Tk):Ro×Int×Int:=if gB r≠0 then (Ro.nil,0,gB r) else if A7 r l≠0 then (Ro.nil,0,A7 r l) else lK r l
theorem CQ (l:List hP):∀ r∈jQ l,r.length=2:=fun r hr=>by obtain ⟨x,_,rfl⟩:=List.mem_map.1 hr;rfl
theorem mM {c:Cx} {hs hs':List a8} {w:World} {l:List hP} {E:TypeId} {v:Value} {n:Nat} (hm:Mem c hs w) (ht:Take hs (row E 2 v n (jQ l).flatten) hs') (hn:l.length=n):Rd w v 2 (jQ l):=hm.qx ht I (CQ l) (by rw [eX,hn])
theorem bz (l m:List a8):bn (l++m) l m:=pM [] l m
theorem dW {c:Cx} {D:List Nat} {sl:aI} {hs hs':List a8} {X:Act->World->Prop} {r:Ro} {s d t p:Value} (ht:bn hs (uw r (s,d,t,p)) hs')
  (k:s.oneCell'=true->d.oneCell'=true->t.oneCell'=true->p.oneCell'=true->Tr c D sl (J1 r s::J2 r d::J3 r t::J4 r p::hs') X):Tr c D sl hs X:=by
 intro a w a7;have hm:=a7.mem.jd (ht.append (mC D));have k2:Tr c D sl (J1 r s::J2 r d::J3 r t::J4 r p::hs') X:=by
  refine aW (E:=186) (sz:=2) (v:=s) .here fun _ _ e=>?_;have k1:s.oneCell'=true:=by rw [e];rfl
  clear e;refine aW (E:=90) (sz:=3) (v:=d) (.there .here) fun _ _ e=>?_;have k2:d.oneCell'=true:=by rw [e];rfl
  clear e;refine aW (E:=187) (sz:=3) (v:=t) bT fun _ _ e=>?_;have k3:t.oneCell'=true:=by rw [e];rfl
  clear e;refine aW (E:=188) (sz:=3) (v:=p) db fun _ _ e=>?_;have k4:p.oneCell'=true:=by rw [e];rfl
  clear e;exact k k1 k2 k3 k4
 exact k2 a w (a7.heap hm)
set_option maxHeartbeats 1000000 in
theorem AJ {r:Ro} {s d t p kv:Value} {l:List hP} {w:World} (h:RR w r s d t p) (cL:np r) (hw:Rd w kv 2 (jQ l)) (hM:xe w l) :
  bh T_ 45 [RA r s d t p,kv] w [] (fun _:Value×Value×Value×Value=>True) (fun x=>.tuple #[RA (jz r (dy l)).1 x.1 x.2.1 x.2.2.1 x.2.2.2,.int .i64 (jz r (dy l)).2.1,.int .i64 (jz r (dy l)).2.2]) (fun x=>uw (jz r (dy l)).1 x):=by
 obtain ⟨h1,h2,h3,h4⟩:=h.one;have VW:=Rd.one hw;have jk:∀ w',aD [] w w'->aj T_ 34 [.agg #[.int .i64 r.lv,.int .i64 r.ma,s,d,t,p]] w' (.int .i64 (gB r)):=fun w' hk=>eN (h.keeps hk) cL
 have htk:∀ w',aD [] w w'->aj T_ 164 [.agg #[.int .i64 r.lv,.int .i64 r.ma,s,d,t,p],kv] w' (.int .i64 (A7 r (dy l))):=fun w' hk=>r9 (h.keeps hk) (hw.keeps hk) (hM.keeps hk)
 unfold RA;refine aR func45 I I ?_
 (refine Jr<|Jy I I fun _ _=>Jz I I fun _ _=>Ja I<|Ja I<|Jn<|Jq<|Jr<|ab (cr (.there .here)) I ?_;refine ai bN I (fun w' aq=>(jk w' (Mem.keeps aq))) ?_;refine Ja I<|Ji<|Jv I<|JD I<|Jn<|gl I (fun ar=>?_) fun ar=>?_;refine Jr<|ab (aT .nil an) I ?_;refine Jv I<|au (.of I) (.of I) .here I I (iS I I I I I I) (bF I) an ?_;refine Ja I<|Ja I<|Jn<|Ju ?_;rotate_left;refine Jk<|Jq<|Jr<|ab (cr (.there .here)) I ?_;refine Jv I<|ai aX I (fun w' aq=>(htk w' (Mem.keeps aq))) ?_;refine Ja I<|Ji<|Jv I<|JD I<|Jn<|gl I (fun ar=>?_) fun ar=>?_;refine Jr<|ab (aT .nil an) I ?_;refine Jv I<|au (.of I) (.of I) .here I I (iS I I I I I I) (bF I) an ?_;refine Ja I<|Ja I<|Jn<|Ju ?_;rotate_left;refine Jk<|Jr<|ab (cr (.there .here)) I ?_;refine Jv I ?_;rotate_right;rotate_right)
 ·have e:jz r (dy l)=(Ro.nil,0,gB r):=if_pos ar;rw [e];dsimp only;refine aP 186 2 ?_;refine aP 90 3 ?_;refine aP 187 3 ?_;refine aP 188 3 ?_
  first | with_reducible apply aN | with_reducible apply aO
  case he=>exact l6 I inferInstance I fg an (by rfl) (by rfl) (by rfl)
  case hR=>
   intro w' aq;exact aG (.slice none 0 0,.slice none 0 0,.slice none 0 0,.slice none 0 0) trivial (by exact .cons db (.cons bT (.cons (.there .here) (.cons .here .nil)))) aq I
 ·have e:jz r (dy l)=(Ro.nil,0,A7 r (dy l)):=by unfold jz;rw [if_neg (by assumption),if_pos ar]
  rw [e];dsimp only;refine aP 186 2 ?_;refine aP 90 3 ?_;refine aP 187 3 ?_;refine aP 188 3 ?_
  first | with_reducible apply aN | with_reducible apply aO
  case he=>exact l6 I inferInstance I fg an (by rfl) (by rfl) (by rfl)
  case hR=>
   intro w' aq;exact aG (.slice none 0 0,.slice none 0 0,.slice none 0 0,.slice none 0 0) trivial (by exact .cons db (.cons bT (.cons (.there .here) (.cons .here .nil)))) aq I
 have AR:gB r=0:=Decidable.not_not.1 (by assumption);have Ly:A7 r (dy l)=0:=Decidable.not_not.1 ar;have e:jz r (dy l)=lK r (dy l):=by unfold jz;rw [if_neg (not_not_intro AR),if_neg (not_not_intro Ly)]
 have dU:=Di AR;have hf:=pF dU dU.val;rw [e];refine JN aX I (fun w1 aS=>Eu (h.keeps aS.keeps) dU (by omega) (hw.keeps aS.keeps) (hM.keeps aS.keeps) (zv.1 Ly).2) ?_;generalize lK r (dy l)=R;obtain ⟨R,at_,e_⟩:=R;rintro ⟨s1,d1,t1,p1⟩ _;dsimp only;unfold RA;refine dW (r:=R) (s:=s1) (d:=d1) (t:=t1) (p:=p1) (bz _ _) fun k1 k2 k3 k4=>?_
 (refine JJ I I<|JJ I I<|JJ I I<|au (.of I) (.of I) fg I I (iS I I k1 k2 k3 k4) (bF I) an ?_;refine Ja I<|Ja I<|Jn<|Je ?_)
 first | with_reducible apply aN | with_reducible apply aO
 case he=>exact l6 I inferInstance I .here an (by rfl) (by rfl) (by rfl)
 case hR=>
  intro w' aq;exact aG (s1,d1,t1,p1) trivial (by exact .cons (.there .here) (.cons (.there .here) (.cons (.there .here) (.cons (.there .here) .nil)))) aq I
set_option maxHeartbeats 1000000 in
theorem Ox {r:Ro} {s d t p:Value} {x:hP} {w:World} (h:RR w r s d t p) (cL:np r) (hM:Rd w x.v 1 (fG x.tk.so)) :
  bh T_ 48 [RA r s d t p,.agg x.cells.toArray] w [] (fun _:Value×Value×Value×Value=>True) (fun y=>.tuple #[RA (jz r [x.tk]).1 y.1 y.2.1 y.2.2.1 y.2.2.2,.int .i64 (jz r [x.tk]).2.2]) (fun y=>uw (jz r [x.tk]).1 y):=by
 obtain ⟨h1,h2,h3,h4⟩:=h.one;have VW:=Rd.one hM;unfold RA hP.cells;refine aR func48 I I ?_
 (refine Jr<|Jy I I fun _ _=>Jy I I fun _ _=>Jz I I fun _ _=>Ja I<|Ji<|ab (cr bT) I ?_;refine ab (cr (.there .here)) I ?_;refine bb (bu (.cons (.of I) .nil) I I bW bW an) I fun _ _=>?_)
 rename_i b2 uh b3 tQ b4 uQ bq mA;refine bY (g:=bq) (E:=78) (xs:=[.string x.tk.de,x.v]) (ys:=(jQ [x]).flatten) 1 2 (by exact .here) (by exact I) I I ?_
 with_reducible apply jh
 case hr=>exact aX
 case hd=>rfl
 case ht=>exact bn.nil
 case hc=>
  intro w1 fp aS _ hs1;obtain rfl:fp=[]:=hs1;have hR:Rd w1 (.slice (some ⟨bq,0,none⟩) 1 1) 2 (jQ [x]):=mM (l:=[x]) aS (by exact .here) (by exact I);exact AJ (l:=[x]) (h.keeps aS.keeps) cL hR (fun y hy=>by rw [List.mem_singleton.1 hy];exact hM.keeps aS.keeps)
 rw [show dy [x]=[x.tk] from I];generalize jz r [x.tk]=R;obtain ⟨R,at_,e_⟩:=R;rintro ⟨s1,d1,t1,p1⟩ _;dsimp only;unfold RA;refine dW (r:=R) (s:=s1) (d:=d1) (t:=t1) (p:=p1) (bz _ _) fun k1 k2 k3 k4=>?_
 (refine Jv I<|JJ I I<|JJ I I<|JJ I I<|Jz I I fun _ _=>au (.of I) (.of I) .here I I (iS I I k1 k2 k3 k4) (bF I) an ?_;refine Ja I<|Ja I<|Ji<|ab (cr .here) I ?_;refine Jv I<|au (.of I) (.of I) re I I (iS I I k1 k2 k3 k4) (bF I) an ?_;refine Ja I<|Jn<|Je ?_)
 first | with_reducible apply aN | with_reducible apply aO
 case he=>exact sY I inferInstance I .here an (by rfl) (by rfl)
 case hR=>
  intro w' aq;exact aG (s1,d1,t1,p1) trivial (by exact .cons bT (.cons bT (.cons bT (.cons bT .nil)))) aq I
theorem qw (cs:List Value) (o:Nat) (v:Value) (h:o<cs.length):setCells cs o [v]=cs.set o v:=by
 simp [setCells]
theorem Ew (L:List ByteArray) (cur:List Value) {k:Nat} (h:k<L.length) (v:ByteArray):setCells (aM L++cur) (k*1) [.string v]=aM (L.set k v)++cur:=by
 rw [Nat.mul_one,qw _ _ _ (by rw [Zg,dd];omega),List.set_append_left _ _ (by rw [dd];exact h)];unfold aM;rw [List.map_set]
theorem rp (L:List ByteArray) (cur:List Value) {k:Nat} (h:k<L.length):(aM L++cur)[k*1]? = some (.string L[k]):=by
 rw [Nat.mul_one,List.getElem?_append_left (by rw [dd];exact h)];unfold aM;rw [List.getElem?_map,Zc h];rfl
def AV (r:Ro) (t:Tk) (k:Nat):ByteArray:=if t.at k=⟨#[]⟩ then ⟨#[]⟩ else if jX r (k:Nat) t.de=⟨#[]⟩ then dash else jX r (k:Nat) t.de
def kL (r:Ro) (t:Tk) (k:Nat):List ByteArray:=(List.range r.lv.toNat).map fun i=>if i<k then AV r t i else jX r (i:Nat) t.de
theorem lf (r:Ro) (t:Tk) (k:Nat):(kL r t k).length=r.lv.toNat:=by unfold kL;simp
theorem FF (r:Ro) (t:Tk):kL r t 0=cG r t.de:=by unfold kL cG;simp
theorem Ho (r:Ro) (t:Tk):kL r t r.lv.toNat=(xh r t).so:=by
 unfold kL xh;refine List.map_congr_left fun i hi=>?_;rw [if_pos (List.mem_range.1 hi)];rfl
theorem zq {r:Ro} {t:Tk} {k i:Nat} (h:i<r.lv.toNat):(kL r t k)[i]? = some (if i<k then AV r t i else jX r (i:Nat) t.de):=by
 unfold kL;rw [List.getElem?_map,List.getElem?_range h];rfl
theorem Hn {r:Ro} {t:Tk} {k:Nat} (h:k<(kL r t k).length):(kL r t k)[k]=jX r (k:Nat) t.de:=by
 have h1:=Zc h;rw [zq (by rw [lf] at h;exact h),if_neg (Nat.lt_irrefl _)] at h1;exact (Option.some.inj h1).symm
theorem Hm {r:Ro} {t:Tk} {k:Nat} (h:k<r.lv.toNat):(kL r t k).set k (AV r t k)=kL r t (k+1):=by
 apply List.ext_getElem?;intro i;rw [List.getElem?_set];by_cases hi:i<r.lv.toNat
 ·rw [zq hi,zq hi,lf];by_cases e:k=i
  ·subst e;rw [if_pos I,if_pos hi,if_pos (Nat.lt_succ_self _)]
  ·rw [if_neg e];by_cases e2:i<k
   ·rw [if_pos e2,if_pos (by omega)]
   ·rw [if_neg e2,if_neg (by omega)]
 ·have e1:(kL r t k)[i]? = none:=List.getElem?_eq_none (by rw [lf];omega);have e2:(kL r t (k+1))[i]? = none:=List.getElem?_eq_none (by rw [lf];omega);rw [if_neg (by omega),e1,e2]
theorem FG {r:Ro} {t:Tk} {k:Nat} (h:AV r t k=jX r (k:Nat) t.de):kL r t (k+1)=kL r t k:=by
 unfold kL;refine List.map_congr_left fun i _=>?_;by_cases e:i=k
 ·subst e;rw [if_pos (Nat.lt_succ_self _),if_neg (Nat.lt_irrefl _),h]
 ·by_cases e2:i<k
  ·rw [if_pos e2,if_pos (by omega)]
  ·rw [if_neg e2,if_neg (by omega)]
set_option maxHeartbeats 1000000 in
theorem P4 {r:Ro} {s d t p:Value} {x:hP} {b:Nat} {w:World} (h:RR w r s d t p) (hA:BR w b (RC r s d t p)) (BZ:1<=r.lv/\r.lv<=1000) (cL:r.ti.length<=1000000) (hx:Rd w x.v 1 (fG x.tk.so)) (OZ:(x.tk.so.length:Int)=r.lv) :
  bh T_ 167 [.agg x.cells.toArray,.pointer (some ⟨b,0,none⟩)] w [] (fun _:Value=>True) (fun v=>.agg #[.string x.tk.de,v]) (fun v=>[row 9 1 v r.lv.toNat (aM (xh r x.tk).so)]):=by
 obtain ⟨h1,h2,h3,h4⟩:=h.one;have kp:∀ (j:Nat) (u:Value),[Value.int .i64 r.lv,.int .i64 r.ma,s,d,t,p][j]? = some u->w.cell? ⟨b,0+j,none⟩=some u:=hA;clear hA;unfold hP.cells;obtain ⟨tk,tv⟩:=x;dsimp only at *;obtain ⟨sa,ON,sb,Tb,rfl,O2,BU,T1,T0⟩:=hx;rw [bA] at *;unfold maxLen at BU;refine aR func167 I I ?_
 (refine Jr<|Jy I I fun _ _=>Jz I I fun _ _=>Ji<|ab (iI (eU.base kp I)) I ?_;refine bK I I ae ?_;refine JL I (.there .here) I ?_)
 rename_i b2 ad3 b3 ad1;refine JN aX I (fun w1 aS=>vV tk.de (h.keeps aS.keeps) BZ.2 cL) ?_;intro v _;dsimp only [id_eq,Zb,Za];have mF:=lf r tk;rw [<- FF];refine c7 (E:=9) (sz:=1) (v:=v) (by exact .here) (by omega) fun gb cap cur e tR uh tQ uQ=>?_;subst e
 (refine Ja I<|Jn<|Jq<|Jr<|bK I I ae ?_;refine JL I bT I<|JI I<|Jv I<|Jn<|J0 ?_)
 refine aY (ι:=Nat×List ByteArray) (fun y=>y.1<=tk.so.length/\y.2=kL r tk y.1) (fun y=>[(14,.int .i64 (y.1:Nat)),(13,.int .i64 (tk.so.length:Nat)),(12,.slice sa tk.so.length ON),(4,.slice (some ⟨gb,0,none⟩) r.lv.toNat cap),(3,.pointer (some ⟨b3,0,none⟩)),(2,.pointer (some ⟨b2,0,none⟩))])
  (fun y=>[bC gb (.cells (aM y.2++cur).toArray 9 (0,0)),bC b3 (.cells #[.string ⟨#[]⟩,.slice none 0 0] 78 (0,0)),bC b2 (.cells #[.string tk.de,.slice sa tk.so.length ON] 78 (0,0))]) (fun y=>tk.so.length-y.1) ?_ ?_
 ·apply aK (0,kL r tk 0) ⟨Zi _,I⟩
  case hs1=>exact cj
  case ht=>exact oA
 rintro ⟨k,L⟩ ⟨hk,hL⟩;dsimp only at hk hL ⊢;have Gu:L.length=r.lv.toNat:=by rw [hL,lf]
 have iH:(aM L++cur).length=cap*1:=by
  rw [Zg,dd] at tQ ⊢;rw [lf] at tQ;omega
 by_cases aL:k<tk.so.length
 ·have Js:=T1 (iy aL);have I8:w.cell? ⟨sb,Tb+k*1,none⟩=some (.string tk.so[k]):=(T0 k _ (fF aL)).2 0 _ I;have Ny:k<L.length:=by omega
  have jk:L[k]=jX r (k:Nat) tk.de:=by subst hL;exact Hn Ny
  have c1:=rp L cur Ny;rw [jk] at c1;have p1:=Ew L cur Ny ⟨#[]⟩;have p2:=Ew L cur Ny ⟨#[45]⟩;have hle:k*1+1<=(aM L++cur).length:=by omega
  have VW:k<r.lv.toNat:=by omega
  have ja:tk.at k=tk.so[k]:=by unfold Tk.at;rw [List.getD_eq_getElem?_getD,Zc aL];rfl
  have hF:AV r tk k=if tk.so[k]=⟨#[]⟩ then ⟨#[]⟩ else if jX r (k:Nat) tk.de=⟨#[]⟩ then dash else jX r (k:Nat) tk.de:=by unfold AV;rw [ja]
  have mw:∀ u,AV r tk k=u->L.set k u=kL r tk (k+1):=fun u hu=>by rw [<- hu,hL];exact Hm VW
  have Jf:AV r tk k=jX r (k:Nat) tk.de->L=kL r tk (k+1):=fun hu=>by rw [hL,FG hu]
  generalize jX r (k:Nat) tk.de=ck at *;generalize tk.so[k]=sk at *
  (refine Jr<|JA I<|Jn<|Jq<|Jd I fun ar=>Jk<|Jq<|J0<|Jr<|Jv I<|ab (az (.of I) (.of I) Js (by omega) ar ba) I ?_;refine ab (ag (.of I) (At.base I8 I)) I ?_;refine Ja I<|Ja I<|Ji<|Jv I<|ab (eh (.of I) (.of I)) I ?_;refine Jn<|gl I (fun ar=>?_) fun ar=>?_;refine Jg<|Jv I<|Jv I<|ab (az (.of I) (.of I) I (by omega) (by omega) ba) I ?_;refine au (.of I) (.of I) .here I I (eF I) hle p1 ?_;refine Jx<|Jj<|Jt<|Jg<|JB I (by omega)<|Jv I<|Jn ?_;rotate_left;refine Jr<|Jv I<|Jv I<|ab (az (.of I) (.of I) I (by omega) (by omega) ba) I ?_;refine ab (ag (.of I) (At.lP .here c1)) I ?_;refine ab (eh (.of I) (.of I)) I ?_;refine Jn<|gl I (fun ar=>?_) fun ar=>?_;refine Jg<|Jv I<|Jv I<|ab (az (.of I) (.of I) I (by omega) (by omega) ba) I ?_;refine au (.of I) (.of I) .here I I (eF I) hle p2 ?_;refine Jx<|Jj<|Jt<|Jg<|JB I (by omega)<|Jv I<|Jn ?_;rotate_left;refine Jw<|Jj<|Jt<|Jg<|JB I (by omega)<|Jv I<|Jn ?_;rotate_right;rotate_right)
  ·rw [if_pos ar] at hF;rw [mw _ hF];apply aJ (k+1,kL r tk (k+1)) ⟨by show k+1<=_;omega,I⟩ (by show tk.so.length-(k+1)<tk.so.length-k;omega)
   case hs1=>exact cj
   case ht=>exact oA
  ·rw [if_neg (by assumption),if_pos ar] at hF;have hq:L.set k ⟨#[45]⟩=kL r tk (k+1):=mw _ hF;rw [hq];apply aJ (k+1,kL r tk (k+1)) ⟨by show k+1<=_;omega,I⟩ (by show tk.so.length-(k+1)<tk.so.length-k;omega)
   case hs1=>exact cj
   case ht=>exact oA
  ·rw [if_neg (by assumption),if_neg ar] at hF;apply aJ (k+1,L) ⟨by show k+1<=_;omega,Jf hF⟩ (by show tk.so.length-(k+1)<tk.so.length-k;omega)
   case hs1=>exact cj
   case ht=>exact oA
 ·have e:k=tk.so.length:=by omega
  subst e;have rW:L=(xh r tk).so:=by rw [hL,<- Ho];congr 1;omega
  (refine Jr<|JA I<|Jn<|Jq<|Jc I fun ar=>Jp<|Jl<|Jo<|Jt<|Jr<|bK I I ae ?_;refine JL I bT I<|Jv I<|ab (aT (.cons (.of I) (.cons (.of I) .nil)) an) I ?_;refine au (.of I) (.of I) (.there .here) I I (ie I I) (bF I) an ?_;refine Jn<|Je ?_)
  subst rW;have QY:(aM (xh r tk).so).length=r.lv.toNat*1:=by rw [dd,Gu,Nat.mul_one]
  refine dx (n:=r.lv.toNat) (xs:=aM (xh r tk).so) (cap:=cap) (g:=gb) (E:=9) (sz:=1) (by exact Take.there .here) tR uh iH QY ?_
  first | with_reducible apply aN | with_reducible apply aO
  case he=>exact kW I inferInstance I (.there .here) an (by rfl)
  case hR=>
   intro w' aq;exact aG (.slice (some ⟨gb,0,none⟩) r.lv.toNat cap) trivial (by exact .cons .here .nil) aq I
def LZ (W:List hP):a8:=jn 9 (W.map hP.v) (W.map fun y=>aM y.tk.so)
theorem LY:jn 9 [] []=LZ []:=rfl
theorem Ep (W:List hP) (y:hP):(jQ (W++[y])).flatten=(jQ W).flatten++[.string y.tk.de,y.v]:=by
 unfold jQ;simp [hP.cells]
theorem QH {kv:Value} {l:List hP} {g:Tk->Tk} {n:Nat} {f:FuncId} {first cap:List Value} [bU T_ f] {w:World} (h:Rd w kv 2 (jQ l)) (hM:xe w l) (hn:l.length<=1000) (hg:∀ x∈l,(g x.tk).so.length=n)
  (cn:∀ x∈l,∀ w',aD [] w w'->bh T_ f (first++[.agg x.cells.toArray]++cap) w' [] (fun _:Value=>True) (fun v=>.agg #[.string (g x.tk).de,v]) (fun v=>[row 9 1 v n (aM (g x.tk).so)])) :
  bh T_ 166 [kv,.func (.func f) first.toArray cap.toArray] w [] (fun x:Value×List hP=>dy x.2=(dy l).map g) (fun x=>x.1) (fun x=>[row 78 2 x.1 x.2.length (jQ x.2).flatten,LZ x.2]):=by
 obtain ⟨a,cp,b,o,rfl,c8,bV,ha,hc⟩:=h;rw [eX] at *;unfold maxLen at bV;refine aR func166 I I ?_;refine Jr<|Ja I<|Ji<|Ja I<|Jn<|Jq<|Jr<|Jv I<|JI I<|Jv I<|Jn<|J0 ?_;refine aP 78 2 ?_;refine jY 9 ?_
 refine aY (ι:=Nat×Value×List hP) (fun x=>x.1<=l.length/\dy x.2.2=(dy (l.take x.1)).map g) (fun x=>[(10,.int .i64 (x.1:Nat)),(9,.int .i64 (l.length:Nat)),(8,.slice a l.length cp),(5,x.2.1),(1,.func (.func f) first.toArray cap.toArray)])
  (fun x=>[row 78 2 x.2.1 x.2.2.length (jQ x.2.2).flatten,jn 9 (x.2.2.map hP.v) (x.2.2.map fun y=>aM y.tk.so)]) (fun x=>l.length-x.1) ?_ ?_
 ·apply aK (0,.slice none 0 0,[]) ⟨Zi _,I⟩
  case hs1=>exact cj
  case ht=>
   exact .cons (.there .here) (.cons .here .nil)
 rintro ⟨k,v,W⟩ ⟨hk,hW⟩;dsimp only at hk hW ⊢;have RG:W.length=k:=by
  have:=congrArg List.length hW;unfold dy at this;rw [Zd,Zd,Zd,List.length_take] at this;omega
 by_cases aL:k<l.length
 ·have cM:=ha (nr aL);have aF:=(hc k _ (kM aL)).2;have iH:=cn _ (Zj aL);have LD:=hg _ (Zj aL);have ir:=Rd.one (hM _ (Zj aL));have htk:(dy (l.take (k+1))).map g=(dy (l.take k)).map g++[g l[k].tk]:=by
   unfold dy;rw [List.take_succ_eq_append_getElem aL,List.map_append,List.map_append];rfl
  have tN:(jQ W).flatten.length=W.length*2:=by rw [fU (CQ W),eX]
  unfold hP.cells at aF iH;refine aW (E:=78) (sz:=2) (v:=v) (by exact .here) fun va vc e=>?_;subst e
  (refine Jr<|JA I<|Jn<|Jq<|Jd I fun ar=>Jk<|Jq<|J0<|Jr<|ab (gj cM ar) I ?_;refine ab (iI (eU.base aF I)) I ?_;refine Jz I I fun _ _=>au (.of I) (.of I) .here I I (ie I ir) (bF I) an ?_;refine Jn<|Jg<|Jv I<|Jv I<|ab (cr .here) I ?_)
  refine JN bN I (fun w1 aS=>iH w1 aS.keeps) ?_;intro hv _;dsimp only [id_eq,Zb,Za];refine aW (E:=9) (sz:=1) (v:=hv) (by exact .here) fun iT jL e=>?_;subst e;refine bb (bu (.cons (.of I) .nil) I I bW bW an) I (fun _ _=>?_);refine bE (.of I) (.of I) db .here an (by rfl) (ie I I) (by rfl) (by rfl) (by rfl) eV (by rfl) ?_;intro v';refine Ja I<|Jx<|Jj<|Jt<|Jg<|JB I (by omega)<|Jv I<|Jn ?_;have Xl:(aM (g l[k].tk).so).length=n:=by rw [dd,LD]
  with_reducible apply lg (E:=9) (vs:=W.map hP.v) (xs:=W.map fun y=>aM y.tk.so) (v:=.slice iT n jL) (x:=aM (g l[k].tk).so) (n:=n)
  case ht=>exact fg
  case ht2=>exact bT
  case hn=>exact Xl.symm
  case hl=>rw [Zd,Zd]
  case k=>
   apply aJ (k+1,v',W++[⟨g l[k].tk,.slice iT n jL⟩]) ⟨by show k+1<=_;omega,by
    show dy (W++[_])=_;unfold dy at hW htk ⊢;rw [List.map_append,hW];exact htk.symm⟩ (by show l.length-(k+1)<l.length-k;omega)
   case hs1=>exact cj
   case ht=>
    dsimp only;rw [Ep,Zg,List.map_append,List.map_append];simp only [List.map_cons,Zf,List.length_cons,List.length_nil,Nat.zero_add];exact .cons (.there .here) (.cons .here .nil)
 ·have e:k=l.length:=by omega
  rw [e,List.take_length] at hW;refine aW (E:=78) (sz:=2) (v:=v) (by exact .here) fun va vc e=>?_;subst e;refine Jr<|JA I<|Jn<|Jq<|Jc I fun ar=>Jp<|Jl<|Jo<|Jt<|Jr<|Jv I<|Ja I<|Jn<|Je ?_
  first | with_reducible apply aN | with_reducible apply aO
  case he=>exact dJ I I
  case hR=>
   intro w' aq;exact aG (.slice va W.length vc,W) hW (by exact .cons .here (.cons .here .nil)) aq I
def LX (r:Ro) (l:List Tk):List Tk:=if (jz r l).2.2≠0 then [] else l.map (xh r)
set_option maxHeartbeats 1000000 in
theorem Lc {r:Ro} {s d t p kv:Value} {l:List hP} {w:World} (h:RR w r s d t p) (cL:np r) (hw:Rd w kv 2 (jQ l)) (hM:xe w l) :
  bh T_ 47 [RA r s d t p,kv] w [] (fun x:Value×List hP=>dy x.2=LX r (dy l)) (fun x=>.tuple #[x.1,.int .i64 (jz r (dy l)).2.2]) (fun x=>[row 78 2 x.1 x.2.length (jQ x.2).flatten,LZ x.2]):=by
 obtain ⟨h1,h2,h3,h4⟩:=h.one;have VW:=Rd.one hw;unfold RA;refine aR func47 I I ?_
 (refine Jr<|Jy I I fun _ _=>Ja I<|Ja I<|Jn<|Jq<|Jr<|ab (cr .here) I ?_;refine Jv I ?_)
 rename_i b2 uh;refine JN aX I (fun w1 aS=>AJ (h.keeps aS.keeps) cL (hw.keeps aS.keeps) (hM.keeps aS.keeps)) ?_;have Gs:LX r (dy l)=if (jz r (dy l)).2.2≠0 then [] else (dy l).map (xh r):=rfl
 have Q3:(jz r (dy l)).2.2=0->gB r=0/\A7 r (dy l)=0:=fun h0=>by
  unfold jz at h0;by_cases c1:gB r=0
  ·rw [if_neg (not_not_intro c1)] at h0;by_cases c2:A7 r (dy l)=0
   ·exact ⟨c1,c2⟩
   ·rw [if_pos c2] at h0;exact absurd h0 c2
  ·rw [if_pos c1] at h0;exact absurd h0 c1
 by_cases AQ:(jz r (dy l)).2.2=0
 ·obtain ⟨AR,Ly⟩:=Q3 AQ;have dU:=Di AR;have hT:=(zv.1 Ly).2;have BZ:=dU.lim;have vS:=dU.len;rw [if_neg (not_not_intro AQ)] at Gs;rw [Gs];clear Gs Q3;generalize jz r (dy l)=R at *;obtain ⟨R,at_,e_⟩:=R;dsimp only at AQ;subst AQ;rintro ⟨s1,d1,t1,p1⟩ _;dsimp only;unfold RA;refine dW (r:=R) (s:=s1) (d:=d1) (t:=t1) (p:=p1) (bz _ _) fun k1 k2 k3 k4=>?_
  (refine Jv I<|JJ I I<|JJ I I<|JJ I I<|Jz I I fun _ _=>au (.of I) (.of I) .here I I (iS I I k1 k2 k3 k4) (bF I) an ?_;refine Ja I<|Ja I<|Ji<|Jv I<|JD I<|Jn<|Jc I fun ar=>Jk<|Jr<|Jv I<|ab (bo .nil (.cons (.of I) .nil)) I ?_)
  with_reducible apply jh
  case hr=>exact aX
  case hd=>rfl
  case ht=>exact bn.nil
  case hc=>
   intro w1 fp aS _ hs1;obtain rfl:fp=[]:=hs1;have hA:BR w1 b2 [.int .i64 r.lv,.int .i64 r.ma,s,d,t,p]:=BR.of aS fy;have hR:=h.keeps aS.keeps;have hK:=hM.keeps aS.keeps;have Up:=hT.DM;unfold dy at Up;rw [Zd] at Up;exact QH (f:=167) (first:=[]) (cap:=[.pointer (some ⟨b2,0,none⟩)]) (g:=xh r) (n:=r.lv.toNat) (hw.keeps aS.keeps) hK (by omega) (fun x _=>by unfold xh;simp) (fun x hx w2 eR=>P4 (hR.keeps eR) (hA.keeps eR) (by omega) (by omega) ((hK x hx).keeps eR) (hT.lv _ (List.mem_map_of_mem hx)))
  rintro ⟨v,W⟩ hW;dsimp only at hW ⊢;unfold LZ;dsimp only [Zb,Za];refine aW (E:=78) (sz:=2) (v:=v) (by exact .here) fun va vc e=>?_;subst e;refine Ja I<|Ja I<|Jn<|Je ?_
  first | with_reducible apply aN | with_reducible apply aO
  case he=>exact fW I I I
  case hR=>
   intro w' aq;exact aG (.slice va W.length vc,W) hW (by exact .cons .here (.cons .here .nil)) aq I
 ·rw [if_pos AQ] at Gs;rw [Gs];clear Gs Q3;generalize jz r (dy l)=R at *;obtain ⟨R,at_,e_⟩:=R;dsimp only at AQ;rintro ⟨s1,d1,t1,p1⟩ _;dsimp only;unfold RA;refine dW (r:=R) (s:=s1) (d:=d1) (t:=t1) (p:=p1) (bz _ _) fun k1 k2 k3 k4=>?_
  (refine Jv I<|JJ I I<|JJ I I<|JJ I I<|Jz I I fun _ _=>au (.of I) (.of I) .here I I (iS I I k1 k2 k3 k4) (bF I) an ?_;refine Ja I<|Ja I<|Ji<|Jv I<|JD I<|Jn<|Jd I fun ar=>Jr<|Jv I<|Ja I<|Ja I<|Jn<|Ju ?_)
  refine aP 78 2 ?_;refine jY 9 ?_;rw [LY]
  first | with_reducible apply aN | with_reducible apply aO
  case he=>exact fW I I I
  case hR=>
   intro w' aq;exact aG (.slice none 0 0,([]:List hP)) (show dy []=[] from I) (by exact .cons (.there .here) (.cons .here .nil)) aq I
def yz (r:Ro) (o:ByteArray):Int:=aV [gB r,tW r o]
def yy (r:Ro) (o:ByteArray) (q:Bool):Ro:=if yz r o≠0 then Ro.nil else r.Ib o q
theorem tb (l:List De):(l7 l).length=l.length*3:=by unfold l7;rw [fU (DP l),bZ]
theorem R4 (l:List De) (cur:List Value) {k:Nat} (h:k<l.length) (q:Bool):setCells (l7 l++cur) (k*3+2) [.bool q]=l7 (l.modify k fun x=>⟨x.nm,x.mx,q⟩)++cur:=by
 rw [qw _ _ _ (by rw [Zg,tb];omega),List.set_append_left _ _ (by rw [tb];omega)];congr 1;have e:l=l.take k++l[k]::l.drop (k+1):=by rw [<- List.drop_eq_getElem_cons h,List.take_append_drop]
 have hm:l.modify k (fun x=>⟨x.nm,x.mx,q⟩)=l.take k++⟨l[k].nm,l[k].mx,q⟩::l.drop (k+1):=by
  rw [List.modify_eq_take_cons_drop h]
 have ht:(l7 (l.take k)).length=k*3:=by rw [tb,List.length_take,Nat.min_eq_left (by omega)]
 have hs:∀ (a:List De) (x:De) (b:List De),l7 (a++x::b)=l7 a++(x.cells++l7 b):=fun a x b=>by unfold l7 wq;simp
 rw [hm,hs]
 conv=>lhs;rw [e,hs]
 rw [List.set_append_right _ _ (by omega),ht,Nat.add_sub_cancel_left]
 rfl
set_option maxHeartbeats 1000000 in
theorem Cs {r:Ro} {s d t p:Value} (o:ByteArray) (q:Bool) {w:World} (h:RR w r s d t p) (cL:np r) :
  bh T_ 78 [RA r s d t p,.string o,.bool q] w [] (fun _:Value×Value×Value×Value=>True) (fun x=>.tuple #[RA (yy r o q) x.1 x.2.1 x.2.2.1 x.2.2.2,.int .i64 (yz r o)]) (fun x=>uw (yy r o q) x):=by
 obtain ⟨h1,h2,h3,h4⟩:=h.one;have jk:∀ w',aD [] w w'->aj T_ 34 [.agg #[.int .i64 r.lv,.int .i64 r.ma,s,d,t,p]] w' (.int .i64 (gB r)):=fun w' hk=>eN (h.keeps hk) cL
 have lM:∀ w',aD [] w w'->aj T_ 112 [.agg #[.int .i64 r.lv,.int .i64 r.ma,s,d,t,p],.string o] w' (.int .i64 (tW r o)):=fun w' hk=>eG o (h.keeps hk)
 unfold RA;refine aR func78 I I ?_;refine Jr<|Jy I I fun _ _=>Jz I I fun _ _=>Ja I<|Jn<|Jq<|Jq ?_;rename_i b3 tQ b6 hb6
 with_reducible refine cC 6 (by kernel_rfl) ?_
 (refine ak (cr (.there .here)) I ?_;refine aQ bN I (fun w' aq=>(jk w' (Mem.keeps aq))) ?_;refine ak (cr (.there .here)) I ?_;refine ak jP I ?_;refine aQ aX I (fun w' aq=>(lM w' (Mem.keeps aq))) ?_;refine dX (aB (.cons (.of I) (.cons (.of I) .nil)) I I I I) I I ?_)
 with_reducible refine cY I fun bq mA=>?_
 (refine ai bN I (fun w' aq=>(dF (Mem.df aq .here I I) (bQ.cons (bQ.cons bQ.nil)))) ?_;refine Ja I<|Ji<|Jv I<|JD I<|Jn<|gl I (fun ar=>?_) fun ar=>?_;refine Jr<|ab (aT .nil an) I ?_;refine Jv I<|au (.of I) (.of I) (.there .here) I I (iS I I I I I I) (bF I) an ?_;refine Ja I<|Jn<|Ju ?_;rotate_left;refine Jk<|Jr<|ab (cr bT) I ?_;rotate_right)
 ·have e1:yy r o q=Ro.nil:=if_pos ar;have e2:yz r o=aV [gB r,tW r o]:=rfl;rw [e1,e2];refine aP 186 2 ?_;refine aP 90 3 ?_;refine aP 187 3 ?_;refine aP 188 3 ?_
  first | with_reducible apply aN | with_reducible apply aO
  case he=>exact sY I inferInstance I fg an (by rfl) (by rfl)
  case hR=>
   intro w' aq;exact aG (.slice none 0 0,.slice none 0 0,.slice none 0 0,.slice none 0 0) trivial (by exact .cons db (.cons bT (.cons (.there .here) (.cons .here .nil)))) aq I
 have e0:aV [gB r,tW r o]=0:=Decidable.not_not.1 ar;have e1:yy r o q=r.Ib o q:=if_neg ar;have e2:yz r o=0:=e0;have AR:gB r=0:=bI.1 e0 _ List.mem_cons_self;have SI:o∈cz r:=by
  have:=(bD (by decide)).1 (bI.1 e0 (tW r o) (by simp));rwa [decide_eq_false_iff_not,cq,Classical.not_not] at this
 have dU:=Di AR;have hf:=pF dU dU.val;rw [e1,e2];refine JN bN I (fun w1 aS=>zT (h.keeps aS.keeps) cL (by omega)) ?_;intro y _;dsimp only [id_eq,Zb,Za];obtain ⟨s1,d1,t1,p1⟩:=y;dsimp only;unfold RA PB;refine dW (r:=r) (s:=s1) (d:=d1) (t:=t1) (p:=p1) (by unfold uw PB;exact .cons .here (.cons .here (.cons .here (.cons .here .nil)))) fun k1 k2 k3 k4=>?_
 (refine Jz I I fun _ _=>au (.of I) (.of I) .here I I (iS I I k1 k2 k3 k4) (bF I) an ?_;refine Jn<|Jq ?_)
 rename_i b9 ZE;obtain ⟨j0,tM⟩:∃ i:Nat,bd (cz r) o=(i:Nat):=⟨(bd (cz r) o).toNat,by have:=di SI;omega⟩;have xz:j0<r.de.length:=by
  obtain ⟨hl,_⟩:=eD (l:=cz r) (s:=o) (by omega);rw [tM,Int.toNat_natCast] at hl;unfold cz at hl;rwa [Zd] at hl
 have hdd:∀ w',aD [] w w'->aj T_ 155 [.agg #[.int .i64 r.lv,.int .i64 r.ma,s,d,t,p],.string o] w' (.int .i64 (j0:Nat)):=fun w' hk=>tM ▸ fw o (h.keeps hk)
 refine c7 (E:=90) (sz:=3) (v:=d1) bT (by omega) fun gd cap cur e XU XT V4 hg4=>?_;subst e;have p0:=R4 r.de cur xz q;have hle:j0*3+2+1<=(l7 r.de++cur).length:=by rw [Zg,tb];omega
 with_reducible refine cW 8 (by kernel_rfl) ?_
 (refine mG I I ae ?_;refine aA (gD (.there .here)) I ?_;refine aA (cr Cu) I ?_;refine iv I I ?_;refine c6 aX I (fun w' aq=>(hdd w' (Mem.keeps aq))) ?_;refine iv I I ?_;refine aA (az (.of I) (.of I) I (by omega) (by omega) ba) I ?_;refine mG I I ae ?_)
 with_reducible refine cZ ?_
 (refine au (.of I) (.of I) .here I I (eF I) hle p0 ?_;refine Ji<|ab (cr (.there .here)) I ?_;refine au (.of I) (.of I) re I I (iS I I k1 I k3 k4) (bF I) an ?_;refine Ja I<|Jn<|Je ?_)
 have hpr:r.Ib o q=⟨r.lv,r.ma,r.sr,r.de.modify j0 fun x=>⟨x.nm,x.mx,q⟩,r.ti,r.po⟩:=by unfold Ro.Ib;rw [tM,Int.toNat_natCast]
 have Xy:(r.de.modify j0 fun x=>(⟨x.nm,x.mx,q⟩:De)).length=r.de.length:=List.length_modify _ _ _
 rw [hpr];generalize (r.de.modify j0 fun x=>(⟨x.nm,x.mx,q⟩:De))=D' at *
 have XS:(l7 D'++cur).length=cap*3:=by rw [Zg,tb] at V4 ⊢;rw [Xy];exact V4
 refine dx (n:=r.de.length) (xs:=l7 D') (cap:=cap) (g:=gd) (E:=90) (sz:=3) (by exact Take.there .here) XU XT XS (by rw [tb,Xy]) ?_
 first | with_reducible apply aN | with_reducible apply aO
 case he=>exact sY I inferInstance I (.there .here) an (by rfl) (by rfl)
 case hR=>
  intro w' aq;exact aG (s1,.slice (some ⟨gd,0,none⟩) r.de.length cap,t1,p1) trivial (show bn _ [J1 r s1,row 90 3 (.slice (some ⟨gd,0,none⟩) r.de.length cap) D'.length (l7 D'),J3 r t1,J4 r p1] _ by rw [Xy];exact .cons db (.cons .here (.cons bT (.cons bT .nil)))) aq I
structure qq where
 fr:Int
 tk:List hP
 v:Value
def qq.cells (x:qq):List Value:=[.int .i64 x.fr,x.v]
def tx (l:List qq):List (List Value):=l.map qq.cells
theorem lj (l:List qq):(tx l).length=l.length:=by simp [tx]
theorem zY {l:List qq} {k:Nat} (h:k<l.length):(tx l)[k]? = some (l[k]).cells:=by simp [tx,h]
theorem Dk {l:List qq} {k:Nat} (h:k<l.length):tx l≠[]:=by intro e;have:=congrArg List.length e;rw [lj] at this;simp at this;subst this;simp at h
def G5 (w:World) (l:List qq):Prop:=∀ x∈l,Rd w x.v 2 (jQ x.tk)/\xe w x.tk
theorem G5.keeps {w w':World} {l:List qq} (h:G5 w l) (hk:aD [] w w'):G5 w' l:=fun x hx=>⟨(h x hx).1.keeps hk,(h x hx).2.keeps hk⟩
def eC (l:List qq):List Od:=l.map fun x=>⟨x.fr,dy x.tk⟩
theorem uJ (l:List qq):(eC l).length=l.length:=Zd _
theorem BD {l:List qq} {k:Nat} (h:k<l.length):(eC l).getD k Od.zero=⟨l[k].fr,dy l[k].tk⟩:=by
 unfold eC;rw [List.getD_eq_getElem?_getD,List.getElem?_map,Zc h];rfl
theorem Nk {lv:Value} {l:List qq} {p:qq->Bool} {f:FuncId} {first cap:List Value} [bU T_ f] {w:World} (h:Rd w lv 2 (tx l)) (cn:∀ x∈l,∀ w',aD [] w w'->aj T_ f (first++[.agg x.cells.toArray]++cap) w' (.bool (p x))) :
  aj T_ 173 [lv,.func (.func f) first.toArray cap.toArray] w (.int .i64 (ia p l)):=by
 obtain ⟨a,cp,b,o,rfl,c8,bV,ha,hc⟩:=h;rw [lj] at *;unfold maxLen at bV;refine ah func173 I I ?_;refine Jr<|Ja I<|Jn<|Jq<|Jr<|Jv I<|JI I<|Jv I<|Jn<|J0 ?_;refine aY (fun k:Nat=>k<=l.length/\∀ i,i<k->(l[i]?.map p).getD false=false) (fun k=>[(8,.int .i64 k),(7,.int .i64 l.length),(0,.slice a l.length cp),(1,.func (.func f) first.toArray cap.toArray)]) (fun _=>[]) (fun k=>l.length-k) ?_ ?_
 ·apply aK 0 ⟨Zi _,fun i h=>by omega⟩
  case hs1=>exact cj
  case ht=>(try simp only [Ze,Zf,Za]);exact .nil
 rintro k ⟨hk,hf⟩;by_cases aL:k<l.length
 ·have cM:=ha (Dk aL);have aF:=(hc k _ (zY aL)).2;have iH:=cn _ (Zj aL);have hps:(l[k]?.map p).getD false=p l[k]:=by simp [aL]
  unfold qq.cells at aF iH
  (refine Jr<|JA I<|Jn<|Jq<|Jd I fun ar=>Jk<|Jq<|J0<|Jr<|Jv I<|Ja I<|Ji<|Jv I<|Jv I<|Jv I<|ab (gj cM ar) I ?_;refine ab (iI (eU.base aF I)) I ?_;refine ai bN I (fun w' aq=>(iH w' (Mem.keeps aq))) ?_;refine Jn<|oz I (fun ar=>?_) fun ar=>?_;refine Jr<|Jv I<|Ja I<|Jn<|Je<|Jm<|Jh<|Jh<|Jm<|Jh<|JT ?_;rotate_left;refine Jw<|Jj<|Jt<|Jg<|JB I (by omega)<|Jv I<|Jn ?_;rotate_right)
  ·rw [gP hf aL ar]
  ·apply aJ (k+1) ⟨by omega,fun i hi=>by
    by_cases e:i=k
    ·rw [e,hps];exact ar
    ·exact hf i (by omega)⟩ (by omega)
   case hs1=>exact cj
   case ht=>(try simp only [Ze,Zf,Za]);exact .nil
 ·obtain rfl:k=l.length:=by omega
  refine Jr<|JA I<|Jn<|Jq<|Jc I fun ar=>Jp<|Jl<|Jo<|Jt<|Jr<|Ja I<|Jn<|Je<|JT ?_;rw [fO hf]
theorem Ms {x:qq} {f:Int} {b:Nat} {w:World} (f1:w.cell? ⟨b,0,none⟩=some (.int .i64 f)):aj T_ 174 [.agg x.cells.toArray,.pointer (some ⟨b,0,none⟩)] w (.bool (decide (f<x.fr))):=by
 unfold qq.cells;refine ah func174 I I ?_
 (refine Jr<|Jy I I fun _ _=>Ja I<|Ji<|bK I I ae ?_;refine JL I .here I<|ab (ag (.of I) (At.base f1 I)) I ?_;refine JE I<|Ja I<|Jn<|Je<|JT ?_)
 rfl
def MS (r:Ro) (l:List Od):Int:=if gB r≠0 then gB r else VB r l
def Sx (r:Ro) (l:List Od):Int:=aV [gB r,bG (decide ((16:Int)<(l.length:Nat))) 5]
theorem Qw (r:Ro) (l:List Od):MS r l=if Sx r l≠0 then Sx r l else jq (Lt r l) l.length:=by
 unfold MS Sx VB;by_cases h1:gB r=0
 ·rw [if_neg (not_not_intro h1)];by_cases h2:(16:Int)<(l.length:Nat)
  ·rw [if_pos h2,if_pos (by rw [h1,decide_eq_true h2];decide),h1,decide_eq_true h2];rfl
  ·rw [if_neg h2,if_neg (by rw [h1,decide_eq_false h2];decide)]
 ·have:aV [gB r,bG (decide ((16:Int)<(l.length:Nat))) 5]=gB r:=by unfold aV;rw [if_pos h1]
  rw [if_pos h1,this,if_pos h1]
def IF (l:List qq) (k:Nat):Int:=if k=0 then -1 else ((eC l).getD (k-1) Od.zero).fr
theorem QC {r:Ro} {l:List qq} {k:Nat} (h:k<l.length):Lt r (eC l) k=aV [gH l[k].fr 0 10000000,bG (decide (l[k].fr<=IF l k)) 11,A7 r (dy l[k].tk)]:=by
 unfold Lt IF;have:(eC l)[k]? = some ⟨l[k].fr,dy l[k].tk⟩:=by unfold eC;rw [List.getElem?_map,Zc h];rfl
 rw [this];rfl
theorem Ga {l:List qq} {k:Nat} (h:k<l.length):IF l (k+1)=l[k].fr:=by
 unfold IF;rw [if_neg (by omega),Nat.add_sub_cancel,BD h]
set_option maxHeartbeats 1000000 in
theorem xJ {r:Ro} {s d t p kv:Value} {l:List qq} {w:World} (h:RR w r s d t p) (cL:np r) (hw:Rd w kv 2 (tx l)) (hM:G5 w l) :
  aj T_ 171 [RA r s d t p,kv] w (.int .i64 (MS r (eC l))):=by
 obtain ⟨h1,h2,h3,h4⟩:=h.one;obtain ⟨aw,cw,bw,ow,rfl,Kc,vR,Ph,B2⟩:=hw;rw [lj] at *;unfold maxLen at vR;have rT:=uJ l;have jk:∀ w',aD [] w w'->aj T_ 34 [.agg #[.int .i64 r.lv,.int .i64 r.ma,s,d,t,p]] w' (.int .i64 (gB r)):=fun w' hk=>eN (h.keeps hk) cL
 have hX:=Qw r (eC l);have hA:Sx r (eC l)=aV [gB r,bG (decide ((16:Int)<(l.length:Nat))) 5]:=by unfold Sx;rw [rT]
 unfold RA;refine ah func171 I I ?_
 (refine Jr<|Jy I I fun _ _=>Ja I<|Jn<|Jq<|Jr<|ab (cr .here) I ?_;refine ai bN I (fun w' aq=>(jk w' (Mem.keeps aq))) ?_;refine Jv I<|JI I<|JE I<|ai aX I (fun w' aq=>(dP _ 5 w')) ?_;refine bb (aB (.cons (.of I) (.cons (.of I) .nil)) I I I I) I fun _ _=>?_;refine ai bN I (fun w' aq=>(dF (Mem.df aq .here I I) (bQ.cons (bQ.cons bQ.nil)))) ?_;refine Ja I<|Ji<|Jv I<|JD I<|Jn<|gl I (fun ar=>?_) fun ar=>?_;refine Jr<|Jv I<|Ja I<|Jn<|Ju<|JT ?_;rotate_left;refine Jk<|Jr<|Ja I<|Jn<|Jq<|Jr<|Jv I<|JI I<|Jv I<|Jn<|J0 ?_;rotate_right)
 ·rw [hX,hA,if_pos ar]
 have G1:Sx r (eC l)=0:=by rw [hA];exact Decidable.not_not.1 ar
 rw [if_neg (not_not_intro G1),rT] at hX;clear ar;rename_i b2 uh bq mA
 refine aY (fun k:Nat=>k<=l.length/\∀ i,i<k->Lt r (eC l) i=0) (fun k=>[(23,.int .i64 (k:Nat)),(22,.int .i64 (l.length:Nat)),(21,.slice aw l.length cw),(6,.int .i64 (IF l k)),(2,.pointer (some ⟨b2,0,none⟩))])
  (fun k=>[JP b2 r s d t p]) (fun k=>l.length-k) ?_ ?_
 ·apply aK 0 ⟨Zi _,fun i hi=>by omega⟩
  case hs1=>exact cj
  case ht=>(try simp only [Ze,Zf,Za]);exact .cons (.there .here) .nil
 rintro k ⟨hk,hf⟩;by_cases aL:k<l.length
 ·have Ak:=Ph (Dk aL);have aF:=(B2 k _ (zY aL)).2;unfold qq.cells at aF;have hx:=hM _ (Zj aL);have ja:=QC (r:=r) aL;have vS:=Ga aL;generalize l[k]=x at aF hx ja vS ⊢;obtain ⟨xf,xt,xv⟩:=x;dsimp only at aF hx ja vS ⊢;have ir:=Rd.one hx.1;have htk:∀ w',aD [] w w'->aj T_ 164 [.agg #[.int .i64 r.lv,.int .i64 r.ma,s,d,t,p],xv] w' (.int .i64 (A7 r (dy xt))):=fun w' hk=>r9 (h.keeps hk) (hx.1.keeps hk) (hx.2.keeps hk)
  (refine Jr<|JA I<|Jn<|Jq<|Jd I fun ar=>Jk<|Jq<|J0<|Jr<|ab (az (.of I) (.of I) Ak (by omega) ar ba) I ?_;refine ab (iI (eU.base aF I)) I ?_;refine Jz I I fun _ _=>au (.of I) (.of I) .here I I (ie I ir) (bF I) an ?_;refine Jn<|Jq<|Jq ?_)
  with_reducible refine cC 13 (by kernel_rfl) ?_
  (refine ak kA I ?_;refine ak (gD .here) I ?_;refine aQ dH I (fun w' aq=>(mI xf 0 10000000 w')) ?_;refine ak kA I ?_;refine ak (gD .here) I ?_;refine ak jP I ?_;refine ak (lh (.of I) (.of I)) I ?_;refine aQ aX I (fun w' aq=>(dP _ 11 w')) ?_;refine ak (cr (.there .here)) I ?_;refine ak kA I ?_;refine ak (gD .here) I ?_;refine aQ aX I (fun w' aq=>(htk w' (Mem.keeps aq))) ?_;refine dX (aB (.cons (.of I) (.cons (.of I) (.cons (.of I) .nil))) I I I I) I I ?_)
  with_reducible refine cY I fun b55 Ye=>?_
  (refine ai bN I (fun w' aq=>(dF (Mem.df aq .here I I) (bQ.cons (bQ.cons (bQ.cons bQ.nil))))) ?_;refine Ja I<|Ji<|Jv I<|JD I<|Jn<|gl I (fun ar=>?_) fun ar=>?_;refine Jr<|Jv I<|Ja I<|Jn<|Ju<|Jm<|Jh<|Jh<|Jm<|Jh<|JT ?_;rotate_left;refine Jk<|Jg<|bK I I ae ?_;refine JL I (.there .here) I<|Ja I<|Jx<|Jj<|Jt<|Jg<|JB I (by omega)<|Jv I<|Jn ?_;rotate_right)
  ·rw [<- ja] at ar ⊢;have hB:jq (Lt r (eC l)) l.length=Lt r (eC l) k:=eS hf aL ar;rw [hX,hB]
  have hz:Lt r (eC l) k=0:=by rw [ja];exact Decidable.not_not.1 ar
  rw [<- vS];apply aJ (k+1) ⟨by omega,fun i hi=>by
   by_cases e:i=k
   ·rw [e];exact hz
   ·exact hf i (by omega)⟩ (by omega)
  case hs1=>exact cj
  case ht=>(try simp only [Ze,Zf,Za]);exact .cons bT .nil
 ·obtain rfl:k=l.length:=by omega
  have RM:jq (Lt r (eC l)) l.length=0:=dN.2 hf;refine Jr<|JA I<|Jn<|Jq<|Jc I fun ar=>Jp<|Jl<|Jo<|Jt<|Jr<|Ja I<|Jn<|Je<|JT ?_;rw [hX,RM]
set_option maxHeartbeats 2000000 in
theorem OO {r:Ro} {s d t p kv:Value} {l:List qq} {w:World} (h:RR w r s d t p) (AR:gB r=0) (hw:Rd w kv 2 (tx l)) (hM:G5 w l) (hO:Oz r (eC l)) :
  bh T_ 172 [RA r s d t p,kv] w [] (fun _:Value×Value×Value×Value=>True) (fun x=>.tuple #[RA (iV r (eC l)).1 x.1 x.2.1 x.2.2.1 x.2.2.2,.int .i64 (iV r (eC l)).2.1,.int .i64 (iV r (eC l)).2.2]) (fun x=>uw (iV r (eC l)).1 x):=by
 have dU:=Di AR;have BZ:=dU.lim;have vS:=dU.len;have cL:np r:=by unfold np;omega
 have V5:=pF dU dU.val;have hlf:=hO.DM;rw [uJ] at hlf;have rT:=uJ l;obtain ⟨h1,h2,h3,h4⟩:=h.one;obtain ⟨a,cp,b,o,rfl,c8,bV,ha,hc⟩:=hw;rw [lj] at *;unfold maxLen at bV;have hX:iV r (eC l)=if jq (BB r (eC l)) l.length=0 then (OL r (eC l) l.length,0,0) else (Ro.nil,((Ou (BB r (eC l)) l.length:Nat):Int),jq (BB r (eC l)) l.length):=by unfold iV;rw [rT]
 unfold RA;refine aR func172 I I ?_;refine Jr<|Jy I I fun _ _=>Jz I I fun _ _=>Ja I<|Ja I<|Ji<|ab (cr (.there .here)) I ?_;rename_i b2 uh b4 uQ;refine JN bN I (fun w1 aS=>zT (h.keeps aS.keeps) cL (by omega)) ?_;intro y _;dsimp only [id_eq,Zb,Za];obtain ⟨s1,d1,t1,p1⟩:=y;dsimp only;unfold RA PB;refine dW (r:=r) (s:=s1) (d:=d1) (t:=t1) (p:=p1) (by unfold uw PB;exact .cons .here (.cons .here (.cons .here (.cons .here .nil)))) fun k1 k2 k3 k4=>?_
 (refine Jz I I fun _ _=>au (.of I) (.of I) .here I I (iS I I k1 k2 k3 k4) (bF I) an ?_;refine Jn<|Jq<|Jr<|Jv I<|JI I<|Jv I<|Jn<|J0 ?_)
 rename_i b7 UE
 refine aY (ι:=Nat×(Value×Value×Value×Value)×List Po) (fun y=>y.1<=l.length/\Le r (eC l) y.1 y.2.2/\(∀ j,j<y.1->BB r (eC l) j=0)/\y.2.1.1.oneCell'=true/\y.2.1.2.1.oneCell'=true/\y.2.1.2.2.1.oneCell'=true/\y.2.1.2.2.2.oneCell'=true) (fun y=>[(17,.int .i64 (y.1:Nat)),(16,.int .i64 (l.length:Nat)),(15,.slice a l.length cp),(7,.pointer (some ⟨b7,0,none⟩)),(4,.pointer (some ⟨b4,0,none⟩))])
  (fun y=>[JP b7 r (y.2.1.1) (y.2.1.2.1) (y.2.1.2.2.1) (y.2.1.2.2.2),J1 r y.2.1.1,J2 r y.2.1.2.1,J3 r y.2.1.2.2.1,row 188 3 y.2.1.2.2.2 y.2.2.length (jC y.2.2),bC b4 (.cells #[.int .i64 0,.int .i64 0,.slice none 0 0,.slice none 0 0,.slice none 0 0,.slice none 0 0] 41 (0,0))]) (fun y=>l.length-y.1) ?_ ?_
 ·apply aK (0,(s1,d1,t1,p1),r.po) ⟨Zi _,⟨I,dU.val⟩,fun j hj=>absurd hj (Nat.not_lt_zero j),k1,k2,k3,k4⟩
  case hs1=>exact cj
  case ht=>exact oA
 clear k1 k2 k3 k4 s1 d1 t1 p1;rintro ⟨i,⟨s1,d1,t1,p1⟩,q⟩ ⟨hi,RJ,NF,k1,k2,k3,k4⟩;dsimp only at hi RJ NF k1 k2 k3 k4 ⊢;have hqf:=pF dU RJ.val;by_cases aL:i<l.length
 ·have cM:=ha (Dk aL);have aF:=(hc i _ (zY aL)).2;have jT:=Zj aL;have hx:=hM _ jT;have kG:i<(eC l).length:=by omega
  have O9:=BD aL;have hti:=hO.tk i kG;have V3:(eC l)[i].tk=dy l[i].tk:=by
   rw [List.getD_eq_getElem?_getD,Zc kG,Option.getD_some] at O9;rw [O9]
  rw [V3] at hti;have JO:BB r (eC l) i=(lK (r.wp q) (dy l[i].tk)).2.2:=by unfold BB;rw [RJ.eq,O9]
  have a7:OL r (eC l) (i+1)=(lK (r.wp q) (dy l[i].tk)).1:=by rw [OL,RJ.eq,O9]
  have kl:=fun h0=>RJ.next AR hO kG h0
  unfold qq.cells at aF;generalize l[i]=x at *;obtain ⟨xf,xt,xv⟩:=x;dsimp only at *;have ir:=Rd.one hx.1
  (refine Jr<|JA I<|Jn<|Jq<|Jd I fun ar=>Jk<|Jq<|J0<|Jr<|Jv I<|ab (gj cM ar) I ?_;refine ab (iI (eU.base aF I)) I ?_;refine Jz I I fun _ _=>Ja I<|au (.of I) (.of I) .here I I (ie I ir) (bF I) an ?_;refine Ji<|ab (cr (.there .here)) I ?_;refine bK I I ae ?_;refine JL I .here I ?_)
  refine JN aX I (fun w1 aS=>Eu (r:=r.wp q) (RR.wp (du aS bT I) (dw aS db I) (dq aS fg I) (cX aS fy I)) (dU.wp RJ.val) (by show q.length<=500;omega) (hx.1.keeps aS.keeps) (hx.2.keeps aS.keeps) (hti.wp q)) ?_;have jS:∀ q',lK (r.wp q) (dy xt)=(r.wp q',0,0)->True:=fun _ _=>trivial
  generalize lK (r.wp q) (dy xt)=R at *;obtain ⟨R,at_,e_⟩:=R;rintro ⟨s2,d2,t2,p2⟩ _;dsimp only at JO a7 ⊢;unfold RA;refine dW (r:=R) (s:=s2) (d:=d2) (t:=t2) (p:=p2) (bz _ _) fun m1 m2 m3 m4=>?_;clear jS
  (refine Jv I<|JJ I I<|JJ I I<|JJ I I<|Jz I I fun _ _=>au (.of I) (.of I) .here I I (iS I I m1 m2 m3 m4) (bF I) an ?_;refine Ja I<|Ja I<|Jn<|Jq<|Jr<|Jv I<|JD I<|Jn<|gl I (fun ar=>?_) fun ar=>?_;refine Jr<|ab (aT .nil an) I ?_;refine Jv I<|Jv I<|au (.of I) (.of I) Cw I I (iS I I I I I I) (bF I) an ?_;refine Ja I<|Ja I<|Jn<|Ju<|Jm<|Jh<|Jh<|Jm<|Jh ?_;rotate_left;refine Jk<|Jg<|ab (cr .here) I ?_;refine au (.of I) (.of I) re I I (iS I I m1 m2 m3 m4) (bF I) an ?_;refine Jx<|Jj<|Jt<|Jg<|JB I (by omega)<|Jv I<|Jn ?_;rotate_right)
  ·have hne:BB r (eC l) i≠0:=by rw [JO];exact ar
   have hE:jq (BB r (eC l)) l.length=e_:=(eS NF aL hne).trans JO;have e4:iV r (eC l)=(Ro.nil,((i:Nat):Int),e_):=by rw [hX,hE,if_neg ar,Ot NF aL hne]
   rw [e4];dsimp only;refine aP 186 2 ?_;refine aP 90 3 ?_;refine aP 187 3 ?_;refine aP 188 3 ?_
   first | with_reducible apply aN | with_reducible apply aO
   case he=>exact l6 I inferInstance I fg an (by rfl) (by rfl) (by rfl)
   case hR=>
    intro w' aq;exact aG (.slice none 0 0,.slice none 0 0,.slice none 0 0,.slice none 0 0) trivial (by exact .cons db (.cons bT (.cons (.there .here) (.cons .here .nil)))) aq I
  have hz:e_=0:=Decidable.not_not.1 ar;have Y9:BB r (eC l) i=0:=JO.trans hz;obtain ⟨q',tJ,_⟩:=kl Y9;have UK:R=r.wp q':=a7.symm.trans tJ.eq;subst UK;apply aJ (i+1,(s2,d2,t2,p2),q') ⟨by show i+1<=_;omega,tJ,fun j hj=>by
   by_cases e:j=i
   ·rw [e];exact Y9
   ·exact NF j (by have:j<i+1:=hj;omega),m1,m2,m3,m4⟩ (by show l.length-(i+1)<l.length-i;omega)
  case hs1=>exact cj
  case ht=>
   dsimp only;have w1:(r.wp q').lv=r.lv:=rfl;have w2:(r.wp q').ma=r.ma:=rfl;have w3:(r.wp q').sr=r.sr:=rfl;have w4:(r.wp q').de=r.de:=rfl;have w5:(r.wp q').ti=r.ti:=rfl;have w6:(r.wp q').po=q':=rfl
   try unfold J1 J2 J3
   try unfold J4
   rw [w1,w2,w3,w4,w5,w6];exact .cons .here (.cons (.there .here) (.cons (.there .here) (.cons (.there .here) (.cons (.there .here) (.cons re .nil)))))
 ·have e:i=l.length:=by omega
  subst e
  (refine Jr<|JA I<|Jn<|Jq<|Jc I fun ar=>Jp<|Jl<|Jo<|Jt<|Jr<|ab (cr .here) I ?_;refine au (.of I) (.of I) fy I I (iS I I k1 k2 k3 k4) (bF I) an ?_;refine Ja I<|Ja I<|Jn<|Je ?_)
  have hE:jq (BB r (eC l)) l.length=0:=dN.2 NF;have e4:iV r (eC l)=(r.wp q,0,0):=by rw [hX,hE,if_pos I,RJ.eq]
  rw [e4];dsimp only
  first | with_reducible apply aN | with_reducible apply aO
  case he=>exact l6 I inferInstance I .here an (by rfl) (by rfl) (by rfl)
  case hR=>
   intro w' aq;exact aG (s1,d1,t1,p1) trivial (by exact .cons bT (.cons bT (.cons bT (.cons bT .nil)))) aq I
theorem Qv {r:Ro} {l:List Od} (h:MS r l=0):gB r=0/\Oz r l:=by
 unfold MS at h;by_cases c:gB r=0
 ·rw [if_neg (not_not_intro c)] at h;exact ⟨c,ods h⟩
 ·rw [if_pos c] at h;exact absurd h c
end Go.Proofs.A1
namespace Go.SL
open Go
def zM (l:List Oper) (m:Nat) (p:List Nat):Bool:=
 l.all mu&&uo l 0&&kQ l.toArray (l.take m) 0&&(List.range' m (l.length-m)).all (fun k=>(List.range m).all fun i=>p.any (Nat.beq i)||((iz l []).getD k 0).testBit i)&&Nat.ble m l.length
structure FC (l:List Oper) (m:Nat) (p:List Nat):Prop where
 op:∀ o∈l,mu o=true
 ac:uo l 0=true
 BA:kQ l.toArray (l.take m) 0=true
 tail:∀ k,m<=k->k<l.length->∀ i,i<m->i ∉ p->((iz l []).getD k 0).testBit i=true
 le:m<=l.length
theorem zL {l:List Oper} {m:Nat} {p:List Nat} (h:zM l m p=true):FC l m p:=by
 simp only [zM,Bool.and_eq_true,List.all_eq_true] at h;obtain ⟨⟨⟨⟨h1,h2⟩,h3⟩,h5⟩,h6⟩:=h;refine ⟨h1,h2,h3,fun k hk aL i hi hne=>?_,by simpa using h6⟩;have:=h5 k (List.mem_range'_1.2 ⟨hk,by omega⟩) i (List.mem_range.2 hi);rw [Bool.or_eq_true] at this;refine this.resolve_left fun h=>hne ?_;obtain ⟨x,hx,hxe⟩:=List.any_eq_true.1 h;rw [Nat.eq_of_beq_eq_true hxe];exact hx
theorem pS {l:List Oper} {m:Nat} {p:List Nat} (hc:FC l m p) {i j:Nat} {x y:Oper} (yR:i<j) (hj:j<m) (hx:l[i]? = some x) (hy:l[j]? = some y):qM l.toArray x y i=true:=by
 have:=nw hc.BA (i:=i) (j:=j) yR (by rw [List.getElem?_take,if_pos (by omega)];exact hx) (by rw [List.getElem?_take,if_pos hj];exact hy);simpa using this
theorem zN {l:List Oper} {m:Nat} {p:List Nat} (hc:FC l m p) {listed:Array Bool} (hsz:listed.size=l.length) (xC:DC l (Ls listed)) {i:Nat} (hi:i∈Region.ready .any l.toArray listed) (hm:m<=i):∀ j,j<m->j ∉ p->Ls listed j:=by
 intro j hj XG;obtain ⟨o,ho,hn,hd⟩:=(dz hsz).1 hi;have aL:i<l.length:=(List.getElem?_eq_some_iff.1 ho).1;have DF:DC l (fun k=>k=i\/Ls listed k):=by
  intro k ok hk hL e he hb;rcases hL with e' | hL
  ·subst e';rw [ho] at hk;cases hk;exact .inr (hd e he hb)
  ·exact .inr (xC k ok hk hL e he hb)
 rcases gF DF hc.ac i aL (.inl rfl) j (hc.tail i hm aL j hj XG) with h | h
 ·omega
 ·exact h
section
variable {P:Program} {c:Cx} {D:List Nat} {sl:aI} {hs:List a8} {Q:Exit->Act->World->Prop} {l:List Oper} {m:Nat}
theorem MM {p:List Nat} (hc:FC l m p) (Dz:∀ q∈p,q<m->wM l q) (SQ:∀ c a w,¬ Q (.panic c) a w) {S:List cI} {lH:(Nat->Value)->aI} (Re:tZ P c hs l 0 (l.take m) (fun _=>sl) [] S lH) {a0:Act} (h0:bS sl a0) (Gm:a0.tmps.size=c.nt)
  (tail:∀ β a w,St c D (lH β) (dA β (fun _=>true) S 0++hs) a w->wpAnyIn (FR none) 0 P .any l.toArray Q (l.length-m) (jB l.length m) a w) :
  ∀ (fuel:Nat) (listed:Array Bool) (a:Act) (w:World),OC c D hs l m S a0 fuel listed a w->wpAnyIn (FR none) 0 P .any l.toArray Q fuel listed a w:=by
 have hle:=hc.le;have Gj:ng sl [] (fun _=>sl) []:=fun β t v hv=>.inr ⟨fun oj h=>(List.not_mem_nil h).elim,hv⟩
 obtain ⟨wg,_,j5,eI⟩:=Re.spec (sl:=sl) [] rfl rfl Gj;rw [Za] at j5 eI;rw [Nat.zero_add,List.length_take,Nat.min_eq_left hle] at wg;have dI:∀ (j:Nat) (o:Oper),j<m->l[j]? = some o->(l.take m)[j]? = some o:=fun j o hj ho=>by rw [List.getElem?_take,if_pos hj];exact ho
 have eZ:∀ (j:Nat) (o:Oper),(l.take m)[j]? = some o->j<m/\l[j]? = some o:=fun j o ho=>by
  rw [List.getElem?_take] at ho;split at ho
  ·exact ⟨by assumption,ho⟩
  ·cases ho
 have Ki:∀ j,j<m->∃ s,S[j]? = some s:=fun j hj=>⟨S[j]'(by omega),Zc (by omega)⟩
 have lk:∀ fuel listed a w,OC c D hs l m S a0 fuel listed a w->(∀ i,i<m->Ls listed i)->wpAnyIn (FR none) 0 P .any l.toArray Q fuel listed a w:=by
  intro fuel listed a w hI dC;have hL:∀ i,i<l.length->(Ls listed i↔i<m):=fun i _=>⟨fun h=>Nat.lt_of_not_le fun hm=>hI.hi i hm h,dC i⟩
  obtain ⟨U,tS,nX,qm⟩:=hI.left;have gZ:U.Perm (List.range' m (l.length-m)):=by
   rw [List.perm_ext_iff_of_nodup tS (List.nodup_range')];intro i;rw [nX i,List.mem_range'_1];constructor
   ·rintro ⟨h1,h2⟩;exact ⟨Nat.le_of_not_lt fun h=>h2 (dC i h),by omega⟩
   ·rintro ⟨h1,h2⟩;exact ⟨by omega,hI.hi i h1⟩
  have hlen:fuel=l.length-m:=by rw [<- qm,gZ.length_eq,List.length_range']
  have DB:listed=jB l.length m:=by
   have sP:(jB l.length m).size=l.length:=by simp [jB];omega
   apply Array.ext
   ·rw [hI.sz,sP]
   ·intro i h1 h2;rw [hI.sz] at h1;have h3:=hL i h1;unfold Ls at h3;rw [Array.getD_eq_getD_getElem?,Array.getElem?_eq_getElem (by rw [hI.sz];exact h1),Option.getD_some] at h3;have h4:(jB l.length m)[i]=decide (i<m):=by
     simp only [jB,List.getElem_toArray];by_cases hi:i<m
     ·rw [List.getElem_append_left (by simpa using hi)];simp [hi]
     ·rw [List.getElem_append_right (by simpa using hi)];simp [hi]
    rw [h4];by_cases hi:i<m
    ·rw [h3.2 hi];simp [hi]
    ·have:¬ listed[i]=true:=fun h=>hi (h3.1 h)
     simp [hi,this]
  subst hlen;rw [DB];obtain ⟨β,hm,jS⟩:=hI.own;have e:dA β (fun i=>listed.getD i false) S 0=dA β (fun _=>true) S 0:=fN fun j s hj=>by
   have gm:j<m:=by have:=(List.getElem?_eq_some_iff.1 hj).1;omega
   rw [Nat.zero_add];exact ⟨dC j gm,fun _=>rfl⟩
  rw [e] at hm;refine tail β a w ⟨by rw [Zh];exact hm,fun t v hv=>?_,hI.size,hI.defers⟩;rcases j5 β t v hv with ⟨j,oj,s,h1,h2,h3,h4⟩ | ⟨h1,h2⟩
  ·obtain ⟨gm,kH⟩:=eZ j oj h1;rw [h4];exact jS j oj t s kH h2 h3 (dC j gm)
  ·rw [hI.yF t fun j oj hj iG=>h1 oj (List.mem_of_getElem? (dI j oj (Nat.lt_of_not_le fun hm=>hI.hi j hm iG) hj))]
   exact h0 t v h2
 intro fuel
 induction fuel with
 | zero =>
  intro listed a w hI;obtain ⟨U,_,nX,qm⟩:=hI.left;have hU:U=[]:=List.length_eq_zero_iff.1 qm;refine lk 0 listed a w hI fun i hi=>Classical.byContradiction fun hn=>?_;have:=(nX i).2 ⟨by omega,hn⟩;rw [hU] at this;cases this
 | succ fuel ih =>
  intro listed a w hI;by_cases dC:∀ i,i<m->Ls listed i
  ·exact lk _ listed a w hI dC
  ·have hex:∃ i,i<m/\¬ Ls listed i:=Classical.byContradiction fun hh=>dC fun i hi=>Classical.byContradiction fun hn=>hh ⟨i,hi,hn⟩
   obtain ⟨i0,pW,mV⟩:=hex;have main:∀ i,i∈Region.ready .any l.toArray listed->i<m->wpOpIn (FR none) 0 P l.toArray Q i (wpAnyIn (FR none) 0 P .any l.toArray Q fuel (listed.setIfInBounds i true)) a w/\(i∈p->wpAnyIn (FR none) 0 P .any l.toArray Q (fuel+1) listed a w):=by
    intro i hi mz;obtain ⟨o,ho,hn,ko⟩:=(dz hI.sz).1 hi;obtain ⟨d,Cr,s,hd,fH,qB,o8,dU⟩:=eI i o (Zi _) (dI i o mz ho);obtain ⟨Ad,Ae,B,hB,gA⟩:=dU;obtain ⟨β,hm,jS⟩:=hI.own;have jJ:∀ (j:Nat),eL o j=true->Ls listed j:=fun j hw=>by
     obtain ⟨e,he,hb,mU⟩:=cH hw;rw [<- mU];exact ko e he hb
    have nR:∀ (j:Nat) (oj:Oper) (e:Nat),l[j]? = some oj->j<m->j≠i->oj.dst=some e->d≠e:=by
     intro j oj e hj gm hne he;rcases Nat.lt_or_ge j i with h | h
     ·exact fun e'=>(cO (pS hc h mz hj ho) he hd).1 e'.symm
     ·exact (cO (pS hc (show i<j by omega) gm ho hj) hd he).1
    have il:i<listed.size:=by rw [hI.sz];omega
    have Ah:mu o=true:=hc.op o (List.mem_of_getElem? ho)
    -- yf cP Me yf operation looks at
    have hT:∀ t∈o.looksAt l.toArray,∀ v,cJ (Cr β) t=some v->a.tmps[t]? = some v:=by
     intro t ht v hv;rcases o8 β t v hv with ⟨j,oj,sj,h1,h2,h3,h4⟩ | ⟨h1,h2⟩
     ·have kT:j<i:=by have:=(List.getElem?_eq_some_iff.1 h1).1;rw [List.length_take] at this;omega
      rw [List.getElem?_take,if_pos kT] at h1 h3;obtain ⟨gm,kH⟩:=eZ j oj h1;have iG:=jJ j ((cO (pS hc kT mz kH ho) h2 hd).2 (.inl ht));rw [h4];exact jS j oj t sj kH h2 h3 iG
     ·rw [hI.yF t fun j oj hj iG iF=>?_]
      ·exact h0 t v h2
      ·have gm:j<m:=Nat.lt_of_not_le fun hm=>hI.hi j hm iG
       rcases Nat.lt_trichotomy j i with h | h | h
       ·exact h1 oj (List.mem_of_getElem? (by rw [List.getElem?_take,if_pos h];exact dI j oj gm hj)) iF
       ·subst h;exact hn iG
       ·have hw:=(cO (pS hc h gm ho hj) hd iF).2 (.inr ht);obtain ⟨e,he,hb,mU⟩:=cH hw;have:=hI.dc j oj hj iG e he hb;rw [mU] at this;exact hn this
    have sR:∀ t v,cJ (Cr β) t=some v->t<c.nt:=by
     intro t v hv;rcases o8 β t v hv with ⟨j,oj,sj,h1,h2,_,_⟩ | ⟨_,h2⟩
     ·have kT:j<i:=by have:=(List.getElem?_eq_some_iff.1 h1).1;rw [List.length_take] at this;omega
      rw [List.getElem?_take,if_pos kT] at h1;obtain ⟨d',_,_,ug,vW,_⟩:=eI j oj (Zi _) h1;rw [h2] at ug;cases ug;exact vW
     ·have:=h0 t v h2;rw [<- Gm];exact (Array.getElem?_eq_some_iff.1 this).1
    obtain ⟨a',kK,iT,_⟩:=mW hI.size sR hT;have sT:js c hs (S.take i) B β w:=by
     rintro A (rfl | ⟨j,hj,sj,h1,rfl⟩)
     ·exact hm.sublist ((List.sublist_append_left _ _).trans (List.sublist_append_right _ _))
     ·have kT:j<i:=by have:=(List.getElem?_eq_some_iff.1 h1).1;rw [List.length_take] at this;omega
      rw [List.getElem?_take,if_pos kT] at h1;have iG:=jJ j (hB j hj);exact hm.sublist ((oN (lst:=fun i=>listed.getD i false) (i:=0) h1 (by rw [Nat.zero_add];exact iG)).append (List.sublist_append_left _ _))
    have hq:=gA β a' w kK sT;have hex:=gR (o:=o) (ops:=l.toArray) Ah iT
    -- LR a done operation Qh RZ not RF on this one
    have l5:∀ j,Ls listed j->∀ x k,sf l j k=true->β k=ss β i x k:=by
     intro j iG x k hk;refine (qF fun e=>?_).symm;subst e;unfold sf at hk;rw [Bool.or_eq_true] at hk;rcases hk with hk | hk
     ·have:j=k:=by simpa using hk
      subst this;exact hn iG
     ·have Nz:j<l.length:=by
       have gm:j<m:=Nat.lt_of_not_le fun hm=>hI.hi j hm iG
       omega
      exact hn (gF hI.dc hc.ac j Nz iG k hk)
    have fT:∀ v w',OA i s β w v w'->wpAnyIn (FR none) 0 P .any l.toArray Q fuel (listed.setIfInBounds i true) (a.put o.dst v) w':=by
     rintro v w' ⟨x,rfl,hk,fp,jf,gQ,pX⟩;refine ih _ _ _ ⟨by simpa using hI.sz,?_,?_,by rw [hd];exact hI.defers,by simpa [Act.put,hd] using hI.size,?_,?_,ss β i x,?_,?_⟩
     ·intro k ok pV hL e he hb;rw [bP il] at hL ⊢;rcases hL with e' | hL
      ·subst e';rw [ho] at pV;cases pV;exact .inr (ko e he hb)
      ·exact .inr (hI.dc k ok pV hL e he hb)
     ·intro k pV hL;rw [bP il] at hL;rcases hL with e | hL
      ·omega
      ·exact hI.hi k pV hL
     ·intro t ht;have h1:d≠t:=fun e=>by subst e;exact ht i o ho ((bP il).2 (.inl rfl)) hd
      rw [hd];simp only [Act.put,Array.getElem?_setIfInBounds_ne h1];exact hI.yF t fun j oj hj hL=>ht j oj hj ((bP il).2 (.inr hL))
     ·obtain ⟨U,tS,nX,qm⟩:=hI.left;refine ⟨U.erase i,tS.erase i,fun k=>?_,?_⟩
      ·rw [tS.mem_erase_iff,nX k,bP il];constructor
       ·rintro ⟨h1,h2,h3⟩;exact ⟨h2,fun h=>h.elim h1 h3⟩
       ·rintro ⟨h1,h2⟩;exact ⟨fun e=>h2 (.inl e),h1,fun h=>h2 (.inr h)⟩
      ·have NA:i∈U:=(nX i).2 ⟨by omega,hn⟩;rw [List.length_erase_of_mem NA,qm];rfl
     ·have k9:Mem c (s.A (ss β i x)++(dA β (fun i=>listed.getD i false) S 0++(hs++mC D))) w':=Mem.Pn (As:=[]) hm fun oe _ hf=>by
       rw [show oe=[] from hf];exact ⟨hk,fp,jf,gQ,fun b hb=>.inr (pX b hb)⟩
      have e1:dA β (fun i=>listed.getD i false) S 0=dA (ss β i x) (fun i=>listed.getD i false) S 0:=fN fun j sj hj=>by
       refine ⟨I,fun hl=>?_⟩;rw [Nat.zero_add] at hl;have gm:j<m:=by have:=(List.getElem?_eq_some_iff.1 hj).1;omega
       obtain ⟨oj,Gl⟩:∃ oj,l[j]? = some oj:=⟨l[j]'(by omega),Zc (by omega)⟩;obtain ⟨_,_,s2,_,_,hs2,_,pe⟩:=eI j oj (Zi _) (dI j oj gm Gl);rw [hj] at hs2;cases hs2;exact pe.Ae _ _ (l5 j hl x)
      rw [e1,<- Zh] at k9;refine k9.perm ((oP (k:=i) qB ?_ ?_ ?_).append_right _)
      ·rw [Nat.zero_add];show listed.getD i false=false;have:¬ listed.getD i false=true:=hn;simpa using this
      ·rw [Nat.zero_add];exact (bP il).2 (.inl I)
      ·intro j hj;rw [Nat.zero_add] at hj;simp [Array.getD_eq_getD_getElem?,Array.getElem?_setIfInBounds_ne (Ne.symm hj)]
     ·intro j oj e sj hj he jA hL;rw [bP il] at hL;by_cases kT:j=i
      ·subst kT;rw [ho] at hj;cases hj;rw [hd] at he;cases he;rw [qB] at jA;cases jA;rw [hd];simp [Act.put,hI.size,fH]
      ·have w7:=hL.resolve_left kT;have gm:j<m:=Nat.lt_of_not_le fun hm=>hI.hi j hm w7
       obtain ⟨_,_,s2,_,_,hs2,_,pe⟩:=eI j oj (Zi _) (dI j oj gm hj);rw [jA] at hs2;cases hs2;rw [hd];simp only [Act.put,Array.getElem?_setIfInBounds_ne (nR j oj e hj gm kT he)];rw [<- pe.Ad _ _ (l5 j w7 x)];exact jS j oj e sj hj he jA w7
    have GY:=hq;refine ⟨?_,fun Rm=>?_⟩
    rotate_left
    ·obtain ⟨d',x',k',S7,pos',Vn,tL,I7,eJ⟩:=Dz i Rm mz;rw [ho] at tL;cases tL;rw [if_pos (by simp [Region.wanted])] at GY;unfold mB at GY;obtain ⟨v,hv,wc⟩:=wm GY;have pX:Region.free .any l.toArray listed i=true:=sU eJ fun j hj hne hb=>by
      have kH:j<l.length:=by simpa using hj
      have dD:((iz l []).getD i 0).testBit j=true:=by
       rw [Array.getD_eq_getD_getElem?] at hb;simpa [kH] using hb
      have Uq:j<listed.size:=by rw [hI.sz];exact kH
      rcases sF hc.ac hI.sz hI.dc hi dD with e | hL
      ·exact absurd e hne
      ·unfold Ls at hL;rw [Array.getD_eq_getD_getElem?,Array.getElem?_eq_getElem Uq] at hL ⊢;exact hL
     refine wpAnyIn_take (oi:=⟨some d',.extract x' k',S7,pos',Vn,none⟩) (v:=v) I (by simpa using ho) I7 pX (by simpa using hi) (fun c a w h=>(SQ c _ w h).elim) ⟨.inl ⟨by simp [Region.wanted],fun w2=>by rw [<- hex];exact wc w2⟩,fun w2=>rfl⟩ (fT v w hv)
    unfold wpOpIn;rw [show l.toArray[i]? = some o from by simpa using ho];simp only [];rw [gn iT] at hq;split
    ·rename_i hw;rw [if_pos hw] at hq;refine ⟨dO _ _ _ _ _,?_⟩;rw [Oper.semAt_eq _ _ _ (fun cc he=>by simp [mu,he] at Ah),<- hex]
     unfold mB at hq
     revert hq
     generalize (execOp a'.eval o).run P w=res;intro hq
     match res,hq with
     | .ok (.value v) w',hq=>exact fT v w' hq
     | .ok (.enter f args) w', ⟨e, cn⟩ =>
      subst e;refine ⟨by simp [FR,Fence.wide],(gT cn).mono fun e uZ h=>?_⟩;obtain ⟨v,rfl,hq⟩:=h;exact fT v uZ hq
    ·rename_i hw;rw [if_neg hw] at hq;exact ⟨fun _ _=>trivial,fT undef w hq⟩
   by_cases hp:∃ q,q∈p/\q<m/\q∈Region.ready .any l.toArray listed
   ·obtain ⟨q,Nt,yO,T7⟩:=hp;exact (main q T7 yO).2 Nt
   ·refine ⟨fun hr=>?_,fun i hi=>?_⟩
    ·obtain ⟨i,hi⟩:=iA hI.sz hc.ac ⟨i0,by omega,mV⟩;rw [hr] at hi;cases hi
    ·have mz:i<m:=Nat.lt_of_not_le fun hm=>by
      have E1:=zN hc hI.sz hI.dc hi hm;have wc:∀ q,q<m->Ls listed q:=by
       intro q
       induction q using Nat.strongRecOn with
       | _ q ih =>
        intro T6;by_cases Ns:q∈p
        ·by_cases ZO:Ls listed q
         ·exact ZO
         ·refine absurd ⟨q,Ns,T6,(dz hI.sz).2 ⟨l[q]'(by omega),Zc (by omega),ZO,fun e he hb=>?_⟩⟩ hp;have aL:=iR hc.ac (Zc (show q<l.length by omega)) e he hb;exact ih e.on (by omega) (by omega)
        ·exact E1 q T6 Ns
      exact mV (wc i0 pW)
     exact (main i hi mz).1
theorem xY {id:Nat} (m:Nat) (p:List Nat) [pf:PO P] (jk:zM l m p=true) (Dz:∀ q∈p,wM l q) (k:pD P c D hs l Q m 0 m l (fun _=>sl) []):Tr c D sl hs (WP P none (.region id l.toArray true) Q):=fun a w a7=>by
 obtain ⟨S,lH,hp,ht⟩:=k;have h:(Code.region id l.toArray true).wpIn (FR none) 0 P (NP Q) a w:=wpIn_region_any pf.eq (by
  refine MM (p:=p) (zL jk) (fun q hq _=>Dz q hq) (fun c a w h=>h.elim) hp a7.cP a7.size (fun β a w a7=>ht β a w a7) l.toArray.size _ _ _ ⟨by simp,?_,?_,a7.defers,a7.size,fun t _=>rfl,?_,fun _=>undef,?_,?_⟩
  ·exact fun k o _ hL=>absurd hL (ei _ _)
  ·exact fun k _ hL=>ei _ _ hL
  ·exact ⟨List.range l.length,List.nodup_range,fun i=>⟨fun h=>⟨by simpa using h,ei _ _⟩,fun h=>by simpa using h.1⟩,by simp⟩
  ·have e:∀ (T:List cI) (i:Nat),dA (fun _=>undef) (fun i=>(Array.replicate l.toArray.size false).getD i false) T i=[]:=by
    intro T
    induction T with
    | nil=>intro i;rfl
    | cons s T ih =>
     intro i;have:=ei l.toArray.size i;unfold Ls at this;unfold dA;rw [if_neg this,ih];rfl
   rw [e];exact a7.mem.drew
  ·exact fun j o d s _ _ _ hL=>absurd hL (ei _ _))
 exact wpIn_mono h fun e a' w' h=>by
  cases e with
  | panic c=>exact h.elim
  | _=>exact h
end
theorem uF {l:List Oper} {p d k:Nat} {x:Operand} {ty:TypeId} {pos:String} {af:Array Edge} (h:l[p]? = some ⟨some d,.extract x k,ty,pos,af,none⟩) (h2:Region.noSelect l.toArray=true) (h3:Region.free .any l.toArray ((List.range l.length).map fun j=>((iz l []).getD p 0).testBit j).toArray p=true):wM l p:=⟨d,x,k,ty,pos,af,h,h2,h3⟩
end Go.SL
