/- Parts of the proof: LD LE LF LG LH TryzShelf GkDraws. -/
import Derived.Test.YteonnodafmegaaaGreatDoorKM10
import Derived.Test.YteonnodafmegaaaGreatDoorKM04
import Derived.Test.YteonnodafmegaaaGreatDoorKM06
import Derived.Shelf.Strings.OnBuilder
import Derived.Shelf.Strconv.Itoa3
import Derived.Ground.NamesProg
import Derived.Ground.Names2Prog
import Derived.Test.YteonnodafmegaaaGreatDoorProg
import Derived.Calls
import Derived.RunT
set_option linter.unusedSectionVars false
set_option linter.unusedVariables false
set_option linter.unusedSimpArgs false
namespace Go.Proofs.A1
open Go Go.SL
open Tryz
open Tryz renaming prog->T_
theorem ql (cs:List Value) (o:Nat) (v:Value) (h:o<cs.length):setCells cs o [v]=cs.set o v:=by
 simp [setCells]
theorem Fe (L:List ByteArray) (cur:List Value) {k:Nat} (h:k<L.length) (v:ByteArray):setCells (aO L++cur) (k*1) [.string v]=aO (L.set k v)++cur:=by
 rw [Zas,ql _ _ _ (by rw [Zg,dj];omega),List.set_append_left _ _ (by rw [dj];exact h)];unfold aO;rw [List.map_set]
theorem BN (L:List ByteArray) (cur:List Value) {k:Nat} (h:k<L.length):(aO L++cur)[k*1]? = some (.string L[k]):=by
 rw [Zas,ZG (by rw [dj];exact h)];unfold aO;rw [ZJ,Zc h];rfl
def BB (r:Ro) (t:Tk) (k:Nat):ByteArray:=if t.at k=⟨#[]⟩ then ⟨#[]⟩ else if kN r (k:Nat) t.de=⟨#[]⟩ then dash else kN r (k:Nat) t.de
def kQ (r:Ro) (t:Tk) (k:Nat):List ByteArray:=(List.range r.lv.toNat).map fun i=>if i<k then BB r t i else kN r (i:Nat) t.de
theorem lh (r:Ro) (t:Tk) (k:Nat):(kQ r t k).length=r.lv.toNat:=by unfold kQ;simp
theorem Gl (r:Ro) (t:Tk):kQ r t 0=cL r t.de:=by unfold kQ cL;simp
theorem HQ (r:Ro) (t:Tk):kQ r t r.lv.toNat=(xH r t).so:=by
 unfold kQ xH;refine Zbs fun i hi=>?_;rw [if_pos (ZU.1 hi)];rfl
variable {b:Nat} {f:FuncId} {k:Nat} {l:List Od} {r:Ro} {t:Tk} {w:World}
theorem zO {k i:Nat} (h:i<r.lv.toNat):(kQ r t k)[i]? = some (if i<k then BB r t i else kN r (i:Nat) t.de):=by
 unfold kQ;rw [ZJ,List.getElem?_range h];rfl
theorem HP (h:k<(kQ r t k).length):(kQ r t k)[k]=kN r (k:Nat) t.de:=by
 have h1:=Zc h;rw [zO (by rw [lh] at h;exact h),if_neg (Nat.lt_irrefl _)] at h1;exact (Option.some.inj h1).symm
theorem HO (h:k<r.lv.toNat):(kQ r t k).set k (BB r t k)=kQ r t (k+1):=by
 apply Zat;intro i;rw [List.getElem?_set];by_cases hi:i<r.lv.toNat
 ·rw [zO hi,zO hi,lh];by_cases e:k=i
  ·subst e;rw [if_pos I,if_pos hi,if_pos (Nat.lt_succ_self _)]
  ·rw [if_neg e];by_cases e2:i<k
   ·rw [if_pos e2,if_pos (by omega)]
   ·rw [if_neg e2,if_neg (by omega)]
 ·have e1:(kQ r t k)[i]? = none:=Zaa (by rw [lh];omega);have e2:(kQ r t (k+1))[i]? = none:=Zaa (by rw [lh];omega);rw [if_neg (by omega),e1,e2]
theorem Gm (h:BB r t k=kN r (k:Nat) t.de):kQ r t (k+1)=kQ r t k:=by
 unfold kQ;refine Zbs fun i _=>?_;by_cases e:i=k
 ·subst e;rw [if_pos (Nat.lt_succ_self _),if_neg (Nat.lt_irrefl _),h]
 ·by_cases e2:i<k
  ·rw [if_pos e2,if_pos (by omega)]
  ·rw [if_neg e2,if_neg (by omega)]
set_option maxHeartbeats 1000000 in
theorem QA {s d t p:Value} {x:gL} (h:RR w r s d t p) (hA:BR w b (RC r s d t p)) (AM:1<=r.lv/\r.lv<=1000) (cJ:r.ti.length<=1000000) (hx:Rd w x.v 1 (ie x.tk.so)) (Pz:(x.tk.so.length:Int)=r.lv) :
  bB T_ 167 [.agg x.cells.toArray,.p b] w [] (fun _:Value=>True) (fun v=>.agg #[.string x.tk.de,v]) (fun v=>[row 9 1 v r.lv.toNat (aO (xH r x.tk).so)]):=by
 obtain ⟨h1,h2,h3,h4⟩:=h.one;have kq:∀ (j:Nat) (u:Value),[Value.int .i64 r.lv,.int .i64 r.ma,s,d,t,p][j]? = some u->w.cell? ⟨b,0+j,none⟩=some u:=hA;clear hA;unfold gL.cells;obtain ⟨tk,tv⟩:=x;dsimp only at *;obtain ⟨sa,my,sb,TN,rfl,Kx,wh,RZ,RY⟩:=hx;rw [cu] at *;unfold maxLen at wh;refine aV func167 I I ?_
 (refine Jr<|Jy I I fun _ _=>Jz I I fun _ _=>Ji<|ab (iD (eO.base kq I)) I<|bN I I ae<|JL I (.there .here) I ?_)
 rename_i b2 afS b3 afQ;refine JN bo I (fun w1 aY=>wE tk.de (h.keeps aY.keeps) AM.2 cJ) ?_;intro v _;dsimp only [id_eq,Zb,Za];have oo:=lh r tk;rw [<- Gl];refine dP (E:=9) (sz:=1) (v:=v) (by exact .here) (by omega) fun gb cap cur e rW tX uY xB=>?_;subst e
 (refine Ja I<|Jn<|Jq<|Jr<|bN I I ae<|JL I bO I<|JI I<|Jv I<|Jn<|J0 ?_)
 refine bd (ι:=Nat×List ByteArray) (fun y=>y.1<=tk.so.length/\y.2=kQ r tk y.1) (fun y=>[(14,.q (y.1:Nat)),(13,.q (tk.so.length:Nat)),(12,.slice sa tk.so.length my),(4,.w gb r.lv.toNat cap),(3,.p b3),(2,.p b2)])
  (fun y=>[bA gb (.cells (aO y.2++cur).toArray 9 (0,0)),bA b3 (.cells #[.string ⟨#[]⟩,.z] 78 (0,0)),bA b2 (.cells #[.string tk.de,.slice sa tk.so.length my] 78 (0,0))]) (fun y=>tk.so.length-y.1) ?_ ?_
 ·apply aJ (0,kQ r tk 0) ⟨Zi _,I⟩
  case hs1=>exact cB
  case ht=>exact qv
 rintro ⟨k,L⟩ ⟨hk,hL⟩;dsimp only at hk hL ⊢;have Et:L.length=r.lv.toNat:=by rw [hL,lh]
 have iE:(aO L++cur).length=cap*1:=by
  rw [Zg,dj] at uY ⊢;rw [lh] at uY;omega
 by_cases aN:k<tk.so.length
 ·have Ek:=RZ (lk aN);have Ky:w.cell? ⟨sb,TN+k*1,none⟩=some (.string tk.so[k]):=(RY k _ (jf aN)).2 0 _ I;have En:k<L.length:=by omega
  have fB:L[k]=kN r (k:Nat) tk.de:=by subst hL;exact HP En
  have c1:=BN L cur En;rw [fB] at c1;have p1:=Fe L cur En ⟨#[]⟩;have p2:=Fe L cur En ⟨#[45]⟩;have hle:k*1+1<=(aO L++cur).length:=by omega
  have WQ:k<r.lv.toNat:=by omega
  have jJ:tk.at k=tk.so[k]:=by unfold Tk.at;rw [Zk,Zc aN];rfl
  have hF:BB r tk k=if tk.so[k]=⟨#[]⟩ then ⟨#[]⟩ else if kN r (k:Nat) tk.de=⟨#[]⟩ then dash else kN r (k:Nat) tk.de:=by unfold BB;rw [jJ]
  have mq:∀ u,BB r tk k=u->L.set k u=kQ r tk (k+1):=fun u hu=>by rw [<- hu,hL];exact HO WQ
  have KA:BB r tk k=kN r (k:Nat) tk.de->L=kQ r tk (k+1):=fun hu=>by rw [hL,Gm hu]
  generalize kN r (k:Nat) tk.de=ck at *;generalize tk.so[k]=sk at *
  (refine Jr<|JA I<|Jn<|Jq<|Jd I fun aA=>Jk<|Jq<|J0<|Jr<|Jv I<|ab (aC (.of I) (.of I) Ek (by omega) aA bu) I ?_;refine ab (ag (.of I) (At.base Ky I)) I ?_;refine Ja I<|Ja I<|Ji<|Jv I<|ab (eR (.of I) (.of I)) I ?_;refine Jn<|gR I (fun aA=>?_) fun aA=>?_;refine Jg<|Jv I<|Jv I<|ab (aC (.of I) (.of I) I (by omega) (by omega) bu) I ?_;refine aq (.of I) (.of I) .here I I (dG I) hle p1 ?_;refine Jx<|Jj<|Jt<|Jg<|JB I (by omega)<|Jv I<|Jn ?_;rotate_left;refine Jr<|Jv I<|Jv I<|ab (aC (.of I) (.of I) I (by omega) (by omega) bu) I ?_;refine ab (ag (.of I) (At.pj .here c1)) I ?_;refine ab (eR (.of I) (.of I)) I ?_;refine Jn<|gR I (fun aA=>?_) fun aA=>?_;refine Jg<|Jv I<|Jv I<|ab (aC (.of I) (.of I) I (by omega) (by omega) bu) I ?_;refine aq (.of I) (.of I) .here I I (dG I) hle p2 ?_;refine Jx<|Jj<|Jt<|Jg<|JB I (by omega)<|Jv I<|Jn ?_;rotate_left;refine Jw<|Jj<|Jt<|Jg<|JB I (by omega)<|Jv I<|Jn ?_;rotate_right;rotate_right)
  ·rw [if_pos aA] at hF;rw [mq _ hF];apply aI (k+1,kQ r tk (k+1)) ⟨by show k+1<=_;omega,I⟩ (by show tk.so.length-(k+1)<tk.so.length-k;omega)
   case hs1=>exact cB
   case ht=>exact qv
  ·rw [if_neg (by assumption),if_pos aA] at hF;have hq:L.set k ⟨#[45]⟩=kQ r tk (k+1):=mq _ hF;rw [hq];apply aI (k+1,kQ r tk (k+1)) ⟨by show k+1<=_;omega,I⟩ (by show tk.so.length-(k+1)<tk.so.length-k;omega)
   case hs1=>exact cB
   case ht=>exact qv
  ·rw [if_neg (by assumption),if_neg aA] at hF;apply aI (k+1,L) ⟨by show k+1<=_;omega,KA hF⟩ (by show tk.so.length-(k+1)<tk.so.length-k;omega)
   case hs1=>exact cB
   case ht=>exact qv
 ·have e:k=tk.so.length:=by omega
  subst e;have rU:L=(xH r tk).so:=by rw [hL,<- HQ];congr 1;omega
  (refine Jr<|JA I<|Jn<|Jq<|Jc I fun aA=>Jp<|Jl<|Jo<|Jt<|Jr<|bN I I ae<|JL I bO I<|Jv I<|ab (aX (.o I (.o I .nil)) an) I<|aq (.of I) (.of I) (.there .here) I I (gK I I) (bF I) an<|Jn<|Je ?_)
  subst rU;have RP:(aO (xH r tk).so).length=r.lv.toNat*1:=by rw [dj,Et,Zas]
  refine dq (n:=r.lv.toNat) (xs:=aO (xH r tk).so) (cap:=cap) (g:=gb) (E:=9) (sz:=1) (by exact Take.there .here) rW tX iE RP ?_
  with_reducible first|apply aP|apply aQ
  case he=>exact kd I inferInstance I (.there .here) an (by rfl)
  case hR=>
   intro w' az;exact aF (.w gb r.lv.toNat cap) trivial (by exact .h1 .nil) az I
def MO (W:List gL):bh:=nu 9 (W.map gL.v) (W.map fun y=>aO y.tk.so)
theorem MN:nu 9 [] []=MO []:=rfl
theorem E5 (W:List gL) (y:gL):(jQ (W++[y])).flatten=(jQ W).flatten++[.string y.tk.de,y.v]:=by
 unfold jQ;simp [gL.cells]
theorem Rv {kv:Value} {l:List gL} {g:Tk->Tk} {n:Nat} {first cap:List Value} [bQ T_ f] {w:World} (h:Rd w kv 2 (jQ l)) (hM:xF w l) (hn:l.length<=1000) (hg:∀ x∈l,(g x.tk).so.length=n)
  (cG:∀ x∈l,∀ w',aH [] w w'->bB T_ f (first++[.agg x.cells.toArray]++cap) w' [] (fun _:Value=>True) (fun v=>.agg #[.string (g x.tk).de,v]) (fun v=>[row 9 1 v n (aO (g x.tk).so)])) :
  bB T_ 166 [kv,.func (.func f) first.toArray cap.toArray] w [] (fun x:Value×List gL=>du x.2=(du l).map g) (fun x=>x.1) (fun x=>[row 78 2 x.1 x.2.length (jQ x.2).flatten,MO x.2]):=by
 obtain ⟨a,cp,b,o,rfl,dD,cr,ha,hc⟩:=h;rw [e9] at *;unfold maxLen at cr;refine aV func166 I I ?_;refine Jr<|Ja I<|Ji<|Ja I<|Jn<|Jq<|Jr<|Jv I<|JI I<|Jv I<|Jn<|J0 ?_;refine aR 78 2 ?_;refine lj 9 ?_
 refine bd (ι:=Nat×Value×List gL) (fun x=>x.1<=l.length/\du x.2.2=(du (l.take x.1)).map g) (fun x=>[(10,.q (x.1:Nat)),(9,.q (l.length:Nat)),(8,.slice a l.length cp),(5,x.2.1),(1,.func (.func f) first.toArray cap.toArray)])
  (fun x=>[row 78 2 x.2.1 x.2.2.length (jQ x.2.2).flatten,nu 9 (x.2.2.map gL.v) (x.2.2.map fun y=>aO y.tk.so)]) (fun x=>l.length-x.1) ?_ ?_
 ·apply aJ (0,.z,[]) ⟨Zi _,I⟩
  case hs1=>exact cB
  case ht=>
   exact .cons (.there .here) (.h1 .nil)
 rintro ⟨k,v,W⟩ ⟨hk,hW⟩;dsimp only at hk hW ⊢;have PR:W.length=k:=by
  have:=congrArg List.length hW;unfold du at this;rw [Zd,Zd,Zd,Zs] at this;omega
 by_cases aN:k<l.length
 ·have c8:=ha (np aN);have aG:=(hc k _ (kR aN)).2;have iE:=cG _ (Zj aN);have Sh:=hg _ (Zj aN);have jc:=Rd.one (hM _ (Zj aN));have htk:(du (l.take (k+1))).map g=(du (l.take k)).map g++[g l[k].tk]:=by
   unfold du;rw [Zn aN,Zz,Zz];rfl
  have tV:(jQ W).flatten.length=W.length*2:=by rw [gj (DF W),e9]
  unfold gL.cells at aG iE;refine aT (E:=78) (sz:=2) (v:=v) (by exact .here) fun va vc e=>?_;subst e
  (refine Jr<|JA I<|Jn<|Jq<|Jd I fun aA=>Jk<|Jq<|J0<|Jr<|ab (gr c8 aA) I<|ab (iD (eO.base aG I)) I<|Jz I I fun _ _=>aq (.of I) (.of I) .here I I (gK I jc) (bF I) an<|Jn<|Jg<|Jv I<|Jv I<|ab (cN .here) I ?_)
  refine JN bS I (fun w1 aY=>iE w1 aY.keeps) ?_;intro hv _;dsimp only [id_eq,Zb,Za];refine aT (E:=9) (sz:=1) (v:=hv) (by exact .here) fun js jT e=>?_;subst e;refine bn (bD (.o I .nil) I I bV bV an) I (fun _ _=>?_);refine bH (.of I) (.of I) c6 .here an (by rfl) (gK I I) (by rfl) (by rfl) (by rfl) eC (by rfl) ?_;intro v';refine Ja I<|Jx<|Jj<|Jt<|Jg<|JB I (by omega)<|Jv I<|Jn ?_;have X7:(aO (g l[k].tk).so).length=n:=by rw [dj,Sh]
  with_reducible apply nj (E:=9) (vs:=W.map gL.v) (xs:=W.map fun y=>aO y.tk.so) (v:=.slice js n jT) (x:=aO (g l[k].tk).so) (n:=n)
  case ht=>exact dF
  case ht2=>exact bO
  case hn=>exact X7.symm
  case hl=>rw [Zd,Zd]
  case k=>
   apply aI (k+1,v',W++[⟨g l[k].tk,.slice js n jT⟩]) ⟨by show k+1<=_;omega,by
    show du (W++[_])=_;unfold du at hW htk ⊢;rw [Zz,hW];exact htk.symm⟩ (by show l.length-(k+1)<l.length-k;omega)
   case hs1=>exact cB
   case ht=>
    dsimp only;rw [E5,Zg,Zz,Zz];simp only [Zaf,Zf,ZL,Zan,ZE];exact .cons (.there .here) (.h1 .nil)
 ·have e:k=l.length:=by omega
  rw [e,ZN] at hW;refine aT (E:=78) (sz:=2) (v:=v) (by exact .here) fun va vc e=>?_;subst e;refine Jr<|JA I<|Jn<|Jq<|Jc I fun aA=>Jp<|Jl<|Jo<|Jt<|Jr<|Jv I<|Ja I<|Jn<|Je ?_
  with_reducible first|apply aP|apply aQ
  case he=>exact dS I I
  case hR=>
   intro w' az;exact aF (.slice va W.length vc,W) hW (by exact .h2 .nil) az I
def MM (r:Ro) (l:List Tk):List Tk:=if (iv r l).2.2≠0 then [] else l.map (xH r)
set_option maxHeartbeats 1000000 in
theorem LX {s d t p kv:Value} {l:List gL} (h:RR w r s d t p) (cJ:me r) (hw:Rd w kv 2 (jQ l)) (hM:xF w l) :
  bB T_ 47 [RA r s d t p,kv] w [] (fun x:Value×List gL=>du x.2=MM r (du l)) (fun x=>.tuple #[x.1,.q (iv r (du l)).2.2]) (fun x=>[row 78 2 x.1 x.2.length (jQ x.2).flatten,MO x.2]):=by
 obtain ⟨h1,h2,h3,h4⟩:=h.one;have WQ:=Rd.one hw;unfold RA;refine aV func47 I I ?_
 (refine Jr<|Jy I I fun _ _=>Ja I<|Ja I<|Jn<|Jq<|Jr<|ab (cN .here) I<|Jv I ?_)
 rename_i b2 tX;refine JN bo I (fun w1 aY=>Bj (h.keeps aY.keeps) cJ (hw.keeps aY.keeps) (hM.keeps aY.keeps)) ?_;have G6:MM r (du l)=if (iv r (du l)).2.2≠0 then [] else (du l).map (xH r):=rfl
 have RU:(iv r (du l)).2.2=0->fT r=0/\Bm r (du l)=0:=fun h0=>by
  unfold iv at h0;by_cases c1:fT r=0
  ·rw [if_neg (not_not_intro c1)] at h0;by_cases c2:Bm r (du l)=0
   ·exact ⟨c1,c2⟩
   ·rw [if_pos c2] at h0;exact absurd h0 c2
  ·rw [if_pos c1] at h0;exact absurd h0 c1
 by_cases Bu:(iv r (du l)).2.2=0
 ·obtain ⟨Dk,Ml⟩:=RU Bu;have dw:=uo Dk;have hT:=(uG.1 Ml).2;have AM:=dw.lim;have AN:=dw.len;rw [if_neg (not_not_intro Bu)] at G6;rw [G6];clear G6 RU;generalize iv r (du l)=R at *;obtain ⟨R,at_,e_⟩:=R;dsimp only at Bu;subst Bu;rintro ⟨s1,d1,t1,p1⟩ _;dsimp only;unfold RA;refine dI (r:=R) (s:=s1) (d:=d1) (t:=t1) (p:=p1) (bb _ _) fun k1 k2 k3 k4=>?_
  (refine Jv I<|JJ I I<|JJ I I<|JJ I I<|Jz I I fun _ _=>aq (.of I) (.of I) .here I I (hG I I k1 k2 k3 k4) (bF I) an<|Ja I<|Ja I<|Ji<|Jv I<|JD I<|Jn<|Jc I fun aA=>Jk<|Jr<|Jv I<|ab (bI .nil (.o I .nil)) I ?_)
  with_reducible apply jt
  case hr=>exact bo
  case hd=>rfl
  case ht=>exact bK.nil
  case hc=>
   intro w1 fp aY _ hs1;obtain rfl:fp=[]:=hs1;have hA:BR w1 b2 [.int .i64 r.lv,.int .i64 r.ma,s,d,t,p]:=BR.of aY fx;have hR:=h.keeps aY.keeps;have hK:=hM.keeps aY.keeps;have UY:=hT.Ez;unfold du at UY;rw [Zd] at UY;exact Rv (f:=167) (first:=[]) (cap:=[.pointer (some ⟨b2,0,none⟩)]) (g:=xH r) (n:=r.lv.toNat) (hw.keeps aY.keeps) hK (by omega) (fun x _=>by unfold xH;simp) (fun x hx w2 eL=>QA (hR.keeps eL) (hA.keeps eL) (by omega) (by omega) ((hK x hx).keeps eL) (hT.lv _ (Zai hx)))
  rintro ⟨v,W⟩ hW;dsimp only at hW ⊢;unfold MO;dsimp only [Zb,Za];refine aT (E:=78) (sz:=2) (v:=v) (by exact .here) fun va vc e=>?_;subst e;refine Ja I<|Ja I<|Jn<|Je ?_
  with_reducible first|apply aP|apply aQ
  case he=>exact gl I I I
  case hR=>
   intro w' az;exact aF (.slice va W.length vc,W) hW (by exact .h2 .nil) az I
 ·rw [if_pos Bu] at G6;rw [G6];clear G6 RU;generalize iv r (du l)=R at *;obtain ⟨R,at_,e_⟩:=R;dsimp only at Bu;rintro ⟨s1,d1,t1,p1⟩ _;dsimp only;unfold RA;refine dI (r:=R) (s:=s1) (d:=d1) (t:=t1) (p:=p1) (bb _ _) fun k1 k2 k3 k4=>?_
  (refine Jv I<|JJ I I<|JJ I I<|JJ I I<|Jz I I fun _ _=>aq (.of I) (.of I) .here I I (hG I I k1 k2 k3 k4) (bF I) an<|Ja I<|Ja I<|Ji<|Jv I<|JD I<|Jn<|Jd I fun aA=>Jr<|Jv I<|Ja I<|Ja I<|Jn<|Ju ?_)
  refine aR 78 2 ?_;refine lj 9 ?_;rw [MN]
  with_reducible first|apply aP|apply aQ
  case he=>exact gl I I I
  case hR=>
   intro w' az;exact aF (.z,([]:List gL)) (show du []=[] from I) (by exact .cons (.there .here) (.h1 .nil)) az I
def yU (r:Ro) (o:ByteArray):Int:=ba [fT r,ux r o]
def yT (r:Ro) (o:ByteArray) (q:Bool):Ro:=if yU r o≠0 then Ro.nil else r.IQ o q
theorem tr (l:List De):(j5 l).length=l.length*3:=by unfold j5;rw [gj (ED l),bZ]
theorem SQ (l:List De) (cur:List Value) {k:Nat} (h:k<l.length) (q:Bool):setCells (j5 l++cur) (k*3+2) [.bool q]=j5 (l.modify k fun x=>⟨x.nm,x.mx,q⟩)++cur:=by
 rw [ql _ _ _ (by rw [Zg,tr];omega),List.set_append_left _ _ (by rw [tr];omega)];congr 1;have e:l=l.take k++l[k]::l.drop (k+1):=by rw [<- Zv h,ZX]
 have hm:l.modify k (fun x=>⟨x.nm,x.mx,q⟩)=l.take k++⟨l[k].nm,l[k].mx,q⟩::l.drop (k+1):=by
  rw [List.modify_eq_take_cons_drop h]
 have ht:(j5 (l.take k)).length=k*3:=by rw [tr,Zs,Zbk (by omega)]
 have hs:∀ (a:List De) (x:De) (b:List De),j5 (a++x::b)=j5 a++(x.cells++j5 b):=fun a x b=>by unfold j5 ue;simp
 rw [hm,hs]
 conv=>lhs;rw [e,hs]
 rw [List.set_append_right _ _ (by omega),ht,Nat.add_sub_cancel_left]
 rfl
set_option maxHeartbeats 1000000 in
theorem C9 {s d t p:Value} (o:ByteArray) (q:Bool) {w:World} (h:RR w r s d t p) (cJ:me r) :
  bB T_ 78 [RA r s d t p,.string o,.bool q] w [] (fun _:Value×Value×Value×Value=>True) (fun x=>.tuple #[RA (yT r o q) x.1 x.2.1 x.2.2.1 x.2.2.2,.q (yU r o)]) (fun x=>kC (yT r o q) x):=by
 obtain ⟨h1,h2,h3,h4⟩:=h.one;have fB:∀ w',aH [] w w'->ao T_ 34 [.agg #[.int .i64 r.lv,.int .i64 r.ma,s,d,t,p]] w' (.int .i64 (fT r)):=fun w' hk=>eT (h.keeps hk) cJ
 have lp:∀ w',aH [] w w'->ao T_ 112 [.agg #[.q r.lv,.q r.ma,s,d,t,p],.string o] w' (.q (ux r o)):=fun w' hk=>eM o (h.keeps hk)
 unfold RA;refine aV func78 I I ?_;refine Jr<|Jy I I fun _ _=>Jz I I fun _ _=>Ja I<|Jn<|Jq<|Jq ?_;rename_i b3 uY b6 hb6
 with_reducible refine cS 6 (by kernel_rfl) ?_
 (refine ar (cN (.there .here)) I<|aZ bS I (fun w' az=>(fB w' (Mem.keeps az)))<|ar (cN (.there .here)) I<|ar kL I<|aZ bo I (fun w' az=>(lp w' (Mem.keeps az)))<|eA (aB (.o I (.o I .nil)) I I I I) I I ?_)
 with_reducible refine dz I fun bq lN=>?_
 (refine aj bS I (fun w' az=>(dE (Mem.dB az .here I I) (cg.cons (cg.cons cg.nil))))<|Ja I<|Ji<|Jv I<|JD I<|Jn<|gR I (fun aA=>?_) fun aA=>?_;refine Jr<|ab (aX .nil an) I<|Jv I<|aq (.of I) (.of I) (.there .here) I I (hG I I I I I I) (bF I) an<|Ja I<|Jn<|Ju ?_;rotate_left;refine Jk<|Jr<|ab (cN bO) I ?_;rotate_right)
 ·have e1:yT r o q=Ro.nil:=if_pos aA;have e2:yU r o=ba [fT r,ux r o]:=rfl;rw [e1,e2];refine aR 186 2<|aR 90 3<|aR 187 3<|aR 188 3 ?_
  with_reducible first|apply aP|apply aQ
  case he=>exact tl I inferInstance I dF an (by rfl) (by rfl)
  case hR=>
   intro w' az;exact aF (.z,.z,.z,.z) trivial (by exact .cons c6 (.cons bO (.cons (.there .here) (.h1 .nil)))) az I
 have e0:ba [fT r,ux r o]=0:=Zr.1 aA;have e1:yT r o q=r.IQ o q:=if_neg aA;have e2:yU r o=0:=e0;have Dk:fT r=0:=bP.1 e0 _ Zp;have Sl:o∈bY r:=by
  have:=(bC (by decide)).1 (bP.1 e0 (ux r o) (by simp));rwa [decide_eq_false_iff_not,cm,Classical.not_not] at this
 have dw:=uo Dk;have hf:=ni dw dw.val;rw [e1,e2];refine JN bS I (fun w1 aY=>Ar (h.keeps aY.keeps) cJ (by omega)) ?_;intro y _;dsimp only [id_eq,Zb,Za];obtain ⟨s1,d1,t1,p1⟩:=y;dsimp only;unfold RA PB;refine dI (r:=r) (s:=s1) (d:=d1) (t:=t1) (p:=p1) (by unfold kC PB;exact .h4 .nil) fun k1 k2 k3 k4=>?_
 (refine Jz I I fun _ _=>aq (.of I) (.of I) .here I I (hG I I k1 k2 k3 k4) (bF I) an<|Jn<|Jq ?_)
 rename_i b9 hb9;obtain ⟨j0,wz⟩:∃ i:Nat,br (bY r) o=(i:Nat):=⟨(br (bY r) o).toNat,by have:=cF Sl;omega⟩;have xW:j0<r.de.length:=by
  obtain ⟨hl,_⟩:=ei (l:=bY r) (s:=o) (by omega);rw [wz,Zy] at hl;unfold bY at hl;rwa [Zd] at hl
 have hdd:∀ w',aH [] w w'->ao T_ 155 [.agg #[.q r.lv,.q r.ma,s,d,t,p],.string o] w' (.q (j0:Nat)):=fun w' hk=>wz ▸ fw o (h.keeps hk)
 refine dP (E:=90) (sz:=3) (v:=d1) bO (by omega) fun gd cap cur e Tv U5 WV hg4=>?_;subst e;have p0:=SQ r.de cur xW q;have hle:j0*3+2+1<=(j5 r.de++cur).length:=by rw [Zg,tr];omega
 with_reducible refine eP 8 (by kernel_rfl) ?_
 (refine pZ I I ae<|aM (ic (.there .here)) I<|aM (cN nR) I<|mZ I I<|fQ bo I (fun w' az=>(hdd w' (Mem.keeps az)))<|mZ I I<|aM (aC (.of I) (.of I) I (by omega) (by omega) bu) I<|pZ I I ae ?_)
 with_reducible refine eU ?_
 (refine aq (.of I) (.of I) .here I I (dG I) hle p0<|Ji<|ab (cN (.there .here)) I<|aq (.of I) (.of I) qY I I (hG I I k1 I k3 k4) (bF I) an<|Ja I<|Jn<|Je ?_)
 have hpr:r.IQ o q=⟨r.lv,r.ma,r.sr,r.de.modify j0 fun x=>⟨x.nm,x.mx,q⟩,r.ti,r.po⟩:=by unfold Ro.IQ;rw [wz,Zy]
 have Ym:(r.de.modify j0 fun x=>(⟨x.nm,x.mx,q⟩:De)).length=r.de.length:=List.length_modify _ _ _
 rw [hpr];generalize (r.de.modify j0 fun x=>(⟨x.nm,x.mx,q⟩:De))=D' at *
 have YK:(j5 D'++cur).length=cap*3:=by rw [Zg,tr] at WV ⊢;rw [Ym];exact WV
 refine dq (n:=r.de.length) (xs:=j5 D') (cap:=cap) (g:=gd) (E:=90) (sz:=3) (by exact Take.there .here) Tv U5 YK (by rw [tr,Ym]) ?_
 with_reducible first|apply aP|apply aQ
 case he=>exact tl I inferInstance I (.there .here) an (by rfl) (by rfl)
 case hR=>
  intro w' az;exact aF (s1,.w gd r.de.length cap,t1,p1) trivial (show bK _ [J1 r s1,row 90 3 (.w gd r.de.length cap) D'.length (j5 D'),J3 r t1,J4 r p1] _ by rw [Ym];exact .cons c6 (.h1 (.cons bO (.cons bO .nil)))) az I
structure qh where
 fr:Int
 tk:List gL
 v:Value
def qh.cells (x:qh):List Value:=[.q x.fr,x.v]
def tK (l:List qh):List (List Value):=l.map qh.cells
theorem ln (l:List qh):(tK l).length=l.length:=by simp [tK]
theorem AA {l:List qh} (h:k<l.length):(tK l)[k]? = some (l[k]).cells:=by simp [tK,h]
theorem D8 {l:List qh} (h:k<l.length):tK l≠[]:=by intro e;have:=congrArg List.length e;rw [ln] at this;simp at this;subst this;simp at h
def HD (w:World) (l:List qh):Prop:=∀ x∈l,Rd w x.v 2 (jQ x.tk)/\xF w x.tk
theorem HD.keeps {w w':World} {l:List qh} (h:HD w l) (hk:aH [] w w'):HD w' l:=fun x hx=>⟨(h x hx).1.keeps hk,(h x hx).2.keeps hk⟩
def eH (l:List qh):List Od:=l.map fun x=>⟨x.fr,du x.tk⟩
theorem uQ (l:List qh):(eH l).length=l.length:=Zd _
theorem Cl {l:List qh} (h:k<l.length):(eH l).getD k Od.zero=⟨l[k].fr,du l[k].tk⟩:=by
 unfold eH;rw [Zk,ZJ,Zc h];rfl
theorem N3 {lv:Value} {l:List qh} {p:qh->Bool} {first cap:List Value} [bQ T_ f] {w:World} (h:Rd w lv 2 (tK l)) (cG:∀ x∈l,∀ w',aH [] w w'->ao T_ f (first++[.agg x.cells.toArray]++cap) w' (.bool (p x))) :
  ao T_ 173 [lv,.func (.func f) first.toArray cap.toArray] w (.q (gH p l)):=by
 obtain ⟨a,cp,b,o,rfl,dD,cr,ha,hc⟩:=h;rw [ln] at *;unfold maxLen at cr;refine ak func173 I I ?_;refine Jr<|Ja I<|Jn<|Jq<|Jr<|Jv I<|JI I<|Jv I<|Jn<|J0 ?_;refine bd (fun k:Nat=>k<=l.length/\∀ i,i<k->(l[i]?.map p).getD false=false) (fun k=>[(8,.int .i64 k),(7,.int .i64 l.length),(0,.slice a l.length cp),(1,.func (.func f) first.toArray cap.toArray)]) (fun _=>[]) (fun k=>l.length-k) ?_ ?_
 ·apply aJ 0 ⟨Zi _,fun i h=>by omega⟩
  case hs1=>exact cB
  case ht=>(try simp only [Ze,Zf,Za]);exact .nil
 rintro k ⟨hk,hf⟩;by_cases aN:k<l.length
 ·have c8:=ha (D8 aN);have aG:=(hc k _ (AA aN)).2;have iE:=cG _ (Zj aN);have hps:(l[k]?.map p).getD false=p l[k]:=by simp [aN]
  unfold qh.cells at aG iE
  (refine Jr<|JA I<|Jn<|Jq<|Jd I fun aA=>Jk<|Jq<|J0<|Jr<|Jv I<|Ja I<|Ji<|Jv I<|Jv I<|Jv I<|ab (gr c8 aA) I<|ab (iD (eO.base aG I)) I<|aj bS I (fun w' az=>(iE w' (Mem.keeps az)))<|Jn<|oq I (fun aA=>?_) fun aA=>?_;refine Jr<|Jv I<|Ja I<|Jn<|Je<|Jm<|Jh<|Jh<|Jm<|Jh<|JT ?_;rotate_left;refine Jw<|Jj<|Jt<|Jg<|JB I (by omega)<|Jv I<|Jn ?_;rotate_right)
  ·rw [gG hf aN aA]
  ·apply aI (k+1) ⟨by omega,fun i hi=>by
    by_cases e:i=k
    ·rw [e,hps];exact aA
    ·exact hf i (by omega)⟩ (by omega)
   case hs1=>exact cB
   case ht=>(try simp only [Ze,Zf,Za]);exact .nil
 ·obtain rfl:k=l.length:=by omega
  refine Jr<|JA I<|Jn<|Jq<|Jc I fun aA=>Jp<|Jl<|Jo<|Jt<|Jr<|Ja I<|Jn<|Je<|JT ?_;rw [fL hf]
theorem Nc {x:qh} {f:Int} (f1:w.cell? ⟨b,0,none⟩=some (.q f)):ao T_ 174 [.agg x.cells.toArray,.p b] w (.bool (decide (f<x.fr))):=by
 unfold qh.cells;refine ak func174 I I ?_
 (refine Jr<|Jy I I fun _ _=>Ja I<|Ji<|bN I I ae<|JL I .here I<|ab (ag (.of I) (At.base f1 I)) I<|JE I<|Ja I<|Jn<|Je<|JT ?_)
 rfl
def NH (r:Ro) (l:List Od):Int:=if fT r≠0 then fT r else Wp r l
def Th (r:Ro) (l:List Od):Int:=ba [fT r,bT (decide ((16:Int)<(l.length:Nat))) 5]
theorem Rh (r:Ro) (l:List Od):NH r l=if Th r l≠0 then Th r l else jK (Mg r l) l.length:=by
 unfold NH Th Wp;by_cases h1:fT r=0
 ·rw [if_neg (not_not_intro h1)];by_cases h2:(16:Int)<(l.length:Nat)
  ·rw [if_pos h2,if_pos (by rw [h1,decide_eq_true h2];decide),h1,decide_eq_true h2];rfl
  ·rw [if_neg h2,if_neg (by rw [h1,decide_eq_false h2];decide)]
 ·have:ba [fT r,bT (decide ((16:Int)<(l.length:Nat))) 5]=fT r:=by unfold ba;rw [if_pos h1]
  rw [if_pos h1,this,if_pos h1]
def J9 (l:List qh) (k:Nat):Int:=if k=0 then -1 else ((eH l).getD (k-1) Od.zero).fr
theorem Rq {l:List qh} (h:k<l.length):Mg r (eH l) k=ba [gC l[k].fr 0 10000000,bT (decide (l[k].fr<=J9 l k)) 11,Bm r (du l[k].tk)]:=by
 unfold Mg J9;have:(eH l)[k]? = some ⟨l[k].fr,du l[k].tk⟩:=by unfold eH;rw [ZJ,Zc h];rfl
 rw [this];rfl
theorem GR {l:List qh} (h:k<l.length):J9 l (k+1)=l[k].fr:=by
 unfold J9;rw [if_neg (by omega),ZaK,Cl h]
set_option maxHeartbeats 1000000 in
theorem yk {s d t p kv:Value} {l:List qh} (h:RR w r s d t p) (cJ:me r) (hw:Rd w kv 2 (tK l)) (hM:HD w l) :
  ao T_ 171 [RA r s d t p,kv] w (.q (NH r (eH l))):=by
 obtain ⟨h1,h2,h3,h4⟩:=h.one;obtain ⟨aw,cw,bw,ow,rfl,KZ,wo,PO,CD⟩:=hw;rw [ln] at *;unfold maxLen at wo;have rS:=uQ l;have fB:∀ w',aH [] w w'->ao T_ 34 [.agg #[.int .i64 r.lv,.int .i64 r.ma,s,d,t,p]] w' (.int .i64 (fT r)):=fun w' hk=>eT (h.keeps hk) cJ
 have hX:=Rh r (eH l);have hA:Th r (eH l)=ba [fT r,bT (decide ((16:Int)<(l.length:Nat))) 5]:=by unfold Th;rw [rS]
 unfold RA;refine ak func171 I I ?_
 (refine Jr<|Jy I I fun _ _=>Ja I<|Jn<|Jq<|Jr<|ab (cN .here) I<|aj bS I (fun w' az=>(fB w' (Mem.keeps az)))<|Jv I<|JI I<|JE I<|aj bo I (fun w' az=>(dO _ 5 w'))<|bn (aB (.o I (.o I .nil)) I I I I) I fun _ _=>aj bS I (fun w' az=>(dE (Mem.dB az .here I I) (cg.cons (cg.cons cg.nil))))<|Ja I<|Ji<|Jv I<|JD I<|Jn<|gR I (fun aA=>?_) fun aA=>?_;refine Jr<|Jv I<|Ja I<|Jn<|Ju<|JT ?_;rotate_left;refine Jk<|Jr<|Ja I<|Jn<|Jq<|Jr<|Jv I<|JI I<|Jv I<|Jn<|J0 ?_;rotate_right)
 ·rw [hX,hA,if_pos aA]
 have Bw:Th r (eH l)=0:=by rw [hA];exact Zr.1 aA
 rw [if_neg (not_not_intro Bw),rS] at hX;clear aA;rename_i b2 tX bq lN
 refine bd (fun k:Nat=>k<=l.length/\∀ i,i<k->Mg r (eH l) i=0) (fun k=>[(23,.q (k:Nat)),(22,.q (l.length:Nat)),(21,.slice aw l.length cw),(6,.q (J9 l k)),(2,.p b2)])
  (fun k=>[JP b2 r s d t p]) (fun k=>l.length-k) ?_ ?_
 ·apply aJ 0 ⟨Zi _,fun i hi=>by omega⟩
  case hs1=>exact cB
  case ht=>(try simp only [Ze,Zf,Za]);exact .cons (.there .here) .nil
 rintro k ⟨hk,hf⟩;by_cases aN:k<l.length
 ·have AT:=PO (D8 aN);have aG:=(CD k _ (AA aN)).2;unfold qh.cells at aG;have hx:=hM _ (Zj aN);have jJ:=Rq (r:=r) aN;have AN:=GR aN;generalize l[k]=x at aG hx jJ AN ⊢;obtain ⟨xf,xt,xv⟩:=x;dsimp only at aG hx jJ AN ⊢;have jc:=Rd.one hx.1;have htk:∀ w',aH [] w w'->ao T_ 164 [.agg #[.int .i64 r.lv,.int .i64 r.ma,s,d,t,p],xv] w' (.int .i64 (Bm r (du xt))):=fun w' hk=>se (h.keeps hk) (hx.1.keeps hk) (hx.2.keeps hk)
  (refine Jr<|JA I<|Jn<|Jq<|Jd I fun aA=>Jk<|Jq<|J0<|Jr<|ab (aC (.of I) (.of I) AT (by omega) aA bu) I<|ab (iD (eO.base aG I)) I<|Jz I I fun _ _=>aq (.of I) (.of I) .here I I (gK I jc) (bF I) an<|Jn<|Jq<|Jq ?_)
  with_reducible refine cS 13 (by kernel_rfl) ?_
  (refine ar k9 I<|ar (ic .here) I<|aZ ek I (fun w' az=>(mC xf 0 10000000 w'))<|ar k9 I<|ar (ic .here) I<|ar kL I<|ar (mi (.of I) (.of I)) I<|aZ bo I (fun w' az=>(dO _ 11 w'))<|ar (cN (.there .here)) I<|ar k9 I<|ar (ic .here) I<|aZ bo I (fun w' az=>(htk w' (Mem.keeps az)))<|eA (aB (.o I (.o I (.o I .nil))) I I I I) I I ?_)
  with_reducible refine dz I fun b55 Y4=>?_
  (refine aj bS I (fun w' az=>(dE (Mem.dB az .here I I) (cg.cons (cg.cons (cg.cons cg.nil)))))<|Ja I<|Ji<|Jv I<|JD I<|Jn<|gR I (fun aA=>?_) fun aA=>?_;refine Jr<|Jv I<|Ja I<|Jn<|Ju<|Jm<|Jh<|Jh<|Jm<|Jh<|JT ?_;rotate_left;refine Jk<|Jg<|bN I I ae<|JL I (.there .here) I<|Ja I<|Jx<|Jj<|Jt<|Jg<|JB I (by omega)<|Jv I<|Jn ?_;rotate_right)
  ·rw [<- jJ] at aA ⊢;have hB:jK (Mg r (eH l)) l.length=Mg r (eH l) k:=fj hf aN aA;rw [hX,hB]
  have hz:Mg r (eH l) k=0:=by rw [jJ];exact Zr.1 aA
  rw [<- AN];apply aI (k+1) ⟨by omega,fun i hi=>by
   by_cases e:i=k
   ·rw [e];exact hz
   ·exact hf i (by omega)⟩ (by omega)
  case hs1=>exact cB
  case ht=>(try simp only [Ze,Zf,Za]);exact .cons bO .nil
 ·obtain rfl:k=l.length:=by omega
  have SC:jK (Mg r (eH l)) l.length=0:=dC.2 hf;refine Jr<|JA I<|Jn<|Jq<|Jc I fun aA=>Jp<|Jl<|Jo<|Jt<|Jr<|Ja I<|Jn<|Je<|JT ?_;rw [hX,SC]
set_option maxHeartbeats 2000000 in
theorem Pq {s d t p kv:Value} {l:List qh} (h:RR w r s d t p) (Dk:fT r=0) (hw:Rd w kv 2 (tK l)) (hM:HD w l) (hO:Pc r (eH l)) :
  bB T_ 172 [RA r s d t p,kv] w [] (fun _:Value×Value×Value×Value=>True) (fun x=>.tuple #[RA (iT r (eH l)).1 x.1 x.2.1 x.2.2.1 x.2.2.2,.q (iT r (eH l)).2.1,.q (iT r (eH l)).2.2]) (fun x=>kC (iT r (eH l)).1 x):=by
 have dw:=uo Dk;have AM:=dw.lim;have AN:=dw.len;have cJ:me r:=by unfold me;omega
 have Hy:=ni dw dw.val;have hlf:=hO.Ez;rw [uQ] at hlf;have rS:=uQ l;obtain ⟨h1,h2,h3,h4⟩:=h.one;obtain ⟨a,cp,b,o,rfl,dD,cr,ha,hc⟩:=hw;rw [ln] at *;unfold maxLen at cr;have hX:iT r (eH l)=if jK (Ck r (eH l)) l.length=0 then (Pp r (eH l) l.length,0,0) else (Ro.nil,((O7 (Ck r (eH l)) l.length:Nat):Int),jK (Ck r (eH l)) l.length):=by unfold iT;rw [rS]
 unfold RA;refine aV func172 I I ?_;refine Jr<|Jy I I fun _ _=>Jz I I fun _ _=>Ja I<|Ja I<|Ji<|ab (cN (.there .here)) I ?_;rename_i b2 tX b4 xB;refine JN bS I (fun w1 aY=>Ar (h.keeps aY.keeps) cJ (by omega)) ?_;intro y _;dsimp only [id_eq,Zb,Za];obtain ⟨s1,d1,t1,p1⟩:=y;dsimp only;unfold RA PB;refine dI (r:=r) (s:=s1) (d:=d1) (t:=t1) (p:=p1) (by unfold kC PB;exact .h4 .nil) fun k1 k2 k3 k4=>?_
 (refine Jz I I fun _ _=>aq (.of I) (.of I) .here I I (hG I I k1 k2 k3 k4) (bF I) an<|Jn<|Jq<|Jr<|Jv I<|JI I<|Jv I<|Jn<|J0 ?_)
 rename_i b7 Ve
 refine bd (ι:=Nat×(Value×Value×Value×Value)×List Po) (fun y=>y.1<=l.length/\L4 r (eH l) y.1 y.2.2/\(∀ j,j<y.1->Ck r (eH l) j=0)/\y.2.1.1.oneCell'=true/\y.2.1.2.1.oneCell'=true/\y.2.1.2.2.1.oneCell'=true/\y.2.1.2.2.2.oneCell'=true) (fun y=>[(17,.q (y.1:Nat)),(16,.q (l.length:Nat)),(15,.slice a l.length cp),(7,.p b7),(4,.p b4)])
  (fun y=>[JP b7 r (y.2.1.1) (y.2.1.2.1) (y.2.1.2.2.1) (y.2.1.2.2.2),J1 r y.2.1.1,J2 r y.2.1.2.1,J3 r y.2.1.2.2.1,row 188 3 y.2.1.2.2.2 y.2.2.length (jb y.2.2),bA b4 (.cells #[.q 0,.q 0,.z,.z,.z,.z] 41 (0,0))]) (fun y=>l.length-y.1) ?_ ?_
 ·apply aJ (0,(s1,d1,t1,p1),r.po) ⟨Zi _,⟨I,dw.val⟩,fun j hj=>absurd hj (ZW j),k1,k2,k3,k4⟩
  case hs1=>exact cB
  case ht=>exact qv
 clear k1 k2 k3 k4 s1 d1 t1 p1;rintro ⟨i,⟨s1,d1,t1,p1⟩,q⟩ ⟨hi,Sz,Dl,k1,k2,k3,k4⟩;dsimp only at hi Sz Dl k1 k2 k3 k4 ⊢;have hqf:=ni dw Sz.val;by_cases aN:i<l.length
 ·have c8:=ha (D8 aN);have aG:=(hc i _ (AA aN)).2;have jS:=Zj aN;have hx:=hM _ jS;have sW:i<(eH l).length:=by omega
  have PI:=Cl aN;have hti:=hO.tk i sW;have WU:(eH l)[i].tk=du l[i].tk:=by
   rw [Zk,Zc sW,Zam] at PI;rw [PI]
  rw [WU] at hti;have KF:Ck r (eH l) i=(kg (r.wp q) (du l[i].tk)).2.2:=by unfold Ck;rw [Sz.eq,PI]
  have bj:Pp r (eH l) (i+1)=(kg (r.wp q) (du l[i].tk)).1:=by rw [Pp,Sz.eq,PI]
  have kc:=fun h0=>Sz.next Dk hO sW h0
  unfold qh.cells at aG;generalize l[i]=x at *;obtain ⟨xf,xt,xv⟩:=x;dsimp only at *;have jc:=Rd.one hx.1
  (refine Jr<|JA I<|Jn<|Jq<|Jd I fun aA=>Jk<|Jq<|J0<|Jr<|Jv I<|ab (gr c8 aA) I<|ab (iD (eO.base aG I)) I<|Jz I I fun _ _=>Ja I<|aq (.of I) (.of I) .here I I (gK I jc) (bF I) an<|Ji<|ab (cN (.there .here)) I<|bN I I ae<|JL I .here I ?_)
  refine JN bo I (fun w1 aY=>Fb (r:=r.wp q) (RR.wp (df aY bO I) (di aY c6 I) (dd aY dF I) (c7 aY fx I)) (dw.wp Sz.val) (by show q.length<=500;omega) (hx.1.keeps aY.keeps) (hx.2.keeps aY.keeps) (hti.wp q)) ?_;have fZ:∀ q',kg (r.wp q) (du xt)=(r.wp q',0,0)->True:=fun _ _=>trivial
  generalize kg (r.wp q) (du xt)=R at *;obtain ⟨R,at_,e_⟩:=R;rintro ⟨s2,d2,t2,p2⟩ _;dsimp only at KF bj ⊢;unfold RA;refine dI (r:=R) (s:=s2) (d:=d2) (t:=t2) (p:=p2) (bb _ _) fun m1 m2 m3 m4=>?_;clear fZ
  (refine Jv I<|JJ I I<|JJ I I<|JJ I I<|Jz I I fun _ _=>aq (.of I) (.of I) .here I I (hG I I m1 m2 m3 m4) (bF I) an<|Ja I<|Ja I<|Jn<|Jq<|Jr<|Jv I<|JD I<|Jn<|gR I (fun aA=>?_) fun aA=>?_;refine Jr<|ab (aX .nil an) I<|Jv I<|Jv I<|aq (.of I) (.of I) Dc I I (hG I I I I I I) (bF I) an<|Ja I<|Ja I<|Jn<|Ju<|Jm<|Jh<|Jh<|Jm<|Jh ?_;rotate_left;refine Jk<|Jg<|ab (cN .here) I<|aq (.of I) (.of I) qY I I (hG I I m1 m2 m3 m4) (bF I) an<|Jx<|Jj<|Jt<|Jg<|JB I (by omega)<|Jv I<|Jn ?_;rotate_right)
  ·have hne:Ck r (eH l) i≠0:=by rw [KF];exact aA
   have hE:jK (Ck r (eH l)) l.length=e_:=(fj Dl aN hne).trans KF;have e4:iT r (eH l)=(Ro.nil,((i:Nat):Int),e_):=by rw [hX,hE,if_neg aA,O6 Dl aN hne]
   rw [e4];dsimp only;refine aR 186 2<|aR 90 3<|aR 187 3<|aR 188 3 ?_
   with_reducible first|apply aP|apply aQ
   case he=>exact l8 I inferInstance I dF an (by rfl) (by rfl) (by rfl)
   case hR=>
    intro w' az;exact aF (.z,.z,.z,.z) trivial (by exact .cons c6 (.cons bO (.cons (.there .here) (.h1 .nil)))) az I
  have hz:e_=0:=Zr.1 aA;have ho0:Ck r (eH l) i=0:=KF.trans hz;obtain ⟨q',xA,_⟩:=kc ho0;have Vn:R=r.wp q':=bj.symm.trans xA.eq;subst Vn;apply aI (i+1,(s2,d2,t2,p2),q') ⟨by show i+1<=_;omega,xA,fun j hj=>by
   by_cases e:j=i
   ·rw [e];exact ho0
   ·exact Dl j (by have:j<i+1:=hj;omega),m1,m2,m3,m4⟩ (by show l.length-(i+1)<l.length-i;omega)
  case hs1=>exact cB
  case ht=>
   dsimp only;have w1:(r.wp q').lv=r.lv:=rfl;have w2:(r.wp q').ma=r.ma:=rfl;have w3:(r.wp q').sr=r.sr:=rfl;have w4:(r.wp q').de=r.de:=rfl;have w5:(r.wp q').ti=r.ti:=rfl;have w6:(r.wp q').po=q':=rfl
   try unfold J1 J2 J3
   try unfold J4
   rw [w1,w2,w3,w4,w5,w6];exact .h1 (.cons (.there .here) (.cons (.there .here) (.cons (.there .here) (.cons (.there .here) (.cons qY .nil)))))
 ·have e:i=l.length:=by omega
  subst e
  (refine Jr<|JA I<|Jn<|Jq<|Jc I fun aA=>Jp<|Jl<|Jo<|Jt<|Jr<|ab (cN .here) I<|aq (.of I) (.of I) fx I I (hG I I k1 k2 k3 k4) (bF I) an<|Ja I<|Ja I<|Jn<|Je ?_)
  have hE:jK (Ck r (eH l)) l.length=0:=dC.2 Dl;have e4:iT r (eH l)=(r.wp q,0,0):=by rw [hX,hE,if_pos I,Sz.eq]
  rw [e4];dsimp only
  with_reducible first|apply aP|apply aQ
  case he=>exact l8 I inferInstance I .here an (by rfl) (by rfl) (by rfl)
  case hR=>
   intro w' az;exact aF (s1,d1,t1,p1) trivial (by exact .cons bO (.cons bO (.cons bO (.cons bO .nil)))) az I
theorem Rg (h:NH r l=0):fT r=0/\Pc r l:=by
 unfold NH at h;by_cases c:fT r=0
 ·rw [if_neg (not_not_intro c)] at h;exact ⟨c,ods h⟩
 ·rw [if_pos c] at h;exact absurd h c
def g4:Value->Value×Value×Value×Value
 | .agg a=>(a.getD 0 (.slice none 0 0),a.getD 1 (.slice none 0 0),a.getD 2 (.slice none 0 0),a.getD 3 (.slice none 0 0))
 | _=>(.slice none 0 0,.slice none 0 0,.slice none 0 0,.slice none 0 0)
theorem kr (x:Value×Value×Value×Value):∃ v,g4 v=x:=⟨.agg #[x.1,x.2.1,x.2.2.1,x.2.2.2],I⟩
def Ij (r:Ro) (o:ByteArray) (f:Int):Int:=ba [ux r o,gC f 0 10000000]
def q8 (r:Ro) (l:List Od) (o:ByteArray) (f:Int):Int:=if NH r l≠0 then NH r l else if Ij r o f≠0 then Ij r o f else (iT r (l.take (iF l f))).2.2
def um (r:Ro) (l:List Od) (o:ByteArray) (f:Int):List ByteArray:=if q8 r l o f≠0 then [] else cL (iT r (l.take (iF l f))).1 o
theorem N1 (l:List qh) (f:Int):gH (fun x:qh=>decide (f<x.fr)) l=if iF (eH l) f<l.length then ((iF (eH l) f:Nat):Int) else -1:=by
 have hn:iF (eH l) f=l.findIdx fun x=>decide (f<x.fr):=by
  unfold iF eH;rw [List.findIdx_map];rfl
 rw [hn];by_cases c:(l.findIdx fun x=>decide (f<x.fr))<l.length
 ·rw [if_pos c];refine gG (fun i hi=>?_) c (List.findIdx_getElem (w:=c));have:=List.not_of_lt_findIdx hi;rw [Zc (by omega)];simpa using this
 ·rw [if_neg c];refine fL fun i hi=>?_;have:=List.not_of_lt_findIdx (p:=fun x:qh=>decide (f<x.fr)) (xs:=l) (i:=i) (by omega)
  rw [Zc hi];simpa using this
theorem Pc.take (h:Pc r l) (n:Nat):Pc r (l.take n):=by
 refine ⟨by rw [Zs];have:=h.Ez;omega,fun k hk=>?_,fun i j hi hj wA=>?_,fun k hk=>?_⟩
 ·rw [Zs] at hk;rw [ZaE];exact h.fr k (by omega)
 ·rw [Zs] at hi hj;rw [ZaE,ZaE];exact h.inc i j (by omega) (by omega) wA
 ·rw [Zs] at hk;rw [ZaE];exact h.tk k (by omega)
theorem Fi (hc:fT r=0) (hO:Pc r l) (h:(iT r l).2.2=0):∃ q,gV r q/\(iT r l).1=r.wp q:=by
 unfold iT at h ⊢;by_cases c:jK (Ck r l) l.length=0
 ·rw [if_pos c];obtain ⟨q,hq⟩:=Ix hc hO l.length (ZC _) (dC.1 c);exact ⟨q,hq.val,hq.eq⟩
 ·rw [if_neg c] at h;exact absurd h c
set_option maxHeartbeats 2000000 in
theorem S7 {s d t p kv:Value} {l:List qh} (o:ByteArray) (f:Int) {w:World} (h:RR w r s d t p) (cJ:me r) (hw:Rd w kv 2 (tK l)) (hM:HD w l) :
  bB T_ 64 [RA r s d t p,kv,.string o,.q f] w [] (fun _:Value=>True) (fun v=>.tuple #[v,.q (q8 r (eH l) o f)]) (fun v=>[row 9 1 v (um r (eH l) o f).length (aO (um r (eH l) o f))]):=by
 obtain ⟨h1,h2,h3,h4⟩:=h.one;have Bp:=hw;obtain ⟨a,cp,b,ow,rfl,dD,cr,ha,hc⟩:=hw;rw [ln] at *;unfold maxLen at cr;have rS:=uQ l;have KF:∀ w',aH [] w w'->ao T_ 171 [.agg #[.int .i64 r.lv,.int .i64 r.ma,s,d,t,p],.slice a l.length cp] w' (.int .i64 (NH r (eH l))):=fun w' hk=>yk (h.keeps hk) cJ (Bp.keeps hk) (hM.keeps hk)
 have lp:∀ w',aH [] w w'->ao T_ 112 [.agg #[.q r.lv,.q r.ma,s,d,t,p],.string o] w' (.q (ux r o)):=fun w' hk=>eM o (h.keeps hk)
 unfold RA;refine aV func64 I I ?_
 (refine Jr<|Jy I I fun _ _=>Jy I I fun _ _=>Ja I<|Ja I<|Jn<|Jq<|Jr<|ab (cN (.there .here)) I<|Jv I<|aj bo I (fun w' az=>(KF w' (Mem.keeps az)))<|Ja I<|Ji<|Jv I<|JD I<|Jn<|gR I (fun aA=>?_) fun aA=>?_;refine Jr<|Jv I<|Ja I<|Ja I<|Jn<|Ju ?_;rotate_left;refine Jk<|Jq<|Jq ?_;rotate_right)
 ·have e1:q8 r (eH l) o f=NH r (eH l):=if_pos aA;have e2:um r (eH l) o f=[]:=if_pos (by rw [e1];exact aA);rw [e1,e2];refine aR 9 1 ?_
  with_reducible first|apply aP|apply aQ
  case he=>exact gl I I I
  case hR=>
   intro w' az;exact aF (.z) trivial (by exact .h1 .nil) az I
 have TA:q8 r (eH l) o f=if Ij r o f≠0 then Ij r o f else (iT r ((eH l).take (iF (eH l) f))).2.2:=if_neg aA
 obtain ⟨Dk,hO⟩:=Rg (Zr.1 aA);clear aA;rename_i b4 xB b7 Ve
 with_reducible refine cS 6 (by kernel_rfl) ?_
 (refine ar (cN (.there .here)) I<|ar kL I<|aZ bo I (fun w' az=>(lp w' (Mem.keeps az)))<|ar (ic .here) I<|aZ ek I (fun w' az=>(mC f 0 10000000 w'))<|eA (aB (.o I (.o I .nil)) I I I I) I I ?_)
 with_reducible refine dz I fun bq lN=>?_
 (refine aj bS I (fun w' az=>(dE (Mem.dB az .here I I) (cg.cons (cg.cons cg.nil))))<|Ja I<|Ji<|Jv I<|JD I<|Jn<|gR I (fun aA=>?_) fun aA=>?_;refine Jr<|Jv I<|Ja I<|Ja I<|Jn<|Ju ?_;rotate_left;refine Jk<|Jr<|Jv I<|ab (bI .nil (.o I .nil)) I ?_;rotate_right)
 ·have e1:q8 r (eH l) o f=Ij r o f:=by rw [TA];exact if_pos aA
  have e2:um r (eH l) o f=[]:=if_pos (by rw [e1];exact aA);rw [e1,e2];refine aR 9 1 ?_
  with_reducible first|apply aP|apply aQ
  case he=>exact gl I I I
  case hR=>
   intro w' az;exact aF (.z) trivial (by exact .h1 .nil) az I
 have eq2:q8 r (eH l) o f=(iT r ((eH l).take (iF (eH l) f))).2.2:=by rw [TA];exact if_neg aA
 clear TA;have TA:=eq2;have WD:o∈bY r:=by
  have:=(bC (by decide)).1 (bP.1 (Zr.1 aA) (ux r o) (by simp));rwa [decide_eq_false_iff_not,cm,Classical.not_not] at this
 clear aA eq2
 with_reducible apply aj
 case hr=>exact bo
 case hd=>rfl
 case hc=>
  intro w' az;have f7:w'.cell? ⟨b7,0,none⟩=some (.q f):=At.lit (by exact Take.there .here) I w' az;exact N3 (f:=174) (p:=fun x:qh=>decide (f<x.fr)) (first:=[]) (cap:=[.p b7]) (Bp.keeps az.keeps) (fun x _ w2 eL=>Nc (cD f7 I eL))
 rw [N1];have RP:=Qy (eH l) f;rw [rS] at RP;by_cases kM:iF (eH l) f<l.length
 ·rw [if_pos kM];have RM:iF (eH l) f<=l.length:=RP;have RN:iF (eH l) f=iF (eH l) f:=rfl;refine Ja I<|Jn<|Jq<|Jr<|Jv I<|JA I<|Jn<|Jc I fun aA=>Jk<|Jq ?_;have wg:q8 r (eH l) o f=(iT r ((eH l).take (iF (eH l) f))).2.2/\um r (eH l) o f=if (iT r ((eH l).take (iF (eH l) f))).2.2≠0 then [] else cL (iT r ((eH l).take (iF (eH l) f))).1 o:=by
   have x1:q8 r (eH l) o f=(iT r ((eH l).take (iF (eH l) f))).2.2:=by rw [TA,RN]
   refine ⟨x1,?_⟩;unfold um;rw [x1,RN]
  have SA:=hO.take (iF (eH l) f);have nG:(eH l).take (iF (eH l) f)=eH (l.take (iF (eH l) f)):=by unfold eH;rw [ZaN]
  rw [nG] at wg SA;have wi:=Fi Dk SA;have ss:Rd w (Go.sliced a 0 (((iF (eH l) f):Nat):Int).toNat cp 2) 2 (tK (l.take (iF (eH l) f))):=by
   have:=Bp.sliced (l:=0) (m:=(iF (eH l) f)) (Zi _) RM;rw [Zy];rwa [List.drop_zero,show (tK l).take (iF (eH l) f)=tK (l.take (iF (eH l) f)) by unfold tK;rw [ZaN]] at this
  have hMn:HD w (l.take (iF (eH l) f)):=fun x hx=>hM x (Zbo hx)
  rw [wg.1,wg.2];have rP:∀ w',aH [] w w'->bB T_ 172 [.agg #[.q r.lv,.q r.ma,s,d,t,p],Go.sliced a 0 (((iF (eH l) f):Nat):Int).toNat cp 2] w' [] (fun _:Value×Value×Value×Value=>True) (fun x=>.tuple #[RA (iT r (eH (l.take (iF (eH l) f)))).1 x.1 x.2.1 x.2.2.1 x.2.2.2,.q (iT r (eH (l.take (iF (eH l) f)))).2.1,.q (iT r (eH (l.take (iF (eH l) f)))).2.2]) (fun x=>kC (iT r (eH (l.take (iF (eH l) f)))).1 x):=fun w' hk=>Pq (h.keeps hk) Dk (ss.keeps hk) (hMn.keeps hk) SA
  generalize iT r (eH (l.take (iF (eH l) f)))=R at wi rP ⊢;obtain ⟨R,at_,e_⟩:=R;dsimp only at wi rP ⊢
  with_reducible refine mE 10 [7,8] (by kernel_rfl) (Zt.2 ⟨pL I (by kernel_rfl) (by kernel_rfl),Zt.2 ⟨pL I (by kernel_rfl) (by kernel_rfl),fun _ h=>absurd h Zo⟩⟩) ?_
  (refine ah (fun β=>(bL (.of I) bO an (by rfl))) dJ I<|ah (fun β=>(aL (.of I))) dJ I<|ah (fun β=>(aL (.of I))) dJ I<|ah (fun β=>(gE (.of I) (.of I) (by omega) (by omega))) dJ I ?_)
  dsimp only [Nat.zero_add,Nat.reduceAdd]
  with_reducible apply cZ (ι:=Value×Value×Value×Value) (Φ:=fun _=>True) (val:=fun x=>.tuple #[.agg #[.q R.lv,.q R.ma,x.1,x.2.1,x.2.2.1,x.2.2.2],.q at_,.q e_]) (own:=fun x=>[J1 R x.1,J2 R x.2.1,J3 R x.2.2.1,J4 R x.2.2.2]) (g:=g4) (B:=[]) (args:=fun _=>[.agg #[.q r.lv,.q r.ma,s,d,t,p],Go.sliced a 0 (((iF (eH l) f):Nat):Int).toNat cp 2])
  case hg=>exact kr
  case hB=>rfl
  case hr=>exact fun β=>a8 (.of I) (.o I (.o I .nil)) inferInstance I
  case hd=>rfl
  case hc=>exact fun β w' hb=>rP w' hb.mem.keeps
  dsimp only [Nat.reduceAdd]
  with_reducible apply ah
  case hr=>(intro β;exact aL (.of I))
  case hi=>exact fun β β' h=>by simp only [h 4 (by kernel_rfl)]
  case hd=>rfl
  dsimp only [Nat.reduceAdd]
  with_reducible apply ah
  case hr=>(intro β;exact cC (.of I) I)
  case hi=>exact fun β β' h=>by simp only [h 4 (by kernel_rfl)]
  case hd=>rfl
  dsimp only [Nat.reduceAdd]
  (refine ah (fun β=>(cC (.of I) I)) dJ I<|ah (fun β=>(cC (.of I) I)) dJ I ?_)
  refine lG (fun β=>(kh I)) (fun _ _ _=>rfl) I ?_;refine eG fun β=>?_;dsimp only [dX,Za,Zb,List.append_eq,Nat.reduceAdd];generalize ep (β 9)=Hq;generalize g4 (β 4)=y;obtain ⟨s1,d1,t1,p1⟩:=y;clear β;dsimp only;refine dI (r:=R) (s:=s1) (d:=d1) (t:=t1) (p:=p1) (by unfold kC PB;exact .h4 .nil) fun m1 m2 m3 m4=>?_;refine cI (rs:=[10]) (by kernel_rfl) (by simp) (Zt.2 ⟨?_,fun _ h=>absurd h Zo⟩);refine cQ I ?_
  (refine aq (.of I) (.of I) dF I I (hG I I m1 m2 m3 m4) (bF I) an<|Jn ?_)
  refine cI (rs:=[11]) (by kernel_rfl) (by simp) (Zt.2 ⟨?_,fun _ h=>absurd h Zo⟩);refine cQ I ?_;refine Ja I<|Jn ?_;refine cI (rs:=[12]) (by kernel_rfl) (by simp) (Zt.2 ⟨?_,fun _ h=>absurd h Zo⟩);refine cQ I ?_;refine Ja I<|Jn ?_
  with_reducible refine cn (by kernel_rfl) ?_
  clear rP;by_cases Bu:e_=0
  ·obtain ⟨q,hVq,Vn⟩:=wi Bu;clear wi;rw [if_neg (not_not_intro Bu)];subst Vn;subst Bu;have UK:=(uo Dk).wp hVq;have AM:=UK.lim;have AN:=UK.len
   (refine Jt<|Jq<|Jr<|Jv I<|JD I<|Jn<|Jc I fun aA=>Jk<|Jr<|ab (cN .here) I<|Jv I ?_)
   have Yh:(cL (r.wp q) o).length=(r.wp q).lv.toNat:=by unfold cL;simp
   rw [Yh];generalize r.wp q=R at *;refine JN bo I (fun w1 aY=>wE (r:=R) o ⟨df aY (by exact Take.there .here) I,di aY bO I,dd aY c6 I,c7 aY dF I⟩ (by omega) (by omega)) ?_;intro hv _;dsimp only [id_eq,Zb,Za];refine aT (E:=9) (sz:=1) (v:=hv) (by exact .here) fun va vc e=>?_;subst e;refine Ja I<|Ja I<|Jn<|Je ?_
   with_reducible first|apply aP|apply aQ
   case he=>exact gl I I I
   case hR=>
    intro w' az;exact aF (.slice va R.lv.toNat vc) trivial (by exact .h1 .nil) az I
  ·clear wi;rw [if_pos Bu];refine Jt<|Jq<|Jr<|Jv I<|JD I<|Jn<|Jd I fun aA=>Jr<|Jv I<|Ja I<|Ja I<|Jn<|Ju ?_;refine aR 9 1 ?_
   with_reducible first|apply aP|apply aQ
   case he=>exact gl I I I
   case hR=>
    intro w' az;exact aF (.z) trivial (by exact .h1 .nil) az I
 ·rw [if_neg kM];have RM:l.length<=l.length:=ZC _;have RN:iF (eH l) f=l.length:=by omega
  refine Ja I<|Jn<|Jq<|Jr<|Jv I<|JA I<|Jn<|Jd I fun aA=>Jg<|Jv I<|JI I<|Ja I<|Jn<|Jq ?_;have wg:q8 r (eH l) o f=(iT r ((eH l).take l.length)).2.2/\um r (eH l) o f=if (iT r ((eH l).take l.length)).2.2≠0 then [] else cL (iT r ((eH l).take l.length)).1 o:=by
   have x1:q8 r (eH l) o f=(iT r ((eH l).take l.length)).2.2:=by rw [TA,RN]
   refine ⟨x1,?_⟩;unfold um;rw [x1,RN]
  have SA:=hO.take l.length;have nG:(eH l).take l.length=eH (l.take l.length):=by unfold eH;rw [ZaN]
  rw [nG] at wg SA;have wi:=Fi Dk SA;have ss:Rd w (Go.sliced a 0 ((l.length:Nat):Int).toNat cp 2) 2 (tK (l.take l.length)):=by
   have:=Bp.sliced (l:=0) (m:=l.length) (Zi _) RM;rw [Zy];rwa [List.drop_zero,show (tK l).take l.length=tK (l.take l.length) by unfold tK;rw [ZaN]] at this
  have hMn:HD w (l.take l.length):=fun x hx=>hM x (Zbo hx)
  rw [wg.1,wg.2];have rP:∀ w',aH [] w w'->bB T_ 172 [.agg #[.q r.lv,.q r.ma,s,d,t,p],Go.sliced a 0 ((l.length:Nat):Int).toNat cp 2] w' [] (fun _:Value×Value×Value×Value=>True) (fun x=>.tuple #[RA (iT r (eH (l.take l.length))).1 x.1 x.2.1 x.2.2.1 x.2.2.2,.q (iT r (eH (l.take l.length))).2.1,.q (iT r (eH (l.take l.length))).2.2]) (fun x=>kC (iT r (eH (l.take l.length))).1 x):=fun w' hk=>Pq (h.keeps hk) Dk (ss.keeps hk) (hMn.keeps hk) SA
  generalize iT r (eH (l.take l.length))=R at wi rP ⊢;obtain ⟨R,at_,e_⟩:=R;dsimp only at wi rP ⊢
  with_reducible refine mE 10 [7,8] (by kernel_rfl) (Zt.2 ⟨pL I (by kernel_rfl) (by kernel_rfl),Zt.2 ⟨pL I (by kernel_rfl) (by kernel_rfl),fun _ h=>absurd h Zo⟩⟩) ?_
  (refine ah (fun β=>(bL (.of I) bO an (by rfl))) dJ I<|ah (fun β=>(aL (.of I))) dJ I<|ah (fun β=>(aL (.of I))) dJ I<|ah (fun β=>(gE (.of I) (.of I) (by omega) (by omega))) dJ I ?_)
  dsimp only [Nat.zero_add,Nat.reduceAdd]
  with_reducible apply cZ (ι:=Value×Value×Value×Value) (Φ:=fun _=>True) (val:=fun x=>.tuple #[.agg #[.q R.lv,.q R.ma,x.1,x.2.1,x.2.2.1,x.2.2.2],.q at_,.q e_]) (own:=fun x=>[J1 R x.1,J2 R x.2.1,J3 R x.2.2.1,J4 R x.2.2.2]) (g:=g4) (B:=[]) (args:=fun _=>[.agg #[.q r.lv,.q r.ma,s,d,t,p],Go.sliced a 0 ((l.length:Nat):Int).toNat cp 2])
  case hg=>exact kr
  case hB=>rfl
  case hr=>exact fun β=>a8 (.of I) (.o I (.o I .nil)) inferInstance I
  case hd=>rfl
  case hc=>exact fun β w' hb=>rP w' hb.mem.keeps
  dsimp only [Nat.reduceAdd]
  with_reducible apply ah
  case hr=>(intro β;exact aL (.of I))
  case hi=>exact fun β β' h=>by simp only [h 4 (by kernel_rfl)]
  case hd=>rfl
  dsimp only [Nat.reduceAdd]
  with_reducible apply ah
  case hr=>(intro β;exact cC (.of I) I)
  case hi=>exact fun β β' h=>by simp only [h 4 (by kernel_rfl)]
  case hd=>rfl
  dsimp only [Nat.reduceAdd]
  (refine ah (fun β=>(cC (.of I) I)) dJ I<|ah (fun β=>(cC (.of I) I)) dJ I ?_)
  refine lG (fun β=>(kh I)) (fun _ _ _=>rfl) I ?_;refine eG fun β=>?_;dsimp only [dX,Za,Zb,List.append_eq,Nat.reduceAdd];generalize ep (β 9)=Hq;generalize g4 (β 4)=y;obtain ⟨s1,d1,t1,p1⟩:=y;clear β;dsimp only;refine dI (r:=R) (s:=s1) (d:=d1) (t:=t1) (p:=p1) (by unfold kC PB;exact .h4 .nil) fun m1 m2 m3 m4=>?_;refine cI (rs:=[10]) (by kernel_rfl) (by simp) (Zt.2 ⟨?_,fun _ h=>absurd h Zo⟩);refine cQ I ?_
  (refine aq (.of I) (.of I) dF I I (hG I I m1 m2 m3 m4) (bF I) an<|Jn ?_)
  refine cI (rs:=[11]) (by kernel_rfl) (by simp) (Zt.2 ⟨?_,fun _ h=>absurd h Zo⟩);refine cQ I ?_;refine Ja I<|Jn ?_;refine cI (rs:=[12]) (by kernel_rfl) (by simp) (Zt.2 ⟨?_,fun _ h=>absurd h Zo⟩);refine cQ I ?_;refine Ja I<|Jn ?_
  with_reducible refine cn (by kernel_rfl) ?_
  clear rP;by_cases Bu:e_=0
  ·obtain ⟨q,hVq,Vn⟩:=wi Bu;clear wi;rw [if_neg (not_not_intro Bu)];subst Vn;subst Bu;have UK:=(uo Dk).wp hVq;have AM:=UK.lim;have AN:=UK.len
   (refine Jt<|Jq<|Jr<|Jv I<|JD I<|Jn<|Jc I fun aA=>Jk<|Jr<|ab (cN .here) I<|Jv I ?_)
   have Yh:(cL (r.wp q) o).length=(r.wp q).lv.toNat:=by unfold cL;simp
   rw [Yh];generalize r.wp q=R at *;refine JN bo I (fun w1 aY=>wE (r:=R) o ⟨df aY (by exact Take.there .here) I,di aY bO I,dd aY c6 I,c7 aY dF I⟩ (by omega) (by omega)) ?_;intro hv _;dsimp only [id_eq,Zb,Za];refine aT (E:=9) (sz:=1) (v:=hv) (by exact .here) fun va vc e=>?_;subst e;refine Ja I<|Ja I<|Jn<|Je ?_
   with_reducible first|apply aP|apply aQ
   case he=>exact gl I I I
   case hR=>
    intro w' az;exact aF (.slice va R.lv.toNat vc) trivial (by exact .h1 .nil) az I
  ·clear wi;rw [if_pos Bu];refine Jt<|Jq<|Jr<|Jv I<|JD I<|Jn<|Jd I fun aA=>Jr<|Jv I<|Ja I<|Ja I<|Jn<|Ju ?_;refine aR 9 1 ?_
   with_reducible first|apply aP|apply aQ
   case he=>exact gl I I I
   case hR=>
    intro w' az;exact aF (.z) trivial (by exact .h1 .nil) az I
end Go.Proofs.A1
namespace Go.Proofs
open Go.Shelf
def Tryz.tP:Go.Shelf.Ren:=⟨fun | 156=>278 | 165=>326 | 166=>327 | 169=>328 | 240=>357 | 241=>358 | 276=>379 | 277=>380 | n=>n,fun | 31=>32 | 9=>9 | 3=>3 | 4=>4 | 0=>0 | 20=>20 | 72=>397 | 76=>401 | 70=>395 | 37=>351 | 75=>400 | 127=>421 | 164=>437 | 5=>5 | 80=>197 | n=>n,fun | n=>n⟩
theorem Tryz.FB:Go.Proofs.Lays.n156 Tryz.prog Tryz.tP:={
 mixed:=by kernel_rfl
 f156:=Tryz.func278.trans (congrArg some (by kernel_rfl))
 f165:=Tryz.func326.trans (congrArg some (by kernel_rfl))
 f166:=Tryz.func327.trans (congrArg some (by kernel_rfl))
 f169:=Tryz.func328.trans (congrArg some (by kernel_rfl))
 f240:=Tryz.func357.trans (congrArg some (by kernel_rfl))
 f241:=Tryz.func358.trans (congrArg some (by kernel_rfl))
 f276:=Tryz.func379.trans (congrArg some (by kernel_rfl))
 f277:=Tryz.func380.trans (congrArg some (by kernel_rfl))
 t0:=Tryz.underlying0
 a0:=Tryz.isAgg0
 z0:=Tryz.sizeOf0
 v0:=Tryz.zeroValue0
 t3:=Tryz.underlying3
 a3:=Tryz.isAgg3
 z3:=Tryz.sizeOf3
 v3:=Tryz.zeroValue3
 t4:=Tryz.underlying4
 a4:=Tryz.isAgg4
 z4:=Tryz.sizeOf4
 v4:=Tryz.zeroValue4
 t9:=Tryz.underlying9
 a9:=Tryz.isAgg9
 z9:=Tryz.sizeOf9
 v9:=Tryz.zeroValue9
 t20:=Tryz.underlying20
 a20:=Tryz.isAgg20
 z20:=Tryz.sizeOf20
 v20:=Tryz.zeroValue20
 t31:=Tryz.underlying32
 a31:=Tryz.isAgg32
 z31:=Tryz.sizeOf32
 v31:=Tryz.zeroValue32
 t37:=Tryz.underlying351
 a37:=Tryz.isAgg351
 z37:=Tryz.sizeOf351
 v37:=Tryz.zeroValue351
 t70:=Tryz.underlying395
 a70:=Tryz.isAgg395
 z70:=Tryz.sizeOf395
 v70:=Tryz.zeroValue395
 t72:=Tryz.underlying397
 a72:=Tryz.isAgg397
 z72:=Tryz.sizeOf397
 v72:=Tryz.zeroValue397
 t75:=Tryz.underlying400
 a75:=Tryz.isAgg400
 z75:=Tryz.sizeOf400
 v75:=Tryz.zeroValue400
 t76:=Tryz.underlying401
 a76:=Tryz.isAgg401
 z76:=Tryz.sizeOf401
 v76:=Tryz.zeroValue401
 t127:=Tryz.underlying421
 a127:=Tryz.isAgg421
 z127:=Tryz.sizeOf421
 v127:=Tryz.zeroValue421
 t164:=Tryz.underlying437
 a164:=Tryz.isAgg437
 z164:=Tryz.sizeOf437
 v164:=Tryz.zeroValue437 }
theorem Tryz.mf:Builder.Extra Tryz.prog Tryz.tP:={
 sizeBuilder:=by kernel_rfl
 liesBuilder:=by kernel_rfl
 t5:=Tryz.underlying5
 a5:=Tryz.isAgg5
 z5:=Tryz.sizeOf5
 v5:=Tryz.zeroValue5
 infoByte:=by kernel_rfl
 cellsByte:=by kernel_rfl
 sizeByte:=by kernel_rfl
 neB5:=by decide }
open Go.RowKit in
theorem Tryz.strings_Join_none (a:Option Addr) (c:Nat) (sep:ByteArray) (w:World) :
  Calls Tryz.prog 278 #[.slice a 0 c,.string sep] w fun e w'=>e=.returned (.string ⟨#[]⟩)/\w'=w:=Any.strings_Join_none Tryz.FB Tryz.mf a c sep w
open Go.RowKit in
theorem Tryz.strings_Join (bk o c:Nat) (xs:List ByteArray) (sep:ByteArray) (w:World) (Sp:∀ (j:Nat) x,xs[j]? = some x->w.cell? ⟨bk,o+j,none⟩=some (.string x)) (hbk:bk<w.heap.size) (hN:xs.length<=140737488355328) (dD:xs.length<=c) (hlen:(Lib.join (xs.map (·.data.toList)) sep.data.toList).length<=140737488355328) :
  Calls Tryz.prog 278 #[.slice (some ⟨bk,o,none⟩) xs.length c,.string sep] w fun e w'=>e=.returned (.string ⟨(Lib.join (xs.map (·.data.toList)) sep.data.toList).toArray⟩)/\Below w.heap.size w w':=Any.strings_Join Tryz.FB Tryz.mf bk o c xs sep w Sp hbk hN dD hlen
def Tryz.Cr:Go.Shelf.Ren:=⟨fun | 243=>279 | 246=>329 | 283=>359 | 284=>360 | 285=>361 | 286=>362 | 129=>313 | 317=>381 | 318=>382 | 319=>383 | 320=>384 | 337=>393 | 338=>394 | n=>n,fun | 3=>3 | 9=>9 | 2=>2 | 4=>4 | 171=>422 | 0=>0 | 53=>383 | 37=>351 | 5=>5 | 173=>424 | 212=>441 | 51=>381 | 20=>20 | 213=>442 | 46=>318 | 232=>449 | 233=>450 | n=>n,fun | 17=>1 | 18=>3 | 19=>4 | n=>n⟩
theorem Tryz.NT:Go.Proofs.Lays.n243 Tryz.prog Tryz.Cr:={
 mixed:=by kernel_rfl
 f129:=Tryz.func313.trans (congrArg some (by kernel_rfl))
 f243:=Tryz.func279.trans (congrArg some (by kernel_rfl))
 f246:=Tryz.func329.trans (congrArg some (by kernel_rfl))
 f283:=Tryz.func359.trans (congrArg some (by kernel_rfl))
 f284:=Tryz.func360.trans (congrArg some (by kernel_rfl))
 f285:=Tryz.func361.trans (congrArg some (by kernel_rfl))
 f286:=Tryz.func362.trans (congrArg some (by kernel_rfl))
 f317:=Tryz.func381.trans (congrArg some (by kernel_rfl))
 f318:=Tryz.func382.trans (congrArg some (by kernel_rfl))
 f319:=Tryz.func383.trans (congrArg some (by kernel_rfl))
 f320:=Tryz.func384.trans (congrArg some (by kernel_rfl))
 f337:=Tryz.func393.trans (congrArg some (by kernel_rfl))
 f338:=Tryz.func394.trans (congrArg some (by kernel_rfl))
 t0:=Tryz.underlying0
 a0:=Tryz.isAgg0
 z0:=Tryz.sizeOf0
 v0:=Tryz.zeroValue0
 t2:=Tryz.underlying2
 a2:=Tryz.isAgg2
 z2:=Tryz.sizeOf2
 v2:=Tryz.zeroValue2
 t3:=Tryz.underlying3
 a3:=Tryz.isAgg3
 z3:=Tryz.sizeOf3
 v3:=Tryz.zeroValue3
 t4:=Tryz.underlying4
 a4:=Tryz.isAgg4
 z4:=Tryz.sizeOf4
 v4:=Tryz.zeroValue4
 t5:=Tryz.underlying5
 a5:=Tryz.isAgg5
 z5:=Tryz.sizeOf5
 v5:=Tryz.zeroValue5
 t9:=Tryz.underlying9
 a9:=Tryz.isAgg9
 z9:=Tryz.sizeOf9
 v9:=Tryz.zeroValue9
 t20:=Tryz.underlying20
 a20:=Tryz.isAgg20
 z20:=Tryz.sizeOf20
 v20:=Tryz.zeroValue20
 t37:=Tryz.underlying351
 a37:=Tryz.isAgg351
 z37:=Tryz.sizeOf351
 v37:=Tryz.zeroValue351
 t46:=Tryz.underlying318
 a46:=Tryz.isAgg318
 z46:=Tryz.sizeOf318
 v46:=Tryz.zeroValue318
 t51:=Tryz.underlying381
 a51:=Tryz.isAgg381
 z51:=Tryz.sizeOf381
 v51:=Tryz.zeroValue381
 t53:=Tryz.underlying383
 a53:=Tryz.isAgg383
 z53:=Tryz.sizeOf383
 v53:=Tryz.zeroValue383
 t171:=Tryz.underlying422
 a171:=Tryz.isAgg422
 z171:=Tryz.sizeOf422
 v171:=Tryz.zeroValue422
 t173:=Tryz.underlying424
 a173:=Tryz.isAgg424
 z173:=Tryz.sizeOf424
 v173:=Tryz.zeroValue424
 t212:=Tryz.underlying441
 a212:=Tryz.isAgg441
 z212:=Tryz.sizeOf441
 v212:=Tryz.zeroValue441
 t213:=Tryz.underlying442
 a213:=Tryz.isAgg442
 z213:=Tryz.sizeOf442
 t232:=Tryz.underlying449
 a232:=Tryz.isAgg449
 z232:=Tryz.sizeOf449
 v232:=Tryz.zeroValue449
 t233:=Tryz.underlying450
 a233:=Tryz.isAgg450
 z233:=Tryz.sizeOf450
 v233:=Tryz.zeroValue450
 g17:=by kernel_rfl
 g18:=by kernel_rfl
 g19:=by kernel_rfl }
open Go.RowKit Go.Sort Go.Lib in
theorem Tryz.internal_strconv_Itoa_small (i:Nat) (hi:i<100) (w:World) :
  Calls Tryz.prog 279 #[.q i] w fun e w'=>e=.returned (.string ⟨(Lib.decDigits i).toArray⟩)/\w'=w:=Any.internal_strconv_Itoa_small Tryz.NT i hi w
end Go.Proofs
namespace Go
def Result.up {α:Type} (w:World):Result α->Prop
  | .ok _ w'=>w.drawn<=w'.drawn
  | .halt _ w'=>w.drawn<=w'.drawn
variable {P:Program} {a:Halt} {atomic:Bool} {es:Array Event} {m:Machine} {p:Program} {r:World×List Addr} {v:Value} {var:Addr} {w w':World}
theorem Result.dH {α:Type} (h:w.drawn<=w'.drawn) {r:Result α} (k:r.up w'):r.up w:=by
  cases r <;> exact Nat.le_trans h k
theorem S4 {α:Type} (a:Ask α):∀ w:World,w.drawn<=(w.ask a).2.drawn:=by
  induction a with
  | done a=>intro w;exact Nat.le_refl _
  | ask Qt range k ih =>
    intro w;unfold World.ask;dsimp only;split
    · exact ih _ w
    · exact Nat.le_trans (Nat.le_succ _) (ih _ { w with drawn:=w.drawn+1 })
theorem QG (w:World) (c:Sys):w.drawn<=(w.sys c).2.drawn:=by
  unfold World.sys;have h:=S4 (Kernel.perform c w.os) w;generalize w.ask (Kernel.perform c w.os)=r at h;obtain ⟨⟨x,os⟩,w'⟩:=r;cases x <;> first | exact Nat.le_refl _ | exact h
theorem zL {at_:Addr} {u:TypeId} {k:Addr}
    (h:w.viewStore p at_ u k v atomic=.ok r):r.1.drawn=w.drawn:=by
  unfold World.viewStore at h;simp only [bind,Except.bind,pure,Except.pure,throw,throwThe,MonadExceptOf.throw] at h
  repeat' split at h
  all_goals first | (cases h;rfl) | (injection h with h;rw [<- h]) | nomatch h
theorem CL {a:Addr}
    (h:w.farStore p a v atomic=.ok r):r.1.drawn=w.drawn:=by
  unfold World.farStore at h;split at h
  · split at h
    · next e=>injection h with h;rw [<- h];exact zL e
    · nomatch h
  · nomatch h
theorem Hd (w:World) (a:Addr) (n:Nat):(w.freeze a n).drawn=w.drawn:=by
  unfold World.freeze;split <;> rfl
theorem z7 {α:Type} (p:Program) (s:Sem α):∀ w:World,(s.run p w).up w:=by
  induction s with
  | pure a=>intro w;exact Nat.le_refl _
  | load m a k ih =>
    intro w;unfold Sem.run;split
    · exact ih _ w
    · split
      · exact ih _ w
      · exact Nat.le_refl _
  | store m a v k ih =>
    intro w
    cases v <;> first
      | exact Nat.le_refl _
      | (simp only [Sem.run]
         split
         · split
           · exact Nat.le_refl _
           · exact ih (w.setCell _ _)
         · split
           · next hf=>exact Result.dH (Nat.le_of_eq (CL hf).symm) (ih _)
           · exact Nat.le_refl _)
  | new o k ih=>intro w;exact ih _ _
  | shape r k ih=>intro w;exact ih _ w
  | freeze a n k ih=>intro w;exact Result.dH (Nat.le_of_eq (Hd w a n).symm) (ih (w.freeze a n))
  | frozen a k ih=>intro w;exact ih _ w
  | getObj r k ih =>
    intro w;unfold Sem.run;split
    · exact Nat.le_refl _
    · exact ih _ w
    · exact Nat.le_refl _
  | setObj r o k ih =>
    intro w;unfold Sem.run;split
    · exact Nat.le_refl _
    · exact ih _
    · exact Nat.le_refl _
  | choose q k ih =>
    intro w;unfold Sem.run;split
    · exact ih _ w
    · exact Result.dH (Nat.le_succ w.drawn) (ih _ { w with drawn:=w.drawn+1 })
  | sys c k ih=>intro w;exact Result.dH (QG w c) (ih _ _)
  | program k ih=>intro w;exact ih _ w
  | mark m k ih=>intro w;exact ih w
  | halt h=>intro w;exact Nat.le_refl _
theorem q9 {α:Type} (p:Program) (s:Sem α) (w:World) (es:Array Event):(s.runT p w es).1.up w:=by
  rw [Sem.runT_fst];exact z7 p s w
theorem hY {α:Type} {s:Sem α} {a:α} (h:s.run p w=.ok a w'):w.drawn<=w'.drawn:=by
  have k:=z7 p s w;rw [h] at k;exact k
theorem Ow {α:Type} {s:Sem α} (h:s.run p w=.halt a w'):w.drawn<=w'.drawn:=by
  have k:=z7 p s w;rw [h] at k;exact k
theorem Rp {α:Type} {s:Sem α} {es OJ:Array Event} {a:α} (h:s.runT p w es=(.ok a w',OJ)):w.drawn<=w'.drawn:=by
  have k:=q9 p s w es;rw [h] at k;exact k
theorem K3 {α:Type} {s:Sem α} {es OJ:Array Event} (h:s.runT p w es=(.halt a w',OJ)):w.drawn<=w'.drawn:=by
  have k:=q9 p s w es;rw [h] at k;exact k
theorem jC {α:Type} {s:Sem α} {a:α} (h:(s.runT p w es).1=.ok a w'):w.drawn<=w'.drawn:=by
  have k:=q9 p s w es;rw [h] at k;exact k
theorem lg {α:Type} {s:Sem α} (h:(s.runT p w es).1=.halt a w'):w.drawn<=w'.drawn:=by
  have k:=q9 p s w es;rw [h] at k;exact k
def GStep.up (w:World):GStep->Prop
  | .go _ w' _=>w.drawn<=w'.drawn
  | .comm _ _ _ _ w' _=>w.drawn<=w'.drawn
  | .spawn _ _ w' _=>w.drawn<=w'.drawn
  | .count _ w' _=>w.drawn<=w'.drawn
  | .timer _ _ w' _=>w.drawn<=w'.drawn
  | .alone _ _ w' _=>w.drawn<=w'.drawn
  | .newcoro _ _ _ w' _=>w.drawn<=w'.drawn
  | .coroswitch _ _ _ w' _=>w.drawn<=w'.drawn
  | .collect _ w' _=>w.drawn<=w'.drawn
  | .watch _ w' _=>w.drawn<=w'.drawn
  | .ended _ _ _=>True
theorem GStep.dH (h:w.drawn<=w'.drawn) {s:GStep} (k:s.up w'):s.up w:=by
  cases s <;> first | trivial | exact Nat.le_trans h k
theorem GStep.zN {c:Prop} [Decidable c] {s t:GStep} (h:s.up w) (k:t.up w):(if c then s else t).up w:=by
  split
  · exact h
  · exact k
theorem GStep.iZ (es:Array Event) {s:GStep} (k:s.up w):(s.after es).up w:=by
  cases s <;> exact k
theorem o7 (fr:Frame) (m:String) (w:World):(endThrow fr m w).up w:=Nat.le_refl _
theorem EB (w0 w:World) (fd:Nat) (text:ByteArray) (o:Outcome):(endWith w fd text o).up w0:=by
  unfold endWith;dsimp only;split
  · split <;> trivial
  · trivial
  · trivial
theorem o8 (p:Program) (fr:Frame) (v:Value) (w:World):(endPrinting p fr v w).up w:=by
  unfold endPrinting;dsimp only;split
  · exact o7 _ _ _
  · trivial
theorem ud (p:Program) (fr:Frame) (callers:List Frame) (dying:Option Dying) (m:String) (w:World):(endFatal p fr callers dying m w).up w:=by
  unfold endFatal;dsimp only;split
  · next h=>exact hY h
  · trivial
  · trivial
theorem Dt (p:Program) (fr:Frame) (d:Dying) (f:Fatal) (w:World):(writeOn p fr d f w).up w:=by
  unfold writeOn;dsimp only;split
  · trivial
  · split
    · next h=>exact Rp h
    · next h=>exact K3 h
    · trivial
    · trivial
theorem SN (p:Program) (fr:Frame) (d:Dying) (w:World):(die p fr d w).up w:=by
  unfold die;dsimp only;split
  · exact Dt _ _ _ _ _
  · split
    · split
      · exact Nat.le_refl _
      · exact EB _ _ _ _ _
    · split
      · exact Nat.le_refl _
      · split
        · next h=>exact hY h
        · trivial
      · apply GStep.iZ
        split
        · next h=>exact jC h
        · next h=>exact jC h
        · trivial
        · next h=>exact GStep.dH (lg h) (o8 _ _ _ _)
        · trivial
      · trivial
theorem ku (p:Program) (main:Bool) (fr:Frame) (callers:List Frame) (dying:Option Dying) (v:Value) (w:World) :
    (doReturn p main fr callers dying v w).up w:=by
  unfold doReturn;dsimp only
  repeat' split
  all_goals first | trivial | exact Nat.le_refl _
theorem uy (p:Program) (fr:Frame) (callers:List Frame) (dying:Option Dying) (d:Deferred) (w:World) :
    (callDeferred p fr callers dying d w).up w:=by
  unfold callDeferred;dsimp only;apply GStep.zN
  · trivial
  · apply GStep.iZ
    repeat' split
    all_goals first
      | trivial
      | exact jC (by assumption)
      | exact lg (by assumption)
      | exact GStep.dH (lg (by assumption)) (ud _ _ _ _ _ _)
      | exact GStep.dH (lg (by assumption)) (o7 _ _ _)
theorem Gk (p:Program) (main:Bool) (fr:Frame) (callers:List Frame) (dying:Option Dying) (w:World) :
    (unwind p main fr callers dying w).up w:=by
  unfold unwind;dsimp only;split
  · apply GStep.iZ
    split
    · next h=>exact jC h
    · trivial
  · exact uy _ _ _ _ _ _
  · split
    · trivial
    · split
      · trivial
      · split
        · exact Nat.le_refl _
        · split
          · split
            · exact Nat.le_refl _
            · split
              · next h=>exact hY h
              · trivial
              · trivial
          · split
            · exact o8 _ _ _ _
            · trivial
    · split
      · exact ku _ _ _ _ _ _ _
      · apply GStep.iZ
        split
        · next h=>exact GStep.dH (jC h) (ku _ _ _ _ _ _ _)
        · trivial
        · trivial
theorem Lg (p:Program) (fr:Frame) (callers:List Frame) (dying:Option Dying) (g:Nat) (w:World) :
    (early p fr callers dying g w).up w:=by
  unfold early;dsimp only
  repeat' split
  all_goals first
    | trivial
    | exact Nat.le_refl _
    | (next h _=>have k:=hY h;exact k)
    | (next h _ _=>have k:=hY h;exact k)
    | (next h=>have k:=hY h;exact k)
    | (next h _ _ _=>have k:=hY h;exact k)
    | (next h _ _ _ _=>have k:=hY h;exact k)
theorem sg (p:Program) (listen:Bool) (fr:Frame) (callers:List Frame) (dying:Option Dying) (s:Sem Next) (w:World) :
    (stepG.apply p listen fr callers dying s w).up w:=by
  unfold stepG.apply;dsimp only;apply GStep.iZ;have hr:∃ r:Result Next×Array Event,(if listen=true then s.runT p w #[] else (s.run p w,#[]))=r/\r.1.up w:=by
    refine ⟨_,rfl,?_⟩;split
    · exact q9 p s w #[]
    · exact z7 p s w
  obtain ⟨r,hr,hu⟩:=hr;rw [hr];generalize r.1=r1 at hu ⊢
  repeat' split
  all_goals first
    | trivial
    | exact TJ hu (by assumption)
    | exact ML hu (by assumption)
    | exact hu
    | (refine GStep.dH ?_ (o7 _ _ _);first | exact hu | exact TJ hu (by assumption) | exact ML hu (by assumption))
    | (refine GStep.dH ?_ (ud _ _ _ _ _ _);exact hu)
    | (refine GStep.dH ?_ (Lg _ _ _ _ _ _);exact hu)
theorem Fs (p:Program) (listen:Bool) (fr:Frame) (callers:List Frame) (dying:Option Dying) (w:World) :
    (stepG.oper p listen fr callers dying w).up w:=by
  unfold stepG.oper
  repeat' split
  all_goals first | trivial | exact sg _ _ _ _ _ _ _
theorem OH (p:Program) (main listen:Bool) (fr:Frame) (callers:List Frame) (dying:Option Dying) (w:World) :
    (stepG.exec p main listen fr callers dying w).up w:=by
  unfold stepG.exec;dsimp only;split
  all_goals first
    | trivial
    | exact Nat.le_refl _
    | (split
       · first | exact Nat.le_refl _ | (apply GStep.zN <;> first | exact Nat.le_refl _ | trivial) | trivial
       · apply GStep.iZ
         split
         · next h=>exact GStep.dH (jC h) (ku _ _ _ _ _ _ _)
         · trivial)
    | (split <;> first | exact Nat.le_refl _ | trivial)
    | (generalize exitTo _ _ = o; cases o with
       | none =>
         split
         · first | exact Nat.le_refl _ | (apply GStep.zN <;> first | exact Nat.le_refl _ | trivial) | trivial
         · apply GStep.iZ
           split
           · next h=>exact GStep.dH (jC h) (ku _ _ _ _ _ _ _)
           · trivial
       | some k=>exact Nat.le_refl _)
    | (generalize gotoIn _ _ = o; cases o with
       | none =>
         split
         · first | exact Nat.le_refl _ | (apply GStep.zN <;> first | exact Nat.le_refl _ | trivial) | trivial
         · apply GStep.iZ
           split
           · next h=>exact GStep.dH (jC h) (ku _ _ _ _ _ _ _)
           · trivial
       | some k=>exact Nat.le_refl _)
    | (apply GStep.iZ
       split
       · next h=>first | (have k:=jC h;exact k) | exact GStep.dH (jC h) (sg _ _ _ _ _ _ _)
       · first | trivial | (next h=>have k:=lg h;exact k)
       done)
    | (apply GStep.iZ
       split
       · next h=>(have k:=jC h;exact k)
       · next h=>(have k:=lg h;exact k)
       · trivial)
    | exact sg _ _ _ _ _ _ _
    | exact Fs _ _ _ _ _ _
    | (generalize Extern.next _ = o; cases o with
       | none=>trivial
       | some e=>exact sg _ _ _ _ _ _ _)
    | (split
       · exact Nat.le_refl _
       · split
         · next h=>have k:=hY h;exact k
         · trivial)
    | (split
       · exact Fs _ _ _ _ _ _
       · exact Nat.le_refl _)
    | skip
theorem Ib (p:Program) (main:Bool) (g:Goroutine) (w:World) (listen:Bool):(stepG p main g w listen).up w:=by
  unfold stepG;split;split
  · exact SN _ _ _ _
  · exact OH _ _ _ _ _ _ _
  · exact Gk _ _ _ _ _ _
def Stepped.up (w:World):Stepped->Prop
  | .next m=>w.drawn<=m.world.drawn
  | .ended _ _=>True
theorem Stepped.dH (h:w.drawn<=w'.drawn) {s:Stepped} (k:s.up w'):s.up w:=by
  cases s <;> first | trivial | exact Nat.le_trans h k
theorem AD (p:Program) (gs:Array Goroutine) (rest:Rest) (w:World):(look p gs rest w).up w:=by
  unfold look;dsimp only;split
  · split
    · trivial
    · split
      · trivial
      · split
        · next h=>have k:=hY h;exact k
        · trivial
        · trivial
  · trivial
theorem zK {rest:Rest} {cases:Array CommCase} (h:waitingAt rest cases w=some w'):w.drawn<=w'.drawn:=by
  unfold waitingAt at h;split at h
  · split at h
    · injection h with h;rw [<- h];exact Nat.le_refl _
    · nomatch h
  · injection h with h;rw [<- h];exact Nat.le_refl _
theorem wZ (p:Program) (rest:Rest) (gs:Array Goroutine) (i:Nat) (g:Goroutine) (cases:Array CommCase) (CZ:Bool)
    (shape:CommShape) (w:World):(communicate p rest gs i g cases CZ shape w).1.up w:=by
  unfold communicate;dsimp only;split
  · trivial
  · split
    · split
      · split
        · next h=>exact zK h
        · trivial
      · exact Nat.le_refl _
    · split
      · trivial
      · next h=>
        have k:=hY h;split
        · split
          · next h2=>
            have k2:=Ow h2;exact Nat.le_trans k k2
          · trivial
        · exact k
        · exact k
        · split
          · exact k
          · split
            · next h3=>have k3:=hY h3;exact Nat.le_trans k k3
            · trivial
        · exact k
        · exact k
        · trivial
theorem Lh (w:World) (c:Nat):(drain w c).2.drawn=w.drawn:=by
  unfold drain;split <;> rfl
theorem yQ (m:Machine) (k:Nat) (t:Timer) (when period:Nat):(retime m k t when period).2.world.drawn=m.world.drawn:=by
  unfold retime;dsimp only;split
  · exact Lh _ _
  · rfl
theorem Cp {f:Nat->Timer->Value×Machine} {n:Nat} (hf:∀ k t,(f k t).2.world.drawn=n) {r:Value×Machine}
    (h:timerOp.named m var f=.ok r):r.2.world.drawn=n:=by
  unfold timerOp.named at h;split at h
  · injection h with h;rw [<- h];exact hf _ _
  · nomatch h
theorem GN {m m':Machine} (h:timerOp.opened m var=some m'):m'.world.drawn=m.world.drawn:=by
  unfold timerOp.opened at h;split at h
  · split at h
    · injection h with h;rw [<- h]
    · nomatch h
  · injection h with h;rw [<- h]
theorem DG {op:TimerOp} {r:Value×Machine} (h:timerOp m op=.ok r):r.2.world.drawn=m.world.drawn:=by
  unfold timerOp at h;split at h
  · split at h
    · injection h with h;rw [<- h];rfl
    · split at h
      · split at h
        · nomatch h
        · injection h with h;rw [<- h]
      · nomatch h
  · exact Cp (fun k t=>yQ m k t 0 t.period) h
  · split at h
    · next ho=>exact (Cp (fun k t=>yQ _ k t _ _) h).trans (GN ho)
    · nomatch h
  · injection h with h;rw [<- h];rfl
theorem Ir (p:Program) (m:Machine) (k:Nat):(serve p m k).up m.world:=by
  unfold serve;dsimp only;split
  · trivial
  · exact Nat.le_refl _
  · split
    · trivial
    · exact Nat.le_refl _
def Move.up (w:World):Move->Prop
  | .goroutine m _=>w.drawn<=m.world.drawn
  | .machine s _=>s.up w
theorem xe (p:Program) (m:Machine):(askOn p m).up m.world:=by
  unfold askOn;dsimp only;split
  · trivial
  · next h=>
    have k:=hY h;split
    · exact Stepped.dH k (Ir _ _ _)
    · split
      · split
        · exact k
        · split
          · exact k
          · split
            · trivial
            · trivial
      · split
        · split
          · trivial
          · next h0=>
            have k0:=hY h0;split
            · exact Nat.le_trans k k0
            · split
              · trivial
              · next h3=>have k3:=hY h3;exact Nat.le_trans k (Nat.le_trans k0 k3)
        · split
          · trivial
          · next h2=>
            have k2:=hY h2;split
            · trivial
            · next h0=>
              have k0:=hY h0;split
              · exact Nat.le_trans (Nat.le_trans k k2) k0
              · split
                · trivial
                · next h3=>have k3:=hY h3;exact Nat.le_trans (Nat.le_trans k k2) (Nat.le_trans k0 k3)
          · next h2=>have k2:=hY h2;exact Nat.le_trans k k2
          · next h2=>
            have k2:=hY h2;split
            · trivial
            · next h0=>
              have k0:=hY h0;split
              · exact Nat.le_trans (Nat.le_trans k k2) k0
              · split
                · trivial
                · next h3=>have k3:=hY h3;exact Nat.le_trans (Nat.le_trans k k2) (Nat.le_trans k0 k3)
theorem Move.dH (h:w.drawn<=w'.drawn) {s:Move} (k:s.up w'):s.up w:=by
  cases s with
  | goroutine m i=>exact Nat.le_trans h k
  | machine s ops=>exact Stepped.dH h k
theorem Gd (p:Program) (m:Machine):(Go.ask p m).up m.world:=by
  unfold Go.ask;split
  · split
    · trivial
    · next h=>
      have k:=hY h;split
      · next hl=>
        have k2:=AD p m.gs m.rest ‹World›;rw [hl] at k2;exact Move.dH (Nat.le_trans k k2) (xe _ _)
      · exact Stepped.dH k (AD _ _ _ _)
    · next h=>have k:=hY h;exact Move.dH k (xe _ _)
  · exact xe _ _
theorem NM (p:Program) (m:Machine):(move p m).up m.world:=by
  unfold move;split
  · split
    · exact Nat.le_refl _
    · trivial
  · split
    · split
      · exact Nat.le_refl _
      · exact Gd p { m with rest:=_ }
    · exact Gd p m
theorem z8 (p:Program) (m:Machine) (i:Nat) (listen:Bool):(Go.runT p m i listen).1.up m.world:=by
  unfold Go.runT;dsimp only;have h:=Ib p (i==0) (m.gs.swapAt! i { (default:Goroutine) with status:=.finished }).1 m.world listen
  generalize stepG p (i==0) (m.gs.swapAt! i { (default:Goroutine) with status:=.finished }).1 m.world listen=s at h ⊢
  cases s with
  | ended o w es=>trivial
  | comm g cases CZ shape w es=>exact Stepped.dH h (wZ _ _ _ _ _ _ _ _ _)
  | go g w es=>exact h
  | spawn g child w es=>exact h
  | count g w es =>
    dsimp only;split
    · trivial
    · exact h
  | alone g on w es=>exact h
  | collect g w es=>exact Stepped.dH h (AD _ _ _ _)
  | watch g w es=>exact h
  | newcoro g c d w es=>exact h
  | coroswitch g c exit w es =>
    dsimp only;split
    · exact h
    · exact h
    · trivial
  | timer g op w es =>
    dsimp only;split
    · next ht=>have k:=DG ht;exact Nat.le_trans h (Nat.le_of_eq k.symm)
    · exact h
    · trivial
    · trivial
theorem M5 (p:Program) (m:Machine):(step p m).up m.world:=by
  unfold step stepT;have h:=NM p m;generalize move p m=v at h ⊢;cases v with
  | goroutine m' i=>exact Stepped.dH h (z8 p m' i true)
  | machine s ops=>exact h
theorem Nj (p:Program) (n:Nat):∀ m:Machine,(runN p n m).up m.world:=by
  induction n with
  | zero=>intro m;exact Nat.le_refl _
  | succ n ih =>
    intro m;have h:=M5 p m;unfold runN;generalize step p m=s at h ⊢;cases s with
    | next m'=>exact Stepped.dH h (ih m')
    | ended o w=>trivial
theorem Steps.up {m m':Machine} (h:Steps P m m'):m.world.drawn<=m'.world.drawn:=by
  obtain ⟨n,hn⟩:=h;have k:=Nj P n m;rw [hn] at k;exact k
theorem Calls.up {f:FuncId} {args:Array Value} {R:World->Prop}
    (h:Calls P f args w fun e w'=>e=.returned v/\R w'):Calls P f args w fun e w'=>e=.returned v/\R w'/\w.drawn<=w'.drawn:=by
  intro cs;obtain ⟨e,w',fr,⟨rfl,hR⟩,hc,hf,hl⟩:=h cs;exact ⟨_,w',fr,⟨rfl,hR,Steps.up hc⟩,hc,hf,hl⟩
end Go
