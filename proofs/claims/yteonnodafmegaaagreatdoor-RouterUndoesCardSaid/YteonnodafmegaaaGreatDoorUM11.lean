/- Parts of the proof: LC LD LE LF LG LH TryzShelf GkDraws. -/
import Derived.Test.YteonnodafmegaaaGreatDoorUM10
import Derived.Test.YteonnodafmegaaaGreatDoorUM04
import Derived.Test.YteonnodafmegaaaGreatDoorUM06
import Derived.Shelf.Strings.OnBuilder
import Derived.Shelf.Strconv.Itoa3
import Derived.Ground.NamesProg
import Derived.Ground.Names2Prog
import Derived.Test.YteonnodafmegaaaGreatDoorProg
import Derived.Calls
import Derived.RunT
set_option linter.unusedSectionVars false
set_option linter.unusedVariables false
set_option linter.unusedSimpArgs false
namespace Go.Proofs.A1
open Go Go.SL
open Tryz
open Tryz renaming prog->T_
def fT (r:Ro) (l:List Tk):Ro×Int×Int:=if ew r≠0 then (Ro.nil,0,ew r) else if qy r l≠0 then (Ro.nil,0,qy r l) else fx r l
theorem zH (l:List eN):∀ r∈gL l,r.length=2:=fun r hr=>by obtain ⟨x,_,rfl⟩:=Zo.1 hr;rfl
variable {b:Nat} {c:Cx} {d:Value} {f:FuncId} {k:Nat} {kv:Value} {l:List eN} {n:Nat} {p:Value} {r:Ro} {s t:Value} {w:World} {x:eN}
theorem im {hs hs':List bd} {E:TypeId} {v:Value} (hm:Mem c hs w) (ht:Take hs (row E 2 v n (gL l).flatten) hs') (hn:l.length=n):Rd w v 2 (gL l):=hm.qm ht I (zH l) (by rw [dy,hn])
theorem aQ (l m:List bd):bj (l++m) l m:=pF [] l m
theorem cn {D:List Nat} {sl:aH} {hs hs':List bd} {X:Act->World->Prop} (ht:bj hs (oA r (s,d,t,p)) hs')
  (k:s.oneCell'=true->d.oneCell'=true->t.oneCell'=true->p.oneCell'=true->Tr c D sl (J1 r s::J2 r d::J3 r t::J4 r p::hs') X):Tr c D sl hs X:=by
 intro a w bh;have hm:=bh.mem.jo (ht.append (nb D));have k2:Tr c D sl (J1 r s::J2 r d::J3 r t::J4 r p::hs') X:=by
  refine aY (E:=186) (sz:=2) (v:=s) .here fun _ _ e=>?_;have k1:s.oneCell'=true:=by rw [e];rfl
  clear e;refine aY (E:=90) (sz:=3) (v:=d) (.there .here) fun _ _ e=>?_;have k2:d.oneCell'=true:=by rw [e];rfl
  clear e;refine aY (E:=187) (sz:=3) (v:=t) bF fun _ _ e=>?_;have k3:t.oneCell'=true:=by rw [e];rfl
  clear e;refine aY (E:=188) (sz:=3) (v:=p) cA fun _ _ e=>?_;have k4:p.oneCell'=true:=by rw [e];rfl
  clear e;exact k k1 k2 k3 k4
 exact k2 a w (bh.heap hm)
set_option maxHeartbeats 1000000 in
theorem Bp (h:RR w r s d t p) (cO:kE r) (hw:Rd w kv 2 (gL l)) (hM:qY w l) :
  bb T_ 45 [RA r s d t p,kv] w [] (fun _:Value×Value×Value×Value=>True) (fun x=>.tuple #[RA (fT r (cq l)).1 x.1 x.2.1 x.2.2.1 x.2.2.2,.q (fT r (cq l)).2.1,.q (fT r (cq l)).2.2]) (fun x=>oA (fT r (cq l)).1 x):=by
 obtain ⟨h1,h2,h3,h4⟩:=h.one;have Xw:=Rd.one hw;have dD:∀ w',aK [] w w'->aj T_ 34 [.agg #[.int .i64 r.lv,.int .i64 r.ma,s,d,t,p]] w' (.int .i64 (ew r)):=fun w' hk=>dR (h.keeps hk) cO
 have htk:∀ w',aK [] w w'->aj T_ 164 [.agg #[.q r.lv,.q r.ma,s,d,t,p],kv] w' (.q (qy r (cq l))):=fun w' hk=>sf (h.keeps hk) (hw.keeps hk) (hM.keeps hk)
 unfold RA;refine aT func45 I I ?_
 (refine Jr<|Jy I I fun _ _=>Jz I I fun _ _=>Ja I<|Ja I<|Jn<|Jq<|Jr<|ab (cK (.there .here)) I<|ai bz I (fun w' aA=>(dD w' (Mem.keeps aA)))<|Ja I<|Ji<|Jv I<|JD I<|Jn<|gB I (fun ar=>?_) fun ar=>?_;refine Jr<|ab (aU .nil ak) I<|Jv I<|an (.of I) (.of I) .here I I (gr I I I I I I) (bG I) ak<|Ja I<|Ja I<|Jn<|Ju ?_;rotate_left;refine Jk<|Jq<|Jr<|ab (cK (.there .here)) I<|Jv I<|ai ba I (fun w' aA=>(htk w' (Mem.keeps aA)))<|Ja I<|Ji<|Jv I<|JD I<|Jn<|gB I (fun ar=>?_) fun ar=>?_;refine Jr<|ab (aU .nil ak) I<|Jv I<|an (.of I) (.of I) .here I I (gr I I I I I I) (bG I) ak<|Ja I<|Ja I<|Jn<|Ju ?_;rotate_left;refine Jk<|Jr<|ab (cK (.there .here)) I<|Jv I ?_;rotate_right;rotate_right)
 ·have e:fT r (cq l)=(Ro.nil,0,ew r):=if_pos ar;rw [e];dsimp only;refine aP 186 2<|aP 90 3<|aP 187 3<|aP 188 3 ?_
  with_reducible first|apply aR|apply aS
  case he=>exact mh I inferInstance I df ak (by rfl) (by rfl) (by rfl)
  case hR=>
   intro w' aA;exact aD (.z,.z,.z,.z) trivial (by exact .cons cA (.cons bF (.cons (.there .here) (.h1 .nil)))) aA I
 ·have e:fT r (cq l)=(Ro.nil,0,qy r (cq l)):=by unfold fT;rw [if_neg (by assumption),if_pos ar]
  rw [e];dsimp only;refine aP 186 2<|aP 90 3<|aP 187 3<|aP 188 3 ?_
  with_reducible first|apply aR|apply aS
  case he=>exact mh I inferInstance I df ak (by rfl) (by rfl) (by rfl)
  case hR=>
   intro w' aA;exact aD (.z,.z,.z,.z) trivial (by exact .cons cA (.cons bF (.cons (.there .here) (.h1 .nil)))) aA I
 have BC:ew r=0:=Zq.1 (by assumption);have Sx:qy r (cq l)=0:=Zq.1 ar;have e:fT r (cq l)=fx r (cq l):=by unfold fT;rw [if_neg (not_not_intro BC),if_neg (not_not_intro Sx)]
 have ee:=rO BC;have hf:=kF ee ee.val;rw [e];refine JN ba I (fun w1 aG=>zL (h.keeps aG.keeps) ee (by omega) (hw.keeps aG.keeps) (hM.keeps aG.keeps) (j7.1 Sx).2) ?_;generalize fx r (cq l)=R;obtain ⟨R,at_,e_⟩:=R;rintro ⟨s1,d1,t1,p1⟩ _;dsimp only;unfold RA;refine cn (r:=R) (s:=s1) (d:=d1) (t:=t1) (p:=p1) (aQ _ _) fun k1 k2 k3 k4=>?_
 (refine JJ I I<|JJ I I<|JJ I I<|an (.of I) (.of I) df I I (gr I I k1 k2 k3 k4) (bG I) ak<|Ja I<|Ja I<|Jn<|Je ?_)
 with_reducible first|apply aR|apply aS
 case he=>exact mh I inferInstance I .here ak (by rfl) (by rfl) (by rfl)
 case hR=>
  intro w' aA;exact aD (s1,d1,t1,p1) trivial (by exact .cons (.there .here) (.cons (.there .here) (.cons (.there .here) (.cons (.there .here) .nil)))) aA I
set_option maxHeartbeats 1000000 in
theorem PR (h:RR w r s d t p) (cO:kE r) (hM:Rd w x.v 1 (fX x.tk.so)) :
  bb T_ 48 [RA r s d t p,.agg x.cells.toArray] w [] (fun _:Value×Value×Value×Value=>True) (fun y=>.tuple #[RA (fT r [x.tk]).1 y.1 y.2.1 y.2.2.1 y.2.2.2,.q (fT r [x.tk]).2.2]) (fun y=>oA (fT r [x.tk]).1 y):=by
 obtain ⟨h1,h2,h3,h4⟩:=h.one;have Xw:=Rd.one hM;unfold RA eN.cells;refine aT func48 I I ?_
 (refine Jr<|Jy I I fun _ _=>Jy I I fun _ _=>Jz I I fun _ _=>Ja I<|Ji<|ab (cK bF) I<|ab (cK (.there .here)) I<|bu (bB (.o I .nil) I I bR bR ak) I fun _ _=>?_)
 rename_i b2 tM b3 uR b4 uQ bq nf;refine ch (g:=bq) (E:=78) (xs:=[.string x.tk.de,x.v]) (ys:=(gL [x]).flatten) 1 2 (by exact .here) (by exact I) I I ?_
 with_reducible apply jy
 case hr=>exact ba
 case hd=>rfl
 case ht=>exact bj.nil
 case hc=>
  intro w1 fp aG _ hs1;obtain rfl:fp=[]:=hs1;have hR:Rd w1 (.slice (some ⟨bq,0,none⟩) 1 1) 2 (gL [x]):=im (l:=[x]) aG (by exact .here) (by exact I);exact Bp (l:=[x]) (h.keeps aG.keeps) cO hR (fun y hy=>by rw [ZE.1 hy];exact hM.keeps aG.keeps)
 rw [show cq [x]=[x.tk] from I];generalize fT r [x.tk]=R;obtain ⟨R,at_,e_⟩:=R;rintro ⟨s1,d1,t1,p1⟩ _;dsimp only;unfold RA;refine cn (r:=R) (s:=s1) (d:=d1) (t:=t1) (p:=p1) (aQ _ _) fun k1 k2 k3 k4=>?_
 (refine Jv I<|JJ I I<|JJ I I<|JJ I I<|Jz I I fun _ _=>an (.of I) (.of I) .here I I (gr I I k1 k2 k3 k4) (bG I) ak<|Ja I<|Ja I<|Ji<|ab (cK .here) I<|Jv I<|an (.of I) (.of I) kU I I (gr I I k1 k2 k3 k4) (bG I) ak<|Ja I<|Jn<|Je ?_)
 with_reducible first|apply aR|apply aS
 case he=>exact lC I inferInstance I .here ak (by rfl) (by rfl)
 case hR=>
  intro w' aA;exact aD (s1,d1,t1,p1) trivial (by exact .cons bF (.cons bF (.cons bF (.cons bF .nil)))) aA I
theorem j9 (cs:List Value) (o:Nat) (v:Value) (h:o<cs.length):setCells cs o [v]=cs.set o v:=by
 simp [setCells]
theorem FI (L:List ByteArray) (cur:List Value) {k:Nat} (h:k<L.length) (v:ByteArray):setCells (aJ L++cur) (k*1) [.string v]=aJ (L.set k v)++cur:=by
 rw [Zap,j9 _ _ _ (by rw [Zg,dq];omega),Zbv _ _ (by rw [dq];exact h)];unfold aJ;rw [List.map_set]
theorem rm (L:List ByteArray) (cur:List Value) {k:Nat} (h:k<L.length):(aJ L++cur)[k*1]? = some (.string L[k]):=by
 rw [Zap,ZD (by rw [dq];exact h)];unfold aJ;rw [ZA,Zc h];rfl
def BI (r:Ro) (t:Tk) (k:Nat):ByteArray:=if t.at k=⟨#[]⟩ then ⟨#[]⟩ else if k8 r (k:Nat) t.de=⟨#[]⟩ then dash else k8 r (k:Nat) t.de
def kG (r:Ro) (t:Tk) (k:Nat):List ByteArray:=(List.range r.lv.toNat).map fun i=>if i<k then BI r t i else k8 r (i:Nat) t.de
theorem lh (r:Ro) (t:Tk) (k:Nat):(kG r t k).length=r.lv.toNat:=by unfold kG;simp
theorem GS (r:Ro) (t:Tk):kG r t 0=bH r t.de:=by unfold kG bH;simp
theorem IA (r:Ro) (t:Tk):kG r t r.lv.toNat=(jr r t).so:=by
 unfold kG jr;refine Zaq fun i hi=>?_;rw [if_pos (ZP.1 hi)];rfl
theorem zx {t:Tk} {k i:Nat} (h:i<r.lv.toNat):(kG r t k)[i]? = some (if i<k then BI r t i else k8 r (i:Nat) t.de):=by
 unfold kG;rw [ZA,Zbf h];rfl
theorem Iz {t:Tk} (h:k<(kG r t k).length):(kG r t k)[k]=k8 r (k:Nat) t.de:=by
 have h1:=Zc h;rw [zx (by rw [lh] at h;exact h),if_neg (Nat.lt_irrefl _)] at h1;exact (Option.some.inj h1).symm
theorem Iy {t:Tk} (h:k<r.lv.toNat):(kG r t k).set k (BI r t k)=kG r t (k+1):=by
 apply Zan;intro i;rw [List.getElem?_set];by_cases hi:i<r.lv.toNat
 ·rw [zx hi,zx hi,lh];by_cases e:k=i
  ·subst e;rw [if_pos I,if_pos hi,if_pos (Nat.lt_succ_self _)]
  ·rw [if_neg e];by_cases e2:i<k
   ·rw [if_pos e2,if_pos (by omega)]
   ·rw [if_neg e2,if_neg (by omega)]
 ·have e1:(kG r t k)[i]? = none:=Zai (by rw [lh];omega);have e2:(kG r t (k+1))[i]? = none:=Zai (by rw [lh];omega);rw [if_neg (by omega),e1,e2]
theorem GU {t:Tk} (h:BI r t k=k8 r (k:Nat) t.de):kG r t (k+1)=kG r t k:=by
 unfold kG;refine Zaq fun i _=>?_;by_cases e:i=k
 ·subst e;rw [if_pos (Nat.lt_succ_self _),if_neg (Nat.lt_irrefl _),h]
 ·by_cases e2:i<k
  ·rw [if_pos e2,if_pos (by omega)]
  ·rw [if_neg e2,if_neg (by omega)]
set_option maxHeartbeats 1000000 in
theorem Rg (h:RR w r s d t p) (hA:BR w b (RC r s d t p)) (wb:1<=r.lv/\r.lv<=1000) (cO:r.ti.length<=1000000) (hx:Rd w x.v 1 (fX x.tk.so)) (Qd:(x.tk.so.length:Int)=r.lv) :
  bb T_ 167 [.agg x.cells.toArray,.p b] w [] (fun _:Value=>True) (fun v=>.agg #[.string x.tk.de,v]) (fun v=>[row 9 1 v r.lv.toNat (aJ (jr r x.tk).so)]):=by
 obtain ⟨h1,h2,h3,h4⟩:=h.one;have kl:∀ (j:Nat) (u:Value),[Value.int .i64 r.lv,.int .i64 r.ma,s,d,t,p][j]? = some u->w.cell? ⟨b,0+j,none⟩=some u:=hA;clear hA;unfold eN.cells;obtain ⟨tk,tv⟩:=x;dsimp only at *;obtain ⟨sa,P2,sb,Uz,rfl,Qf,CS,Vk,ON⟩:=hx;rw [bX] at *;unfold maxLen at CS;refine aT func167 I I ?_
 (refine Jr<|Jy I I fun _ _=>Jz I I fun _ _=>Ji<|ab (iA (eV.base kl I)) I<|bP I I ae<|JL I (.there .here) I ?_)
 rename_i b2 ah2 b3 ahZ;refine JN ba I (fun w1 aG=>wi tk.de (h.keeps aG.keeps) wb.2 cO) ?_;intro v _;dsimp only [id_eq,Zb,Za];have pT:=lh r tk;rw [<- GS];refine cQ (E:=9) (sz:=1) (v:=v) (by exact .here) (by omega) fun gb cap cur e tN tM uR uQ=>?_;subst e
 (refine Ja I<|Jn<|Jq<|Jr<|bP I I ae<|JL I bF I<|JI I<|Jv I<|Jn<|J0 ?_)
 refine a7 (ι:=Nat×List ByteArray) (fun y=>y.1<=tk.so.length/\y.2=kG r tk y.1) (fun y=>[(14,.q (y.1:Nat)),(13,.q (tk.so.length:Nat)),(12,.slice sa tk.so.length P2),(4,.w gb r.lv.toNat cap),(3,.p b3),(2,.p b2)])
  (fun y=>[bo gb (.cells (aJ y.2++cur).toArray 9 (0,0)),bo b3 (.cells #[.string ⟨#[]⟩,.z] 78 (0,0)),bo b2 (.cells #[.string tk.de,.slice sa tk.so.length P2] 78 (0,0))]) (fun y=>tk.so.length-y.1) ?_ ?_
 ·apply aI (0,kG r tk 0) ⟨Zi _,I⟩
  case hs1=>exact cu
  case ht=>exact ng
 rintro ⟨k,L⟩ ⟨hk,hL⟩;dsimp only at hk hL ⊢;have HL:L.length=r.lv.toNat:=by rw [hL,lh]
 have iz:(aJ L++cur).length=cap*1:=by
  rw [Zg,dq] at uR ⊢;rw [lh] at uR;omega
 by_cases aN:k<tk.so.length
 ·have K8:=Vk (mm aN);have K6:w.cell? ⟨sb,Uz+k*1,none⟩=some (.string tk.so[k]):=(ON k _ (jf aN)).2 0 _ I;have O0:k<L.length:=by omega
  have dD:L[k]=k8 r (k:Nat) tk.de:=by subst hL;exact Iz O0
  have c1:=rm L cur O0;rw [dD] at c1;have p1:=FI L cur O0 ⟨#[]⟩;have p2:=FI L cur O0 ⟨#[45]⟩;have hle:k*1+1<=(aJ L++cur).length:=by omega
  have Xw:k<r.lv.toNat:=by omega
  have iF:tk.at k=tk.so[k]:=by unfold Tk.at;rw [Zk,Zc aN];rfl
  have hF:BI r tk k=if tk.so[k]=⟨#[]⟩ then ⟨#[]⟩ else if k8 r (k:Nat) tk.de=⟨#[]⟩ then dash else k8 r (k:Nat) tk.de:=by unfold BI;rw [iF]
  have qe:∀ u,BI r tk k=u->L.set k u=kG r tk (k+1):=fun u hu=>by rw [<- hu,hL];exact Iy Xw
  have K7:BI r tk k=k8 r (k:Nat) tk.de->L=kG r tk (k+1):=fun hu=>by rw [hL,GU hu]
  generalize k8 r (k:Nat) tk.de=ck at *;generalize tk.so[k]=sk at *
  (refine Jr<|JA I<|Jn<|Jq<|Jd I fun ar=>Jk<|Jq<|J0<|Jr<|Jv I<|ab (au (.of I) (.of I) K8 (by omega) ar bn) I ?_;refine ab (ag (.of I) (At.base K6 I)) I ?_;refine Ja I<|Ja I<|Ji<|Jv I<|ab (ei (.of I) (.of I)) I ?_;refine Jn<|gB I (fun ar=>?_) fun ar=>?_;refine Jg<|Jv I<|Jv I<|ab (au (.of I) (.of I) I (by omega) (by omega) bn) I ?_;refine an (.of I) (.of I) .here I I (eL I) hle p1 ?_;refine Jx<|Jj<|Jt<|Jg<|JB I (by omega)<|Jv I<|Jn ?_;rotate_left;refine Jr<|Jv I<|Jv I<|ab (au (.of I) (.of I) I (by omega) (by omega) bn) I ?_;refine ab (ag (.of I) (At.mW .here c1)) I ?_;refine ab (ei (.of I) (.of I)) I ?_;refine Jn<|gB I (fun ar=>?_) fun ar=>?_;refine Jg<|Jv I<|Jv I<|ab (au (.of I) (.of I) I (by omega) (by omega) bn) I ?_;refine an (.of I) (.of I) .here I I (eL I) hle p2 ?_;refine Jx<|Jj<|Jt<|Jg<|JB I (by omega)<|Jv I<|Jn ?_;rotate_left;refine Jw<|Jj<|Jt<|Jg<|JB I (by omega)<|Jv I<|Jn ?_;rotate_right;rotate_right)
  ·rw [if_pos ar] at hF;rw [qe _ hF];apply aL (k+1,kG r tk (k+1)) ⟨by show k+1<=_;omega,I⟩ (by show tk.so.length-(k+1)<tk.so.length-k;omega)
   case hs1=>exact cu
   case ht=>exact ng
  ·rw [if_neg (by assumption),if_pos ar] at hF;have hq:L.set k ⟨#[45]⟩=kG r tk (k+1):=qe _ hF;rw [hq];apply aL (k+1,kG r tk (k+1)) ⟨by show k+1<=_;omega,I⟩ (by show tk.so.length-(k+1)<tk.so.length-k;omega)
   case hs1=>exact cu
   case ht=>exact ng
  ·rw [if_neg (by assumption),if_neg ar] at hF;apply aL (k+1,L) ⟨by show k+1<=_;omega,K7 hF⟩ (by show tk.so.length-(k+1)<tk.so.length-k;omega)
   case hs1=>exact cu
   case ht=>exact ng
 ·have e:k=tk.so.length:=by omega
  subst e;have rZ:L=(jr r tk).so:=by rw [hL,<- IA];congr 1;omega
  (refine Jr<|JA I<|Jn<|Jq<|Jc I fun ar=>Jp<|Jl<|Jo<|Jt<|Jr<|bP I I ae<|JL I bF I<|Jv I<|ab (aU (.o I (.o I .nil)) ak) I<|an (.of I) (.of I) (.there .here) I I (gJ I I) (bG I) ak<|Jn<|Je ?_)
  subst rZ;have Su:(aJ (jr r tk).so).length=r.lv.toNat*1:=by rw [dq,HL,Zap]
  refine cH (n:=r.lv.toNat) (xs:=aJ (jr r tk).so) (cap:=cap) (g:=gb) (E:=9) (sz:=1) (by exact Take.there .here) tN tM iz Su ?_
  with_reducible first|apply aR|apply aS
  case he=>exact kQ I inferInstance I (.there .here) ak (by rfl)
  case hR=>
   intro w' aA;exact aD (.w gb r.lv.toNat cap) trivial (by exact .h1 .nil) aA I
def DX (W:List eN):bd:=mN 9 (W.map eN.v) (W.map fun y=>aJ y.tk.so)
theorem Ni:mN 9 [] []=DX []:=rfl
theorem zJ (W:List eN) (y:eN):(gL (W++[y])).flatten=(gL W).flatten++[.string y.tk.de,y.v]:=by
 unfold gL;simp [eN.cells]
theorem Se {g:Tk->Tk} {first cap:List Value} [bO T_ f] {w:World} (h:Rd w kv 2 (gL l)) (hM:qY w l) (hn:l.length<=1000) (hg:∀ x∈l,(g x.tk).so.length=n)
  (cJ:∀ x∈l,∀ w',aK [] w w'->bb T_ f (first++[.agg x.cells.toArray]++cap) w' [] (fun _:Value=>True) (fun v=>.agg #[.string (g x.tk).de,v]) (fun v=>[row 9 1 v n (aJ (g x.tk).so)])) :
  bb T_ 166 [kv,.func (.func f) first.toArray cap.toArray] w [] (fun x:Value×List eN=>cq x.2=(cq l).map g) (fun x=>x.1) (fun x=>[row 78 2 x.1 x.2.length (gL x.2).flatten,DX x.2]):=by
 obtain ⟨a,cp,b,o,rfl,dp,bY,ha,hc⟩:=h;rw [dy] at *;unfold maxLen at bY;refine aT func166 I I ?_;refine Jr<|Ja I<|Ji<|Ja I<|Jn<|Jq<|Jr<|Jv I<|JI I<|Jv I<|Jn<|J0 ?_;refine aP 78 2 ?_;refine jU 9 ?_
 refine a7 (ι:=Nat×Value×List eN) (fun x=>x.1<=l.length/\cq x.2.2=(cq (l.take x.1)).map g) (fun x=>[(10,.q (x.1:Nat)),(9,.q (l.length:Nat)),(8,.slice a l.length cp),(5,x.2.1),(1,.func (.func f) first.toArray cap.toArray)])
  (fun x=>[row 78 2 x.2.1 x.2.2.length (gL x.2.2).flatten,mN 9 (x.2.2.map eN.v) (x.2.2.map fun y=>aJ y.tk.so)]) (fun x=>l.length-x.1) ?_ ?_
 ·apply aI (0,.z,[]) ⟨Zi _,I⟩
  case hs1=>exact cu
  case ht=>
   exact .cons (.there .here) (.h1 .nil)
 rintro ⟨k,v,W⟩ ⟨hk,hW⟩;dsimp only at hk hW ⊢;have S8:W.length=k:=by
  have:=congrArg List.length hW;unfold cq at this;rw [Zd,Zd,Zd,Zs] at this;omega
 by_cases aN:k<l.length
 ·have cP:=ha (jV aN);have aB:=(hc k _ (jA aN)).2;have iz:=cJ _ (Zj aN);have SX:=hg _ (Zj aN);have ia:=Rd.one (hM _ (Zj aN));have htk:(cq (l.take (k+1))).map g=(cq (l.take k)).map g++[g l[k].tk]:=by
   unfold cq;rw [Zn aN,Zt,Zt];rfl
  have sX:(gL W).flatten.length=W.length*2:=by rw [fC (zH W),dy]
  unfold eN.cells at aB iz;refine aY (E:=78) (sz:=2) (v:=v) (by exact .here) fun va vc e=>?_;subst e
  (refine Jr<|JA I<|Jn<|Jq<|Jd I fun ar=>Jk<|Jq<|J0<|Jr<|ab (fZ cP ar) I<|ab (iA (eV.base aB I)) I<|Jz I I fun _ _=>an (.of I) (.of I) .here I I (gJ I ia) (bG I) ak<|Jn<|Jg<|Jv I<|Jv I<|ab (cK .here) I ?_)
  refine JN bz I (fun w1 aG=>iz w1 aG.keeps) ?_;intro hv _;dsimp only [id_eq,Zb,Za];refine aY (E:=9) (sz:=1) (v:=hv) (by exact .here) fun jT jS e=>?_;subst e;refine bu (bB (.o I .nil) I I bR bR ak) I (fun _ _=>?_);refine bK (.of I) (.of I) cA .here ak (by rfl) (gJ I I) (by rfl) (by rfl) (by rfl) fa (by rfl) ?_;intro v';refine Ja I<|Jx<|Jj<|Jt<|Jg<|JB I (by omega)<|Jv I<|Jn ?_;have Vs:(aJ (g l[k].tk).so).length=n:=by rw [dq,SX]
  with_reducible apply lj (E:=9) (vs:=W.map eN.v) (xs:=W.map fun y=>aJ y.tk.so) (v:=.slice jT n jS) (x:=aJ (g l[k].tk).so) (n:=n)
  case ht=>exact df
  case ht2=>exact bF
  case hn=>exact Vs.symm
  case hl=>rw [Zd,Zd]
  case k=>
   apply aL (k+1,v',W++[⟨g l[k].tk,.slice jT n jS⟩]) ⟨by show k+1<=_;omega,by
    show cq (W++[_])=_;unfold cq at hW htk ⊢;rw [Zt,hW];exact htk.symm⟩ (by show l.length-(k+1)<l.length-k;omega)
   case hs1=>exact cu
   case ht=>
    dsimp only;rw [zJ,Zg,Zt,Zt];simp only [ZZ,Zf,ZI,Zaj,ZH];exact .cons (.there .here) (.h1 .nil)
 ·have e:k=l.length:=by omega
  rw [e,ZL] at hW;refine aY (E:=78) (sz:=2) (v:=v) (by exact .here) fun va vc e=>?_;subst e;refine Jr<|JA I<|Jn<|Jq<|Jc I fun ar=>Jp<|Jl<|Jo<|Jt<|Jr<|Jv I<|Ja I<|Jn<|Je ?_
  with_reducible first|apply aR|apply aS
  case he=>exact dH I I
  case hR=>
   intro w' aA;exact aD (.slice va W.length vc,W) hW (by exact .h2 .nil) aA I
def zw (r:Ro) (l:List Tk):List Tk:=if (fT r l).2.2≠0 then [] else l.map (jr r)
set_option maxHeartbeats 1000000 in
theorem Dx (h:RR w r s d t p) (cO:kE r) (hw:Rd w kv 2 (gL l)) (hM:qY w l) :
  bb T_ 47 [RA r s d t p,kv] w [] (fun x:Value×List eN=>cq x.2=zw r (cq l)) (fun x=>.tuple #[x.1,.q (fT r (cq l)).2.2]) (fun x=>[row 78 2 x.1 x.2.length (gL x.2).flatten,DX x.2]):=by
 obtain ⟨h1,h2,h3,h4⟩:=h.one;have Xw:=Rd.one hw;unfold RA;refine aT func47 I I ?_
 (refine Jr<|Jy I I fun _ _=>Ja I<|Ja I<|Jn<|Jq<|Jr<|ab (cK .here) I<|Jv I ?_)
 rename_i b2 tM;refine JN ba I (fun w1 aG=>Bp (h.keeps aG.keeps) cO (hw.keeps aG.keeps) (hM.keeps aG.keeps)) ?_;have HG:zw r (cq l)=if (fT r (cq l)).2.2≠0 then [] else (cq l).map (jr r):=rfl
 have SA:(fT r (cq l)).2.2=0->ew r=0/\qy r (cq l)=0:=fun h0=>by
  unfold fT at h0;by_cases c1:ew r=0
  ·rw [if_neg (not_not_intro c1)] at h0;by_cases c2:qy r (cq l)=0
   ·exact ⟨c1,c2⟩
   ·rw [if_pos c2] at h0;exact absurd h0 c2
  ·rw [if_pos c1] at h0;exact absurd h0 c1
 by_cases BA:(fT r (cq l)).2.2=0
 ·obtain ⟨BC,Sx⟩:=SA BA;have ee:=rO BC;have hT:=(j7.1 Sx).2;have wb:=ee.lim;have CX:=ee.len;rw [if_neg (not_not_intro BA)] at HG;rw [HG];clear HG SA;generalize fT r (cq l)=R at *;obtain ⟨R,at_,e_⟩:=R;dsimp only at BA;subst BA;rintro ⟨s1,d1,t1,p1⟩ _;dsimp only;unfold RA;refine cn (r:=R) (s:=s1) (d:=d1) (t:=t1) (p:=p1) (aQ _ _) fun k1 k2 k3 k4=>?_
  (refine Jv I<|JJ I I<|JJ I I<|JJ I I<|Jz I I fun _ _=>an (.of I) (.of I) .here I I (gr I I k1 k2 k3 k4) (bG I) ak<|Ja I<|Ja I<|Ji<|Jv I<|JD I<|Jn<|Jc I fun ar=>Jk<|Jr<|Jv I<|ab (bD .nil (.o I .nil)) I ?_)
  with_reducible apply jy
  case hr=>exact ba
  case hd=>rfl
  case ht=>exact bj.nil
  case hc=>
   intro w1 fp aG _ hs1;obtain rfl:fp=[]:=hs1;have hA:BR w1 b2 [.int .i64 r.lv,.int .i64 r.ma,s,d,t,p]:=BR.of aG eG;have hR:=h.keeps aG.keeps;have hK:=hM.keeps aG.keeps;have VI:=hT.y6;unfold cq at VI;rw [Zd] at VI;exact Se (f:=167) (first:=[]) (cap:=[.pointer (some ⟨b2,0,none⟩)]) (g:=jr r) (n:=r.lv.toNat) (hw.keeps aG.keeps) hK (by omega) (fun x _=>by unfold jr;simp) (fun x hx w2 eM=>Rg (hR.keeps eM) (hA.keeps eM) (by omega) (by omega) ((hK x hx).keeps eM) (hT.lv _ (ZU hx)))
  rintro ⟨v,W⟩ hW;dsimp only at hW ⊢;unfold DX;dsimp only [Zb,Za];refine aY (E:=78) (sz:=2) (v:=v) (by exact .here) fun va vc e=>?_;subst e;refine Ja I<|Ja I<|Jn<|Je ?_
  with_reducible first|apply aR|apply aS
  case he=>exact gq I I I
  case hR=>
   intro w' aA;exact aD (.slice va W.length vc,W) hW (by exact .h2 .nil) aA I
 ·rw [if_pos BA] at HG;rw [HG];clear HG SA;generalize fT r (cq l)=R at *;obtain ⟨R,at_,e_⟩:=R;dsimp only at BA;rintro ⟨s1,d1,t1,p1⟩ _;dsimp only;unfold RA;refine cn (r:=R) (s:=s1) (d:=d1) (t:=t1) (p:=p1) (aQ _ _) fun k1 k2 k3 k4=>?_
  (refine Jv I<|JJ I I<|JJ I I<|JJ I I<|Jz I I fun _ _=>an (.of I) (.of I) .here I I (gr I I k1 k2 k3 k4) (bG I) ak<|Ja I<|Ja I<|Ji<|Jv I<|JD I<|Jn<|Jd I fun ar=>Jr<|Jv I<|Ja I<|Ja I<|Jn<|Ju ?_)
  refine aP 78 2 ?_;refine jU 9 ?_;rw [Ni]
  with_reducible first|apply aR|apply aS
  case he=>exact gq I I I
  case hR=>
   intro w' aA;exact aD (.z,([]:List eN)) (show cq []=[] from I) (by exact .cons (.there .here) (.h1 .nil)) aA I
def nO (r:Ro) (o:ByteArray):Int:=aW [ew r,mB r o]
def nN (r:Ro) (o:ByteArray) (q:Bool):Ro:=if nO r o≠0 then Ro.nil else r.iD o q
theorem tf (l:List De):(jQ l).length=l.length*3:=by unfold jQ;rw [fC (Fa l),cB]
theorem Tv (l:List De) (cur:List Value) {k:Nat} (h:k<l.length) (q:Bool):setCells (jQ l++cur) (k*3+2) [.bool q]=jQ (l.modify k fun x=>⟨x.nm,x.mx,q⟩)++cur:=by
 rw [j9 _ _ _ (by rw [Zg,tf];omega),Zbv _ _ (by rw [tf];omega)];congr 1;have e:l=l.take k++l[k]::l.drop (k+1):=by rw [<- Zu h,ZV]
 have hm:l.modify k (fun x=>⟨x.nm,x.mx,q⟩)=l.take k++⟨l[k].nm,l[k].mx,q⟩::l.drop (k+1):=by
  rw [List.modify_eq_take_cons_drop h]
 have ht:(jQ (l.take k)).length=k*3:=by rw [tf,Zs,Zbd (by omega)]
 have hs:∀ (a:List De) (x:De) (b:List De),jQ (a++x::b)=jQ a++(x.cells++jQ b):=fun a x b=>by unfold jQ wz;simp
 rw [hm,hs]
 conv=>lhs;rw [e,hs]
 rw [Zbn _ _ (by omega),ht,Nat.add_sub_cancel_left]
 rfl
set_option maxHeartbeats 1000000 in
theorem tX (o:ByteArray) (q:Bool) {w:World} (h:RR w r s d t p) (cO:kE r) :
  bb T_ 78 [RA r s d t p,.string o,.bool q] w [] (fun _:Value×Value×Value×Value=>True) (fun x=>.tuple #[RA (nN r o q) x.1 x.2.1 x.2.2.1 x.2.2.2,.q (nO r o)]) (fun x=>oA (nN r o q) x):=by
 obtain ⟨h1,h2,h3,h4⟩:=h.one;have dD:∀ w',aK [] w w'->aj T_ 34 [.agg #[.int .i64 r.lv,.int .i64 r.ma,s,d,t,p]] w' (.int .i64 (ew r)):=fun w' hk=>dR (h.keeps hk) cO
 have lR:∀ w',aK [] w w'->aj T_ 112 [.agg #[.q r.lv,.q r.ma,s,d,t,p],.string o] w' (.q (mB r o)):=fun w' hk=>dY o (h.keeps hk)
 unfold RA;refine aT func78 I I ?_;refine Jr<|Jy I I fun _ _=>Jz I I fun _ _=>Ja I<|Jn<|Jq<|Jq ?_;rename_i b3 uR b6 hb6
 with_reducible refine cW 6 (by kernel_rfl) ?_
 (refine ao (cK (.there .here)) I<|a8 bz I (fun w' aA=>(dD w' (Mem.keeps aA)))<|ao (cK (.there .here)) I<|ao lX I<|a8 ba I (fun w' aA=>(lR w' (Mem.keeps aA)))<|eC (aC (.o I (.o I .nil)) I I I I) I I ?_)
 with_reducible refine dw I fun bq nf=>?_
 (refine ai bz I (fun w' aA=>(dG (Mem.dh aA .here I I) (cm.cons (cm.cons cm.nil))))<|Ja I<|Ji<|Jv I<|JD I<|Jn<|gB I (fun ar=>?_) fun ar=>?_;refine Jr<|ab (aU .nil ak) I<|Jv I<|an (.of I) (.of I) (.there .here) I I (gr I I I I I I) (bG I) ak<|Ja I<|Jn<|Ju ?_;rotate_left;refine Jk<|Jr<|ab (cK bF) I ?_;rotate_right)
 ·have e1:nN r o q=Ro.nil:=if_pos ar;have e2:nO r o=aW [ew r,mB r o]:=rfl;rw [e1,e2];refine aP 186 2<|aP 90 3<|aP 187 3<|aP 188 3 ?_
  with_reducible first|apply aR|apply aS
  case he=>exact lC I inferInstance I df ak (by rfl) (by rfl)
  case hR=>
   intro w' aA;exact aD (.z,.z,.z,.z) trivial (by exact .cons cA (.cons bF (.cons (.there .here) (.h1 .nil)))) aA I
 have e0:aW [ew r,mB r o]=0:=Zq.1 ar;have e1:nN r o q=r.iD o q:=if_neg ar;have e2:nO r o=0:=e0;have BC:ew r=0:=bS.1 e0 _ Zr;have Qu:o∈bU r:=by
  have:=(bI (by decide)).1 (bS.1 e0 (mB r o) (by simp));rwa [decide_eq_false_iff_not,cg,Classical.not_not] at this
 have ee:=rO BC;have hf:=kF ee ee.val;rw [e1,e2];refine JN bz I (fun w1 aG=>uJ (h.keeps aG.keeps) cO (by omega)) ?_;intro y _;dsimp only [id_eq,Zb,Za];obtain ⟨s1,d1,t1,p1⟩:=y;dsimp only;unfold RA PB;refine cn (r:=r) (s:=s1) (d:=d1) (t:=t1) (p:=p1) (by unfold oA PB;exact .h4 .nil) fun k1 k2 k3 k4=>?_
 (refine Jz I I fun _ _=>an (.of I) (.of I) .here I I (gr I I k1 k2 k3 k4) (bG I) ak<|Jn<|Jq ?_)
 rename_i b9 hb9;obtain ⟨j0,AR⟩:∃ i:Nat,bA (bU r) o=(i:Nat):=⟨(bA (bU r) o).toNat,by have:=eE Qu;omega⟩;have CZ:j0<r.de.length:=by
  obtain ⟨hl,_⟩:=eF (l:=bU r) (s:=o) (by omega);rw [AR,ZF] at hl;unfold bU at hl;rwa [Zd] at hl
 have hdd:∀ w',aK [] w w'->aj T_ 155 [.agg #[.q r.lv,.q r.ma,s,d,t,p],.string o] w' (.q (j0:Nat)):=fun w' hk=>AR ▸ fS o (h.keeps hk)
 refine cQ (E:=90) (sz:=3) (v:=d1) bF (by omega) fun gd cap cur e Ll EV DL VU=>?_;subst e;have p0:=Tv r.de cur CZ q;have hle:j0*3+2+1<=(jQ r.de++cur).length:=by rw [Zg,tf];omega
 with_reducible refine ef 8 (by kernel_rfl) ?_
 (refine pt I I ae<|aO (ie (.there .here)) I<|aO (cK uZ) I<|lH I I<|gQ ba I (fun w' aA=>(hdd w' (Mem.keeps aA)))<|lH I I<|aO (au (.of I) (.of I) I (by omega) (by omega) bn) I<|pt I I ae ?_)
 with_reducible refine er ?_
 (refine an (.of I) (.of I) .here I I (eL I) hle p0<|Ji<|ab (cK (.there .here)) I<|an (.of I) (.of I) kU I I (gr I I k1 I k3 k4) (bG I) ak<|Ja I<|Jn<|Je ?_)
 have hpr:r.iD o q=⟨r.lv,r.ma,r.sr,r.de.modify j0 fun x=>⟨x.nm,x.mx,q⟩,r.ti,r.po⟩:=by unfold Ro.iD;rw [AR,ZF]
 have wa:(r.de.modify j0 fun x=>(⟨x.nm,x.mx,q⟩:De)).length=r.de.length:=List.length_modify _ _ _
 rw [hpr];generalize (r.de.modify j0 fun x=>(⟨x.nm,x.mx,q⟩:De))=D' at *
 have AS:(jQ D'++cur).length=cap*3:=by rw [Zg,tf] at DL ⊢;rw [wa];exact DL
 refine cH (n:=r.de.length) (xs:=jQ D') (cap:=cap) (g:=gd) (E:=90) (sz:=3) (by exact Take.there .here) Ll EV AS (by rw [tf,wa]) ?_
 with_reducible first|apply aR|apply aS
 case he=>exact lC I inferInstance I (.there .here) ak (by rfl) (by rfl)
 case hR=>
  intro w' aA;exact aD (s1,.w gd r.de.length cap,t1,p1) trivial (show bj _ [J1 r s1,row 90 3 (.w gd r.de.length cap) D'.length (jQ D'),J3 r t1,J4 r p1] _ by rw [wa];exact .cons cA (.h1 (.cons bF (.cons bF .nil)))) aA I
structure qh where
 fr:Int
 tk:List eN
 v:Value
def qh.cells (x:qh):List Value:=[.q x.fr,x.v]
def tB (l:List qh):List (List Value):=l.map qh.cells
theorem lp (l:List qh):(tB l).length=l.length:=by simp [tB]
theorem Aw {l:List qh} (h:k<l.length):(tB l)[k]? = some (l[k]).cells:=by simp [tB,h]
theorem EC {l:List qh} (h:k<l.length):tB l≠[]:=by intro e;have:=congrArg List.length e;rw [lp] at this;simp at this;subst this;simp at h
def Ik (w:World) (l:List qh):Prop:=∀ x∈l,Rd w x.v 2 (gL x.tk)/\qY w x.tk
theorem Ik.keeps {w w':World} {l:List qh} (h:Ik w l) (hk:aK [] w w'):Ik w' l:=fun x hx=>⟨(h x hx).1.keeps hk,(h x hx).2.keeps hk⟩
def eD (l:List qh):List Od:=l.map fun x=>⟨x.fr,cq x.tk⟩
theorem uK (l:List qh):(eD l).length=l.length:=Zd _
theorem CD {l:List qh} (h:k<l.length):(eD l).getD k Od.zero=⟨l[k].fr,cq l[k].tk⟩:=by
 unfold eD;rw [Zk,ZA,Zc h];rfl
theorem OI {lv:Value} {l:List qh} {p:qh->Bool} {first cap:List Value} [bO T_ f] {w:World} (h:Rd w lv 2 (tB l)) (cJ:∀ x∈l,∀ w',aK [] w w'->aj T_ f (first++[.agg x.cells.toArray]++cap) w' (.bool (p x))) :
  aj T_ 173 [lv,.func (.func f) first.toArray cap.toArray] w (.q (fU p l)):=by
 obtain ⟨a,cp,b,o,rfl,dp,bY,ha,hc⟩:=h;rw [lp] at *;unfold maxLen at bY;refine ah func173 I I ?_;refine Jr<|Ja I<|Jn<|Jq<|Jr<|Jv I<|JI I<|Jv I<|Jn<|J0 ?_;refine a7 (fun k:Nat=>k<=l.length/\∀ i,i<k->(l[i]?.map p).getD false=false) (fun k=>[(8,.int .i64 k),(7,.int .i64 l.length),(0,.slice a l.length cp),(1,.func (.func f) first.toArray cap.toArray)]) (fun _=>[]) (fun k=>l.length-k) ?_ ?_
 ·apply aI 0 ⟨Zi _,fun i h=>by omega⟩
  case hs1=>exact cu
  case ht=>(try simp only [Ze,Zf,Za]);exact .nil
 rintro k ⟨hk,hf⟩;by_cases aN:k<l.length
 ·have cP:=ha (EC aN);have aB:=(hc k _ (Aw aN)).2;have iz:=cJ _ (Zj aN);have hps:(l[k]?.map p).getD false=p l[k]:=by simp [aN]
  unfold qh.cells at aB iz
  (refine Jr<|JA I<|Jn<|Jq<|Jd I fun ar=>Jk<|Jq<|J0<|Jr<|Jv I<|Ja I<|Ji<|Jv I<|Jv I<|Jv I<|ab (fZ cP ar) I<|ab (iA (eV.base aB I)) I<|ai bz I (fun w' aA=>(iz w' (Mem.keeps aA)))<|Jn<|qv I (fun ar=>?_) fun ar=>?_;refine Jr<|Jv I<|Ja I<|Jn<|Je<|Jm<|Jh<|Jh<|Jm<|Jh<|JT ?_;rotate_left;refine Jw<|Jj<|Jt<|Jg<|JB I (by omega)<|Jv I<|Jn ?_;rotate_right)
  ·rw [gG hf aN ar]
  ·apply aL (k+1) ⟨by omega,fun i hi=>by
    by_cases e:i=k
    ·rw [e,hps];exact ar
    ·exact hf i (by omega)⟩ (by omega)
   case hs1=>exact cu
   case ht=>(try simp only [Ze,Zf,Za]);exact .nil
 ·obtain rfl:k=l.length:=by omega
  refine Jr<|JA I<|Jn<|Jq<|Jc I fun ar=>Jp<|Jl<|Jo<|Jt<|Jr<|Ja I<|Jn<|Je<|JT ?_;rw [fG hf]
theorem NI {x:qh} {f:Int} (f1:w.cell? ⟨b,0,none⟩=some (.q f)):aj T_ 174 [.agg x.cells.toArray,.p b] w (.bool (decide (f<x.fr))):=by
 unfold qh.cells;refine ah func174 I I ?_
 (refine Jr<|Jy I I fun _ _=>Ja I<|Ji<|bP I I ae<|JL I .here I<|ab (ag (.of I) (At.base f1 I)) I<|JE I<|Ja I<|Jn<|Je<|JT ?_)
 rfl
def Og (r:Ro) (l:List Od):Int:=if ew r≠0 then ew r else Xe r l
def TU (r:Ro) (l:List Od):Int:=aW [ew r,bQ (decide ((16:Int)<(l.length:Nat))) 5]
theorem R3 (r:Ro) (l:List Od):Og r l=if TU r l≠0 then TU r l else jJ (MP r l) l.length:=by
 unfold Og TU Xe;by_cases h1:ew r=0
 ·rw [if_neg (not_not_intro h1)];by_cases h2:(16:Int)<(l.length:Nat)
  ·rw [if_pos h2,if_pos (by rw [h1,decide_eq_true h2];decide),h1,decide_eq_true h2];rfl
  ·rw [if_neg h2,if_neg (by rw [h1,decide_eq_false h2];decide)]
 ·have:aW [ew r,bQ (decide ((16:Int)<(l.length:Nat))) 5]=ew r:=by unfold aW;rw [if_pos h1]
  rw [if_pos h1,this,if_pos h1]
def KG (l:List qh) (k:Nat):Int:=if k=0 then -1 else ((eD l).getD (k-1) Od.zero).fr
theorem R9 {l:List qh} (h:k<l.length):MP r (eD l) k=aW [gD l[k].fr 0 10000000,bQ (decide (l[k].fr<=KG l k)) 11,qy r (cq l[k].tk)]:=by
 unfold MP KG;have:(eD l)[k]? = some ⟨l[k].fr,cq l[k].tk⟩:=by unfold eD;rw [ZA,Zc h];rfl
 rw [this];rfl
theorem Hq {l:List qh} (h:k<l.length):KG l (k+1)=l[k].fr:=by
 unfold KG;rw [if_neg (by omega),ZaE,CD h]
set_option maxHeartbeats 1000000 in
theorem xS {l:List qh} (h:RR w r s d t p) (cO:kE r) (hw:Rd w kv 2 (tB l)) (hM:Ik w l) :
  aj T_ 171 [RA r s d t p,kv] w (.q (Og r (eD l))):=by
 obtain ⟨h1,h2,h3,h4⟩:=h.one;obtain ⟨aw,cw,bw,ow,rfl,Qx,CV,V4,Lp⟩:=hw;rw [lp] at *;unfold maxLen at CV;have qH:=uK l;have dD:∀ w',aK [] w w'->aj T_ 34 [.agg #[.int .i64 r.lv,.int .i64 r.ma,s,d,t,p]] w' (.int .i64 (ew r)):=fun w' hk=>dR (h.keeps hk) cO
 have hX:=R3 r (eD l);have hA:TU r (eD l)=aW [ew r,bQ (decide ((16:Int)<(l.length:Nat))) 5]:=by unfold TU;rw [qH]
 unfold RA;refine ah func171 I I ?_
 (refine Jr<|Jy I I fun _ _=>Ja I<|Jn<|Jq<|Jr<|ab (cK .here) I<|ai bz I (fun w' aA=>(dD w' (Mem.keeps aA)))<|Jv I<|JI I<|JE I<|ai ba I (fun w' aA=>(dO _ 5 w'))<|bu (aC (.o I (.o I .nil)) I I I I) I fun _ _=>ai bz I (fun w' aA=>(dG (Mem.dh aA .here I I) (cm.cons (cm.cons cm.nil))))<|Ja I<|Ji<|Jv I<|JD I<|Jn<|gB I (fun ar=>?_) fun ar=>?_;refine Jr<|Jv I<|Ja I<|Jn<|Ju<|JT ?_;rotate_left;refine Jk<|Jr<|Ja I<|Jn<|Jq<|Jr<|Jv I<|JI I<|Jv I<|Jn<|J0 ?_;rotate_right)
 ·rw [hX,hA,if_pos ar]
 have Gi:TU r (eD l)=0:=by rw [hA];exact Zq.1 ar
 rw [if_neg (not_not_intro Gi),qH] at hX;clear ar;rename_i b2 tM bq nf
 refine a7 (fun k:Nat=>k<=l.length/\∀ i,i<k->MP r (eD l) i=0) (fun k=>[(23,.q (k:Nat)),(22,.q (l.length:Nat)),(21,.slice aw l.length cw),(6,.q (KG l k)),(2,.p b2)])
  (fun k=>[JP b2 r s d t p]) (fun k=>l.length-k) ?_ ?_
 ·apply aI 0 ⟨Zi _,fun i hi=>by omega⟩
  case hs1=>exact cu
  case ht=>(try simp only [Ze,Zf,Za]);exact .cons (.there .here) .nil
 rintro k ⟨hk,hf⟩;by_cases aN:k<l.length
 ·have Lt:=V4 (EC aN);have aB:=(Lp k _ (Aw aN)).2;unfold qh.cells at aB;have hx:=hM _ (Zj aN);have iF:=R9 (r:=r) aN;have CX:=Hq aN;generalize l[k]=x at aB hx iF CX ⊢;obtain ⟨xf,xt,xv⟩:=x;dsimp only at aB hx iF CX ⊢;have ia:=Rd.one hx.1;have htk:∀ w',aK [] w w'->aj T_ 164 [.agg #[.int .i64 r.lv,.int .i64 r.ma,s,d,t,p],xv] w' (.int .i64 (qy r (cq xt))):=fun w' hk=>sf (h.keeps hk) (hx.1.keeps hk) (hx.2.keeps hk)
  (refine Jr<|JA I<|Jn<|Jq<|Jd I fun ar=>Jk<|Jq<|J0<|Jr<|ab (au (.of I) (.of I) Lt (by omega) ar bn) I<|ab (iA (eV.base aB I)) I<|Jz I I fun _ _=>an (.of I) (.of I) .here I I (gJ I ia) (bG I) ak<|Jn<|Jq<|Jq ?_)
  with_reducible refine cW 13 (by kernel_rfl) ?_
  (refine ao lf I<|ao (ie .here) I<|a8 eK I (fun w' aA=>(mH xf 0 10000000 w'))<|ao lf I<|ao (ie .here) I<|ao lX I<|ao (mq (.of I) (.of I)) I<|a8 ba I (fun w' aA=>(dO _ 11 w'))<|ao (cK (.there .here)) I<|ao lf I<|ao (ie .here) I<|a8 ba I (fun w' aA=>(htk w' (Mem.keeps aA)))<|eC (aC (.o I (.o I (.o I .nil))) I I I I) I I ?_)
  with_reducible refine dw I fun b55 aaN=>?_
  (refine ai bz I (fun w' aA=>(dG (Mem.dh aA .here I I) (cm.cons (cm.cons (cm.cons cm.nil)))))<|Ja I<|Ji<|Jv I<|JD I<|Jn<|gB I (fun ar=>?_) fun ar=>?_;refine Jr<|Jv I<|Ja I<|Jn<|Ju<|Jm<|Jh<|Jh<|Jm<|Jh<|JT ?_;rotate_left;refine Jk<|Jg<|bP I I ae<|JL I (.there .here) I<|Ja I<|Jx<|Jj<|Jt<|Jg<|JB I (by omega)<|Jv I<|Jn ?_;rotate_right)
  ·rw [<- iF] at ar ⊢;have hB:jJ (MP r (eD l)) l.length=MP r (eD l) k:=fg hf aN ar;rw [hX,hB]
  have hz:MP r (eD l) k=0:=by rw [iF];exact Zq.1 ar
  rw [<- CX];apply aL (k+1) ⟨by omega,fun i hi=>by
   by_cases e:i=k
   ·rw [e];exact hz
   ·exact hf i (by omega)⟩ (by omega)
  case hs1=>exact cu
  case ht=>(try simp only [Ze,Zf,Za]);exact .cons bF .nil
 ·obtain rfl:k=l.length:=by omega
  have HM:jJ (MP r (eD l)) l.length=0:=dV.2 hf;refine Jr<|JA I<|Jn<|Jq<|Jc I fun ar=>Jp<|Jl<|Jo<|Jt<|Jr<|Ja I<|Jn<|Je<|JT ?_;rw [hX,HM]
set_option maxHeartbeats 2000000 in
theorem P3 {l:List qh} (h:RR w r s d t p) (BC:ew r=0) (hw:Rd w kv 2 (tB l)) (hM:Ik w l) (hO:PT r (eD l)) :
  bb T_ 172 [RA r s d t p,kv] w [] (fun _:Value×Value×Value×Value=>True) (fun x=>.tuple #[RA (iL r (eD l)).1 x.1 x.2.1 x.2.2.1 x.2.2.2,.q (iL r (eD l)).2.1,.q (iL r (eD l)).2.2]) (fun x=>oA (iL r (eD l)).1 x):=by
 have ee:=rO BC;have wb:=ee.lim;have CX:=ee.len;have cO:kE r:=by unfold kE;omega
 have Qt:=kF ee ee.val;have hlf:=hO.y6;rw [uK] at hlf;have qH:=uK l;obtain ⟨h1,h2,h3,h4⟩:=h.one;obtain ⟨a,cp,b,o,rfl,dp,bY,ha,hc⟩:=hw;rw [lp] at *;unfold maxLen at bY;have hX:iL r (eD l)=if jJ (CA r (eD l)) l.length=0 then (P1 r (eD l) l.length,0,0) else (Ro.nil,((PN (CA r (eD l)) l.length:Nat):Int),jJ (CA r (eD l)) l.length):=by unfold iL;rw [qH]
 unfold RA;refine aT func172 I I ?_;refine Jr<|Jy I I fun _ _=>Jz I I fun _ _=>Ja I<|Ja I<|Ji<|ab (cK (.there .here)) I ?_;rename_i b2 tM b4 uQ;refine JN bz I (fun w1 aG=>uJ (h.keeps aG.keeps) cO (by omega)) ?_;intro y _;dsimp only [id_eq,Zb,Za];obtain ⟨s1,d1,t1,p1⟩:=y;dsimp only;unfold RA PB;refine cn (r:=r) (s:=s1) (d:=d1) (t:=t1) (p:=p1) (by unfold oA PB;exact .h4 .nil) fun k1 k2 k3 k4=>?_
 (refine Jz I I fun _ _=>an (.of I) (.of I) .here I I (gr I I k1 k2 k3 k4) (bG I) ak<|Jn<|Jq<|Jr<|Jv I<|JI I<|Jv I<|Jn<|J0 ?_)
 rename_i b7 V3
 refine a7 (ι:=Nat×(Value×Value×Value×Value)×List Po) (fun y=>y.1<=l.length/\MD r (eD l) y.1 y.2.2/\(∀ j,j<y.1->CA r (eD l) j=0)/\y.2.1.1.oneCell'=true/\y.2.1.2.1.oneCell'=true/\y.2.1.2.2.1.oneCell'=true/\y.2.1.2.2.2.oneCell'=true) (fun y=>[(17,.q (y.1:Nat)),(16,.q (l.length:Nat)),(15,.slice a l.length cp),(7,.p b7),(4,.p b4)])
  (fun y=>[JP b7 r (y.2.1.1) (y.2.1.2.1) (y.2.1.2.2.1) (y.2.1.2.2.2),J1 r y.2.1.1,J2 r y.2.1.2.1,J3 r y.2.1.2.2.1,row 188 3 y.2.1.2.2.2 y.2.2.length (gK y.2.2),bo b4 (.cells #[.q 0,.q 0,.z,.z,.z,.z] 41 (0,0))]) (fun y=>l.length-y.1) ?_ ?_
 ·apply aI (0,(s1,d1,t1,p1),r.po) ⟨Zi _,⟨I,ee.val⟩,fun j hj=>absurd hj (ZR j),k1,k2,k3,k4⟩
  case hs1=>exact cu
  case ht=>exact ng
 clear k1 k2 k3 k4 s1 d1 t1 p1;rintro ⟨i,⟨s1,d1,t1,p1⟩,q⟩ ⟨hi,Tb,O5,k1,k2,k3,k4⟩;dsimp only at hi Tb O5 k1 k2 k3 k4 ⊢;have hqf:=kF ee Tb.val;by_cases aN:i<l.length
 ·have cP:=ha (EC aN);have aB:=(hc i _ (Aw aN)).2;have jk:=Zj aN;have hx:=hM _ jk;have nH:i<(eD l).length:=by omega
  have Qp:=CD aN;have hti:=hO.tk i nH;have SV:(eD l)[i].tk=cq l[i].tk:=by
   rw [Zk,Zc nH,Zal] at Qp;rw [Qp]
  rw [SV] at hti;have Lb:CA r (eD l) i=(fx (r.wp q) (cq l[i].tk)).2.2:=by unfold CA;rw [Tb.eq,Qp]
  have bh:P1 r (eD l) (i+1)=(fx (r.wp q) (cq l[i].tk)).1:=by rw [P1,Tb.eq,Qp]
  have lL:=fun h0=>Tb.next BC hO nH h0
  unfold qh.cells at aB;generalize l[i]=x at *;obtain ⟨xf,xt,xv⟩:=x;dsimp only at *;have ia:=Rd.one hx.1
  (refine Jr<|JA I<|Jn<|Jq<|Jd I fun ar=>Jk<|Jq<|J0<|Jr<|Jv I<|ab (fZ cP ar) I<|ab (iA (eV.base aB I)) I<|Jz I I fun _ _=>Ja I<|an (.of I) (.of I) .here I I (gJ I ia) (bG I) ak<|Ji<|ab (cK (.there .here)) I<|bP I I ae<|JL I .here I ?_)
  refine JN ba I (fun w1 aG=>zL (r:=r.wp q) (RR.wp (bM aG bF I) (bN aG cA I) (bL aG df I) (bJ aG eG I)) (ee.wp Tb.val) (by show q.length<=500;omega) (hx.1.keeps aG.keeps) (hx.2.keeps aG.keeps) (hti.wp q)) ?_;have jj:∀ q',fx (r.wp q) (cq xt)=(r.wp q',0,0)->True:=fun _ _=>trivial
  generalize fx (r.wp q) (cq xt)=R at *;obtain ⟨R,at_,e_⟩:=R;rintro ⟨s2,d2,t2,p2⟩ _;dsimp only at Lb bh ⊢;unfold RA;refine cn (r:=R) (s:=s2) (d:=d2) (t:=t2) (p:=p2) (aQ _ _) fun m1 m2 m3 m4=>?_;clear jj
  (refine Jv I<|JJ I I<|JJ I I<|JJ I I<|Jz I I fun _ _=>an (.of I) (.of I) .here I I (gr I I m1 m2 m3 m4) (bG I) ak<|Ja I<|Ja I<|Jn<|Jq<|Jr<|Jv I<|JD I<|Jn<|gB I (fun ar=>?_) fun ar=>?_;refine Jr<|ab (aU .nil ak) I<|Jv I<|Jv I<|an (.of I) (.of I) Bu I I (gr I I I I I I) (bG I) ak<|Ja I<|Ja I<|Jn<|Ju<|Jm<|Jh<|Jh<|Jm<|Jh ?_;rotate_left;refine Jk<|Jg<|ab (cK .here) I<|an (.of I) (.of I) kU I I (gr I I m1 m2 m3 m4) (bG I) ak<|Jx<|Jj<|Jt<|Jg<|JB I (by omega)<|Jv I<|Jn ?_;rotate_right)
  ·have hne:CA r (eD l) i≠0:=by rw [Lb];exact ar
   have hE:jJ (CA r (eD l)) l.length=e_:=(fg O5 aN hne).trans Lb;have e4:iL r (eD l)=(Ro.nil,((i:Nat):Int),e_):=by rw [hX,hE,if_neg ar,PL O5 aN hne]
   rw [e4];dsimp only;refine aP 186 2<|aP 90 3<|aP 187 3<|aP 188 3 ?_
   with_reducible first|apply aR|apply aS
   case he=>exact mh I inferInstance I df ak (by rfl) (by rfl) (by rfl)
   case hR=>
    intro w' aA;exact aD (.z,.z,.z,.z) trivial (by exact .cons cA (.cons bF (.cons (.there .here) (.h1 .nil)))) aA I
  have hz:e_=0:=Zq.1 ar;have ho0:CA r (eD l) i=0:=Lb.trans hz;obtain ⟨q',xj,_⟩:=lL ho0;have We:R=r.wp q':=bh.symm.trans xj.eq;subst We;apply aL (i+1,(s2,d2,t2,p2),q') ⟨by show i+1<=_;omega,xj,fun j hj=>by
   by_cases e:j=i
   ·rw [e];exact ho0
   ·exact O5 j (by have:j<i+1:=hj;omega),m1,m2,m3,m4⟩ (by show l.length-(i+1)<l.length-i;omega)
  case hs1=>exact cu
  case ht=>
   dsimp only;have w1:(r.wp q').lv=r.lv:=rfl;have w2:(r.wp q').ma=r.ma:=rfl;have w3:(r.wp q').sr=r.sr:=rfl;have w4:(r.wp q').de=r.de:=rfl;have w5:(r.wp q').ti=r.ti:=rfl;have w6:(r.wp q').po=q':=rfl
   try unfold J1 J2 J3
   try unfold J4
   rw [w1,w2,w3,w4,w5,w6];exact .h1 (.cons (.there .here) (.cons (.there .here) (.cons (.there .here) (.cons (.there .here) (.cons kU .nil)))))
 ·have e:i=l.length:=by omega
  subst e
  (refine Jr<|JA I<|Jn<|Jq<|Jc I fun ar=>Jp<|Jl<|Jo<|Jt<|Jr<|ab (cK .here) I<|an (.of I) (.of I) eG I I (gr I I k1 k2 k3 k4) (bG I) ak<|Ja I<|Ja I<|Jn<|Je ?_)
  have hE:jJ (CA r (eD l)) l.length=0:=dV.2 O5;have e4:iL r (eD l)=(r.wp q,0,0):=by rw [hX,hE,if_pos I,Tb.eq]
  rw [e4];dsimp only
  with_reducible first|apply aR|apply aS
  case he=>exact mh I inferInstance I .here ak (by rfl) (by rfl) (by rfl)
  case hR=>
   intro w' aA;exact aD (s1,d1,t1,p1) trivial (by exact .cons bF (.cons bF (.cons bF (.cons bF .nil)))) aA I
theorem R2 {l:List Od} (h:Og r l=0):ew r=0/\PT r l:=by
 unfold Og at h;by_cases c:ew r=0
 ·rw [if_neg (not_not_intro c)] at h;exact ⟨c,ods h⟩
 ·rw [if_pos c] at h;exact absurd h c
def g4:Value->Value×Value×Value×Value
 | .agg a=>(a.getD 0 (.slice none 0 0),a.getD 1 (.slice none 0 0),a.getD 2 (.slice none 0 0),a.getD 3 (.slice none 0 0))
 | _=>(.slice none 0 0,.slice none 0 0,.slice none 0 0,.slice none 0 0)
theorem oV (x:Value×Value×Value×Value):∃ v,g4 v=x:=⟨.agg #[x.1,x.2.1,x.2.2.1,x.2.2.2],I⟩
def IW (r:Ro) (o:ByteArray) (f:Int):Int:=aW [mB r o,gD f 0 10000000]
def ru (r:Ro) (l:List Od) (o:ByteArray) (f:Int):Int:=if Og r l≠0 then Og r l else if IW r o f≠0 then IW r o f else (iL r (l.take (iB l f))).2.2
def ub (r:Ro) (l:List Od) (o:ByteArray) (f:Int):List ByteArray:=if ru r l o f≠0 then [] else bH (iL r (l.take (iB l f))).1 o
theorem OG (l:List qh) (f:Int):fU (fun x:qh=>decide (f<x.fr)) l=if iB (eD l) f<l.length then ((iB (eD l) f:Nat):Int) else -1:=by
 have hn:iB (eD l) f=l.findIdx fun x=>decide (f<x.fr):=by
  unfold iB eD;rw [List.findIdx_map];rfl
 rw [hn];by_cases c:(l.findIdx fun x=>decide (f<x.fr))<l.length
 ·rw [if_pos c];refine gG (fun i hi=>?_) c (List.findIdx_getElem (w:=c));have:=List.not_of_lt_findIdx hi;rw [Zc (by omega)];simpa using this
 ·rw [if_neg c];refine fG fun i hi=>?_;have:=List.not_of_lt_findIdx (p:=fun x:qh=>decide (f<x.fr)) (xs:=l) (i:=i) (by omega)
  rw [Zc hi];simpa using this
theorem PT.take {l:List Od} (h:PT r l) (n:Nat):PT r (l.take n):=by
 refine ⟨by rw [Zs];have:=h.y6;omega,fun k hk=>?_,fun i j hi hj xK=>?_,fun k hk=>?_⟩
 ·rw [Zs] at hk;rw [ZaJ];exact h.fr k (by omega)
 ·rw [Zs] at hi hj;rw [ZaJ,ZaJ];exact h.inc i j (by omega) (by omega) xK
 ·rw [Zs] at hk;rw [ZaJ];exact h.tk k (by omega)
theorem FK {l:List Od} (hc:ew r=0) (hO:PT r l) (h:(iL r l).2.2=0):∃ q,gT r q/\(iL r l).1=r.wp q:=by
 unfold iL at h ⊢;by_cases c:jJ (CA r l) l.length=0
 ·rw [if_pos c];obtain ⟨q,hq⟩:=I6 hc hO l.length (Zz _) (dV.1 c);exact ⟨q,hq.val,hq.eq⟩
 ·rw [if_neg c] at h;exact absurd h c
set_option maxHeartbeats 2000000 in
theorem TL {l:List qh} (o:ByteArray) (f:Int) {w:World} (h:RR w r s d t p) (cO:kE r) (hw:Rd w kv 2 (tB l)) (hM:Ik w l) :
  bb T_ 64 [RA r s d t p,kv,.string o,.q f] w [] (fun _:Value=>True) (fun v=>.tuple #[v,.q (ru r (eD l) o f)]) (fun v=>[row 9 1 v (ub r (eD l) o f).length (aJ (ub r (eD l) o f))]):=by
 obtain ⟨h1,h2,h3,h4⟩:=h.one;have Bv:=hw;obtain ⟨a,cp,b,ow,rfl,dp,bY,ha,hc⟩:=hw;rw [lp] at *;unfold maxLen at bY;have qH:=uK l;have Lb:∀ w',aK [] w w'->aj T_ 171 [.agg #[.int .i64 r.lv,.int .i64 r.ma,s,d,t,p],.slice a l.length cp] w' (.int .i64 (Og r (eD l))):=fun w' hk=>xS (h.keeps hk) cO (Bv.keeps hk) (hM.keeps hk)
 have lR:∀ w',aK [] w w'->aj T_ 112 [.agg #[.q r.lv,.q r.ma,s,d,t,p],.string o] w' (.q (mB r o)):=fun w' hk=>dY o (h.keeps hk)
 unfold RA;refine aT func64 I I ?_
 (refine Jr<|Jy I I fun _ _=>Jy I I fun _ _=>Ja I<|Ja I<|Jn<|Jq<|Jr<|ab (cK (.there .here)) I<|Jv I<|ai ba I (fun w' aA=>(Lb w' (Mem.keeps aA)))<|Ja I<|Ji<|Jv I<|JD I<|Jn<|gB I (fun ar=>?_) fun ar=>?_;refine Jr<|Jv I<|Ja I<|Ja I<|Jn<|Ju ?_;rotate_left;refine Jk<|Jq<|Jq ?_;rotate_right)
 ·have e1:ru r (eD l) o f=Og r (eD l):=if_pos ar;have e2:ub r (eD l) o f=[]:=if_pos (by rw [e1];exact ar);rw [e1,e2];refine aP 9 1 ?_
  with_reducible first|apply aR|apply aS
  case he=>exact gq I I I
  case hR=>
   intro w' aA;exact aD (.z) trivial (by exact .h1 .nil) aA I
 have Ue:ru r (eD l) o f=if IW r o f≠0 then IW r o f else (iL r ((eD l).take (iB (eD l) f))).2.2:=if_neg ar
 obtain ⟨BC,hO⟩:=R2 (Zq.1 ar);clear ar;rename_i b4 uQ b7 V3
 with_reducible refine cW 6 (by kernel_rfl) ?_
 (refine ao (cK (.there .here)) I<|ao lX I<|a8 ba I (fun w' aA=>(lR w' (Mem.keeps aA)))<|ao (ie .here) I<|a8 eK I (fun w' aA=>(mH f 0 10000000 w'))<|eC (aC (.o I (.o I .nil)) I I I I) I I ?_)
 with_reducible refine dw I fun bq nf=>?_
 (refine ai bz I (fun w' aA=>(dG (Mem.dh aA .here I I) (cm.cons (cm.cons cm.nil))))<|Ja I<|Ji<|Jv I<|JD I<|Jn<|gB I (fun ar=>?_) fun ar=>?_;refine Jr<|Jv I<|Ja I<|Ja I<|Jn<|Ju ?_;rotate_left;refine Jk<|Jr<|Jv I<|ab (bD .nil (.o I .nil)) I ?_;rotate_right)
 ·have e1:ru r (eD l) o f=IW r o f:=by rw [Ue];exact if_pos ar
  have e2:ub r (eD l) o f=[]:=if_pos (by rw [e1];exact ar);rw [e1,e2];refine aP 9 1 ?_
  with_reducible first|apply aR|apply aS
  case he=>exact gq I I I
  case hR=>
   intro w' aA;exact aD (.z) trivial (by exact .h1 .nil) aA I
 have eq2:ru r (eD l) o f=(iL r ((eD l).take (iB (eD l) f))).2.2:=by rw [Ue];exact if_neg ar
 clear Ue;have Ue:=eq2;have hsd:o∈bU r:=by
  have:=(bI (by decide)).1 (bS.1 (Zq.1 ar) (mB r o) (by simp));rwa [decide_eq_false_iff_not,cg,Classical.not_not] at this
 clear ar eq2
 with_reducible apply ai
 case hr=>exact ba
 case hd=>rfl
 case hc=>
  intro w' aA;have f7:w'.cell? ⟨b7,0,none⟩=some (.q f):=At.lit (by exact Take.there .here) I w' aA;exact OI (f:=174) (p:=fun x:qh=>decide (f<x.fr)) (first:=[]) (cap:=[.p b7]) (Bv.keeps aA.keeps) (fun x _ w2 eM=>NI (cE f7 I eM))
 rw [OG];have Su:=Rf (eD l) f;rw [qH] at Su;by_cases kc:iB (eD l) f<l.length
 ·rw [if_pos kc];have Sq:iB (eD l) f<=l.length:=Su;have Ss:iB (eD l) f=iB (eD l) f:=rfl;refine Ja I<|Jn<|Jq<|Jr<|Jv I<|JA I<|Jn<|Jc I fun ar=>Jk<|Jq ?_;have vX:ru r (eD l) o f=(iL r ((eD l).take (iB (eD l) f))).2.2/\ub r (eD l) o f=if (iL r ((eD l).take (iB (eD l) f))).2.2≠0 then [] else bH (iL r ((eD l).take (iB (eD l) f))).1 o:=by
   have x1:ru r (eD l) o f=(iL r ((eD l).take (iB (eD l) f))).2.2:=by rw [Ue,Ss]
   refine ⟨x1,?_⟩;unfold ub;rw [x1,Ss]
  have Tc:=hO.take (iB (eD l) f);have re:(eD l).take (iB (eD l) f)=eD (l.take (iB (eD l) f)):=by unfold eD;rw [ZaH]
  rw [re] at vX Tc;have vZ:=FK BC Tc;have vY:Rd w (Go.sliced a 0 (((iB (eD l) f):Nat):Int).toNat cp 2) 2 (tB (l.take (iB (eD l) f))):=by
   have:=Bv.sliced (l:=0) (m:=(iB (eD l) f)) (Zi _) Sq;rw [ZF];rwa [List.drop_zero,show (tB l).take (iB (eD l) f)=tB (l.take (iB (eD l) f)) by unfold tB;rw [ZaH]] at this
  have hMn:Ik w (l.take (iB (eD l) f)):=fun x hx=>hM x (ZaG hx)
  rw [vX.1,vX.2];have rU:∀ w',aK [] w w'->bb T_ 172 [.agg #[.q r.lv,.q r.ma,s,d,t,p],Go.sliced a 0 (((iB (eD l) f):Nat):Int).toNat cp 2] w' [] (fun _:Value×Value×Value×Value=>True) (fun x=>.tuple #[RA (iL r (eD (l.take (iB (eD l) f)))).1 x.1 x.2.1 x.2.2.1 x.2.2.2,.q (iL r (eD (l.take (iB (eD l) f)))).2.1,.q (iL r (eD (l.take (iB (eD l) f)))).2.2]) (fun x=>oA (iL r (eD (l.take (iB (eD l) f)))).1 x):=fun w' hk=>P3 (h.keeps hk) BC (vY.keeps hk) (hMn.keeps hk) Tc
  generalize iL r (eD (l.take (iB (eD l) f)))=R at vZ rU ⊢;obtain ⟨R,at_,e_⟩:=R;dsimp only at vZ rU ⊢
  with_reducible refine pD 10 [7,8] (by kernel_rfl) (Zw.2 ⟨pL I (by kernel_rfl) (by kernel_rfl),Zw.2 ⟨pL I (by kernel_rfl) (by kernel_rfl),fun _ h=>absurd h Zp⟩⟩) ?_
  (refine aq (fun β=>(bV (.of I) bF ak (by rfl))) dj I<|aq (fun β=>(aX (.of I))) dj I<|aq (fun β=>(aX (.of I))) dj I<|aq (fun β=>(gF (.of I) (.of I) (by omega) (by omega))) dj I ?_)
  dsimp only [Nat.zero_add,Nat.reduceAdd]
  with_reducible apply dW (ι:=Value×Value×Value×Value) (Φ:=fun _=>True) (val:=fun x=>.tuple #[.agg #[.q R.lv,.q R.ma,x.1,x.2.1,x.2.2.1,x.2.2.2],.q at_,.q e_]) (own:=fun x=>[J1 R x.1,J2 R x.2.1,J3 R x.2.2.1,J4 R x.2.2.2]) (g:=g4) (B:=[]) (args:=fun _=>[.agg #[.q r.lv,.q r.ma,s,d,t,p],Go.sliced a 0 (((iB (eD l) f):Nat):Int).toNat cp 2])
  case hg=>exact oV
  case hB=>rfl
  case hr=>exact fun β=>aZ (.of I) (.o I (.o I .nil)) inferInstance I
  case hd=>rfl
  case hc=>exact fun β w' hb=>rU w' hb.mem.keeps
  dsimp only [Nat.reduceAdd]
  with_reducible apply aq
  case hr=>(intro β;exact aX (.of I))
  case hi=>exact fun β β' h=>by simp only [h 4 (by kernel_rfl)]
  case hd=>rfl
  dsimp only [Nat.reduceAdd]
  with_reducible apply aq
  case hr=>(intro β;exact di (.of I) I)
  case hi=>exact fun β β' h=>by simp only [h 4 (by kernel_rfl)]
  case hd=>rfl
  dsimp only [Nat.reduceAdd]
  (refine aq (fun β=>(di (.of I) I)) dj I<|aq (fun β=>(di (.of I) I)) dj I ?_)
  refine jN (fun β=>(rE I)) (fun _ _ _=>rfl) I ?_;refine fo fun β=>?_;dsimp only [eB,Za,Zb,List.append_eq,Nat.reduceAdd];generalize fk (β 9)=QT;generalize g4 (β 4)=y;obtain ⟨s1,d1,t1,p1⟩:=y;clear β;dsimp only;refine cn (r:=R) (s:=s1) (d:=d1) (t:=t1) (p:=p1) (by unfold oA PB;exact .h4 .nil) fun m1 m2 m3 m4=>?_;refine ct (rs:=[10]) (by kernel_rfl) (by simp) (Zw.2 ⟨?_,fun _ h=>absurd h Zp⟩);refine cF I ?_
  (refine an (.of I) (.of I) df I I (gr I I m1 m2 m3 m4) (bG I) ak<|Jn ?_)
  refine ct (rs:=[11]) (by kernel_rfl) (by simp) (Zw.2 ⟨?_,fun _ h=>absurd h Zp⟩);refine cF I ?_;refine Ja I<|Jn ?_;refine ct (rs:=[12]) (by kernel_rfl) (by simp) (Zw.2 ⟨?_,fun _ h=>absurd h Zp⟩);refine cF I ?_;refine Ja I<|Jn ?_
  with_reducible refine cM (by kernel_rfl) ?_
  clear rU;by_cases BA:e_=0
  ·obtain ⟨q,hVq,We⟩:=vZ BA;clear vZ;rw [if_neg (not_not_intro BA)];subst We;subst BA;have Vu:=(rO BC).wp hVq;have wb:=Vu.lim;have CX:=Vu.len
   (refine Jt<|Jq<|Jr<|Jv I<|JD I<|Jn<|Jc I fun ar=>Jk<|Jr<|ab (cK .here) I<|Jv I ?_)
   have YU:(bH (r.wp q) o).length=(r.wp q).lv.toNat:=by unfold bH;simp
   rw [YU];generalize r.wp q=R at *;refine JN ba I (fun w1 aG=>wi (r:=R) o ⟨bM aG (by exact Take.there .here) I,bN aG bF I,bL aG cA I,bJ aG df I⟩ (by omega) (by omega)) ?_;intro hv _;dsimp only [id_eq,Zb,Za];refine aY (E:=9) (sz:=1) (v:=hv) (by exact .here) fun va vc e=>?_;subst e;refine Ja I<|Ja I<|Jn<|Je ?_
   with_reducible first|apply aR|apply aS
   case he=>exact gq I I I
   case hR=>
    intro w' aA;exact aD (.slice va R.lv.toNat vc) trivial (by exact .h1 .nil) aA I
  ·clear vZ;rw [if_pos BA];refine Jt<|Jq<|Jr<|Jv I<|JD I<|Jn<|Jd I fun ar=>Jr<|Jv I<|Ja I<|Ja I<|Jn<|Ju ?_;refine aP 9 1 ?_
   with_reducible first|apply aR|apply aS
   case he=>exact gq I I I
   case hR=>
    intro w' aA;exact aD (.z) trivial (by exact .h1 .nil) aA I
 ·rw [if_neg kc];have Sq:l.length<=l.length:=Zz _;have Ss:iB (eD l) f=l.length:=by omega
  refine Ja I<|Jn<|Jq<|Jr<|Jv I<|JA I<|Jn<|Jd I fun ar=>Jg<|Jv I<|JI I<|Ja I<|Jn<|Jq ?_;have vX:ru r (eD l) o f=(iL r ((eD l).take l.length)).2.2/\ub r (eD l) o f=if (iL r ((eD l).take l.length)).2.2≠0 then [] else bH (iL r ((eD l).take l.length)).1 o:=by
   have x1:ru r (eD l) o f=(iL r ((eD l).take l.length)).2.2:=by rw [Ue,Ss]
   refine ⟨x1,?_⟩;unfold ub;rw [x1,Ss]
  have Tc:=hO.take l.length;have re:(eD l).take l.length=eD (l.take l.length):=by unfold eD;rw [ZaH]
  rw [re] at vX Tc;have vZ:=FK BC Tc;have vY:Rd w (Go.sliced a 0 ((l.length:Nat):Int).toNat cp 2) 2 (tB (l.take l.length)):=by
   have:=Bv.sliced (l:=0) (m:=l.length) (Zi _) Sq;rw [ZF];rwa [List.drop_zero,show (tB l).take l.length=tB (l.take l.length) by unfold tB;rw [ZaH]] at this
  have hMn:Ik w (l.take l.length):=fun x hx=>hM x (ZaG hx)
  rw [vX.1,vX.2];have rU:∀ w',aK [] w w'->bb T_ 172 [.agg #[.q r.lv,.q r.ma,s,d,t,p],Go.sliced a 0 ((l.length:Nat):Int).toNat cp 2] w' [] (fun _:Value×Value×Value×Value=>True) (fun x=>.tuple #[RA (iL r (eD (l.take l.length))).1 x.1 x.2.1 x.2.2.1 x.2.2.2,.q (iL r (eD (l.take l.length))).2.1,.q (iL r (eD (l.take l.length))).2.2]) (fun x=>oA (iL r (eD (l.take l.length))).1 x):=fun w' hk=>P3 (h.keeps hk) BC (vY.keeps hk) (hMn.keeps hk) Tc
  generalize iL r (eD (l.take l.length))=R at vZ rU ⊢;obtain ⟨R,at_,e_⟩:=R;dsimp only at vZ rU ⊢
  with_reducible refine pD 10 [7,8] (by kernel_rfl) (Zw.2 ⟨pL I (by kernel_rfl) (by kernel_rfl),Zw.2 ⟨pL I (by kernel_rfl) (by kernel_rfl),fun _ h=>absurd h Zp⟩⟩) ?_
  (refine aq (fun β=>(bV (.of I) bF ak (by rfl))) dj I<|aq (fun β=>(aX (.of I))) dj I<|aq (fun β=>(aX (.of I))) dj I<|aq (fun β=>(gF (.of I) (.of I) (by omega) (by omega))) dj I ?_)
  dsimp only [Nat.zero_add,Nat.reduceAdd]
  with_reducible apply dW (ι:=Value×Value×Value×Value) (Φ:=fun _=>True) (val:=fun x=>.tuple #[.agg #[.q R.lv,.q R.ma,x.1,x.2.1,x.2.2.1,x.2.2.2],.q at_,.q e_]) (own:=fun x=>[J1 R x.1,J2 R x.2.1,J3 R x.2.2.1,J4 R x.2.2.2]) (g:=g4) (B:=[]) (args:=fun _=>[.agg #[.q r.lv,.q r.ma,s,d,t,p],Go.sliced a 0 ((l.length:Nat):Int).toNat cp 2])
  case hg=>exact oV
  case hB=>rfl
  case hr=>exact fun β=>aZ (.of I) (.o I (.o I .nil)) inferInstance I
  case hd=>rfl
  case hc=>exact fun β w' hb=>rU w' hb.mem.keeps
  dsimp only [Nat.reduceAdd]
  with_reducible apply aq
  case hr=>(intro β;exact aX (.of I))
  case hi=>exact fun β β' h=>by simp only [h 4 (by kernel_rfl)]
  case hd=>rfl
  dsimp only [Nat.reduceAdd]
  with_reducible apply aq
  case hr=>(intro β;exact di (.of I) I)
  case hi=>exact fun β β' h=>by simp only [h 4 (by kernel_rfl)]
  case hd=>rfl
  dsimp only [Nat.reduceAdd]
  (refine aq (fun β=>(di (.of I) I)) dj I<|aq (fun β=>(di (.of I) I)) dj I ?_)
  refine jN (fun β=>(rE I)) (fun _ _ _=>rfl) I ?_;refine fo fun β=>?_;dsimp only [eB,Za,Zb,List.append_eq,Nat.reduceAdd];generalize fk (β 9)=QT;generalize g4 (β 4)=y;obtain ⟨s1,d1,t1,p1⟩:=y;clear β;dsimp only;refine cn (r:=R) (s:=s1) (d:=d1) (t:=t1) (p:=p1) (by unfold oA PB;exact .h4 .nil) fun m1 m2 m3 m4=>?_;refine ct (rs:=[10]) (by kernel_rfl) (by simp) (Zw.2 ⟨?_,fun _ h=>absurd h Zp⟩);refine cF I ?_
  (refine an (.of I) (.of I) df I I (gr I I m1 m2 m3 m4) (bG I) ak<|Jn ?_)
  refine ct (rs:=[11]) (by kernel_rfl) (by simp) (Zw.2 ⟨?_,fun _ h=>absurd h Zp⟩);refine cF I ?_;refine Ja I<|Jn ?_;refine ct (rs:=[12]) (by kernel_rfl) (by simp) (Zw.2 ⟨?_,fun _ h=>absurd h Zp⟩);refine cF I ?_;refine Ja I<|Jn ?_
  with_reducible refine cM (by kernel_rfl) ?_
  clear rU;by_cases BA:e_=0
  ·obtain ⟨q,hVq,We⟩:=vZ BA;clear vZ;rw [if_neg (not_not_intro BA)];subst We;subst BA;have Vu:=(rO BC).wp hVq;have wb:=Vu.lim;have CX:=Vu.len
   (refine Jt<|Jq<|Jr<|Jv I<|JD I<|Jn<|Jc I fun ar=>Jk<|Jr<|ab (cK .here) I<|Jv I ?_)
   have YU:(bH (r.wp q) o).length=(r.wp q).lv.toNat:=by unfold bH;simp
   rw [YU];generalize r.wp q=R at *;refine JN ba I (fun w1 aG=>wi (r:=R) o ⟨bM aG (by exact Take.there .here) I,bN aG bF I,bL aG cA I,bJ aG df I⟩ (by omega) (by omega)) ?_;intro hv _;dsimp only [id_eq,Zb,Za];refine aY (E:=9) (sz:=1) (v:=hv) (by exact .here) fun va vc e=>?_;subst e;refine Ja I<|Ja I<|Jn<|Je ?_
   with_reducible first|apply aR|apply aS
   case he=>exact gq I I I
   case hR=>
    intro w' aA;exact aD (.slice va R.lv.toNat vc) trivial (by exact .h1 .nil) aA I
  ·clear vZ;rw [if_pos BA];refine Jt<|Jq<|Jr<|Jv I<|JD I<|Jn<|Jd I fun ar=>Jr<|Jv I<|Ja I<|Ja I<|Jn<|Ju ?_;refine aP 9 1 ?_
   with_reducible first|apply aR|apply aS
   case he=>exact gq I I I
   case hR=>
    intro w' aA;exact aD (.z) trivial (by exact .h1 .nil) aA I
end Go.Proofs.A1
namespace Go.Proofs
open Go.Shelf
def Tryz.tG:Go.Shelf.Ren:=⟨fun | 156=>278 | 165=>326 | 166=>327 | 169=>328 | 240=>357 | 241=>358 | 276=>379 | 277=>380 | n=>n,fun | 31=>32 | 9=>9 | 3=>3 | 4=>4 | 0=>0 | 20=>20 | 72=>397 | 76=>401 | 70=>395 | 37=>351 | 75=>400 | 127=>421 | 164=>437 | 5=>5 | 80=>197 | n=>n,fun | n=>n⟩
theorem Tryz.F3:Go.Proofs.Lays.n156 Tryz.prog Tryz.tG:={
 mixed:=by kernel_rfl
 f156:=Tryz.func278.trans (congrArg some (by kernel_rfl))
 f165:=Tryz.func326.trans (congrArg some (by kernel_rfl))
 f166:=Tryz.func327.trans (congrArg some (by kernel_rfl))
 f169:=Tryz.func328.trans (congrArg some (by kernel_rfl))
 f240:=Tryz.func357.trans (congrArg some (by kernel_rfl))
 f241:=Tryz.func358.trans (congrArg some (by kernel_rfl))
 f276:=Tryz.func379.trans (congrArg some (by kernel_rfl))
 f277:=Tryz.func380.trans (congrArg some (by kernel_rfl))
 t0:=Tryz.underlying0
 a0:=Tryz.isAgg0
 z0:=Tryz.sizeOf0
 v0:=Tryz.zeroValue0
 t3:=Tryz.underlying3
 a3:=Tryz.isAgg3
 z3:=Tryz.sizeOf3
 v3:=Tryz.zeroValue3
 t4:=Tryz.underlying4
 a4:=Tryz.isAgg4
 z4:=Tryz.sizeOf4
 v4:=Tryz.zeroValue4
 t9:=Tryz.underlying9
 a9:=Tryz.isAgg9
 z9:=Tryz.sizeOf9
 v9:=Tryz.zeroValue9
 t20:=Tryz.underlying20
 a20:=Tryz.isAgg20
 z20:=Tryz.sizeOf20
 v20:=Tryz.zeroValue20
 t31:=Tryz.underlying32
 a31:=Tryz.isAgg32
 z31:=Tryz.sizeOf32
 v31:=Tryz.zeroValue32
 t37:=Tryz.underlying351
 a37:=Tryz.isAgg351
 z37:=Tryz.sizeOf351
 v37:=Tryz.zeroValue351
 t70:=Tryz.underlying395
 a70:=Tryz.isAgg395
 z70:=Tryz.sizeOf395
 v70:=Tryz.zeroValue395
 t72:=Tryz.underlying397
 a72:=Tryz.isAgg397
 z72:=Tryz.sizeOf397
 v72:=Tryz.zeroValue397
 t75:=Tryz.underlying400
 a75:=Tryz.isAgg400
 z75:=Tryz.sizeOf400
 v75:=Tryz.zeroValue400
 t76:=Tryz.underlying401
 a76:=Tryz.isAgg401
 z76:=Tryz.sizeOf401
 v76:=Tryz.zeroValue401
 t127:=Tryz.underlying421
 a127:=Tryz.isAgg421
 z127:=Tryz.sizeOf421
 v127:=Tryz.zeroValue421
 t164:=Tryz.underlying437
 a164:=Tryz.isAgg437
 z164:=Tryz.sizeOf437
 v164:=Tryz.zeroValue437 }
theorem Tryz.mj:Builder.Extra Tryz.prog Tryz.tG:={
 sizeBuilder:=by kernel_rfl
 liesBuilder:=by kernel_rfl
 t5:=Tryz.underlying5
 a5:=Tryz.isAgg5
 z5:=Tryz.sizeOf5
 v5:=Tryz.zeroValue5
 infoByte:=by kernel_rfl
 cellsByte:=by kernel_rfl
 sizeByte:=by kernel_rfl
 neB5:=by decide }
open Go.RowKit in
theorem Tryz.strings_Join_none (a:Option Addr) (c:Nat) (sep:ByteArray) (w:World) :
  Calls Tryz.prog 278 #[.slice a 0 c,.string sep] w fun e w'=>e=.returned (.string ⟨#[]⟩)/\w'=w:=Any.strings_Join_none Tryz.F3 Tryz.mj a c sep w
open Go.RowKit in
theorem Tryz.strings_Join (bk o c:Nat) (xs:List ByteArray) (sep:ByteArray) (w:World) (S3:∀ (j:Nat) x,xs[j]? = some x->w.cell? ⟨bk,o+j,none⟩=some (.string x)) (hbk:bk<w.heap.size) (hN:xs.length<=140737488355328) (dp:xs.length<=c) (hlen:(Lib.join (xs.map (·.data.toList)) sep.data.toList).length<=140737488355328) :
  Calls Tryz.prog 278 #[.slice (some ⟨bk,o,none⟩) xs.length c,.string sep] w fun e w'=>e=.returned (.string ⟨(Lib.join (xs.map (·.data.toList)) sep.data.toList).toArray⟩)/\Below w.heap.size w w':=Any.strings_Join Tryz.F3 Tryz.mj bk o c xs sep w S3 hbk hN dp hlen
def Tryz.CK:Go.Shelf.Ren:=⟨fun | 243=>279 | 246=>329 | 283=>359 | 284=>360 | 285=>361 | 286=>362 | 129=>313 | 317=>381 | 318=>382 | 319=>383 | 320=>384 | 337=>393 | 338=>394 | n=>n,fun | 3=>3 | 9=>9 | 2=>2 | 4=>4 | 171=>422 | 0=>0 | 53=>383 | 37=>351 | 5=>5 | 173=>424 | 212=>441 | 51=>381 | 20=>20 | 213=>442 | 46=>318 | 232=>449 | 233=>450 | n=>n,fun | 17=>1 | 18=>3 | 19=>4 | n=>n⟩
theorem Tryz.Oy:Go.Proofs.Lays.n243 Tryz.prog Tryz.CK:={
 mixed:=by kernel_rfl
 f129:=Tryz.func313.trans (congrArg some (by kernel_rfl))
 f243:=Tryz.func279.trans (congrArg some (by kernel_rfl))
 f246:=Tryz.func329.trans (congrArg some (by kernel_rfl))
 f283:=Tryz.func359.trans (congrArg some (by kernel_rfl))
 f284:=Tryz.func360.trans (congrArg some (by kernel_rfl))
 f285:=Tryz.func361.trans (congrArg some (by kernel_rfl))
 f286:=Tryz.func362.trans (congrArg some (by kernel_rfl))
 f317:=Tryz.func381.trans (congrArg some (by kernel_rfl))
 f318:=Tryz.func382.trans (congrArg some (by kernel_rfl))
 f319:=Tryz.func383.trans (congrArg some (by kernel_rfl))
 f320:=Tryz.func384.trans (congrArg some (by kernel_rfl))
 f337:=Tryz.func393.trans (congrArg some (by kernel_rfl))
 f338:=Tryz.func394.trans (congrArg some (by kernel_rfl))
 t0:=Tryz.underlying0
 a0:=Tryz.isAgg0
 z0:=Tryz.sizeOf0
 v0:=Tryz.zeroValue0
 t2:=Tryz.underlying2
 a2:=Tryz.isAgg2
 z2:=Tryz.sizeOf2
 v2:=Tryz.zeroValue2
 t3:=Tryz.underlying3
 a3:=Tryz.isAgg3
 z3:=Tryz.sizeOf3
 v3:=Tryz.zeroValue3
 t4:=Tryz.underlying4
 a4:=Tryz.isAgg4
 z4:=Tryz.sizeOf4
 v4:=Tryz.zeroValue4
 t5:=Tryz.underlying5
 a5:=Tryz.isAgg5
 z5:=Tryz.sizeOf5
 v5:=Tryz.zeroValue5
 t9:=Tryz.underlying9
 a9:=Tryz.isAgg9
 z9:=Tryz.sizeOf9
 v9:=Tryz.zeroValue9
 t20:=Tryz.underlying20
 a20:=Tryz.isAgg20
 z20:=Tryz.sizeOf20
 v20:=Tryz.zeroValue20
 t37:=Tryz.underlying351
 a37:=Tryz.isAgg351
 z37:=Tryz.sizeOf351
 v37:=Tryz.zeroValue351
 t46:=Tryz.underlying318
 a46:=Tryz.isAgg318
 z46:=Tryz.sizeOf318
 v46:=Tryz.zeroValue318
 t51:=Tryz.underlying381
 a51:=Tryz.isAgg381
 z51:=Tryz.sizeOf381
 v51:=Tryz.zeroValue381
 t53:=Tryz.underlying383
 a53:=Tryz.isAgg383
 z53:=Tryz.sizeOf383
 v53:=Tryz.zeroValue383
 t171:=Tryz.underlying422
 a171:=Tryz.isAgg422
 z171:=Tryz.sizeOf422
 v171:=Tryz.zeroValue422
 t173:=Tryz.underlying424
 a173:=Tryz.isAgg424
 z173:=Tryz.sizeOf424
 v173:=Tryz.zeroValue424
 t212:=Tryz.underlying441
 a212:=Tryz.isAgg441
 z212:=Tryz.sizeOf441
 v212:=Tryz.zeroValue441
 t213:=Tryz.underlying442
 a213:=Tryz.isAgg442
 z213:=Tryz.sizeOf442
 t232:=Tryz.underlying449
 a232:=Tryz.isAgg449
 z232:=Tryz.sizeOf449
 v232:=Tryz.zeroValue449
 t233:=Tryz.underlying450
 a233:=Tryz.isAgg450
 z233:=Tryz.sizeOf450
 v233:=Tryz.zeroValue450
 g17:=by kernel_rfl
 g18:=by kernel_rfl
 g19:=by kernel_rfl }
open Go.RowKit Go.Sort Go.Lib in
theorem Tryz.internal_strconv_Itoa_small (i:Nat) (hi:i<100) (w:World) :
  Calls Tryz.prog 279 #[.q i] w fun e w'=>e=.returned (.string ⟨(Lib.decDigits i).toArray⟩)/\w'=w:=Any.internal_strconv_Itoa_small Tryz.Oy i hi w
end Go.Proofs
namespace Go
def Result.up {α:Type} (w:World):Result α->Prop
  | .ok _ w'=>w.drawn<=w'.drawn
  | .halt _ w'=>w.drawn<=w'.drawn
variable {P:Program} {a:Halt} {atomic:Bool} {es:Array Event} {m:Machine} {p:Program} {r:World×List Addr} {v:Value} {var:Addr} {w w':World}
theorem Result.dC {α:Type} (h:w.drawn<=w'.drawn) {r:Result α} (k:r.up w'):r.up w:=by
  cases r <;> exact Nat.le_trans h k
theorem TJ {α:Type} (a:Ask α):∀ w:World,w.drawn<=(w.ask a).2.drawn:=by
  induction a with
  | done a=>intro w;exact Nat.le_refl _
  | ask Um range k ih =>
    intro w;unfold World.ask;dsimp only;split
    · exact ih _ w
    · exact Nat.le_trans (Nat.le_succ _) (ih _ { w with drawn:=w.drawn+1 })
theorem Rl (w:World) (c:Sys):w.drawn<=(w.sys c).2.drawn:=by
  unfold World.sys;have h:=TJ (Kernel.perform c w.os) w;generalize w.ask (Kernel.perform c w.os)=r at h;obtain ⟨⟨x,os⟩,w'⟩:=r;cases x <;> first | exact Nat.le_refl _ | exact h
theorem zr {at_:Addr} {u:TypeId} {k:Addr}
    (h:w.viewStore p at_ u k v atomic=.ok r):r.1.drawn=w.drawn:=by
  unfold World.viewStore at h;simp only [bind,Except.bind,pure,Except.pure,throw,throwThe,MonadExceptOf.throw] at h
  repeat' split at h
  all_goals first | (cases h;rfl) | (injection h with h;rw [<- h]) | nomatch h
theorem Da {a:Addr}
    (h:w.farStore p a v atomic=.ok r):r.1.drawn=w.drawn:=by
  unfold World.farStore at h;split at h
  · split at h
    · next e=>injection h with h;rw [<- h];exact zr e
    · nomatch h
  · nomatch h
theorem HP (w:World) (a:Addr) (n:Nat):(w.freeze a n).drawn=w.drawn:=by
  unfold World.freeze;split <;> rfl
theorem zX {α:Type} (p:Program) (s:Sem α):∀ w:World,(s.run p w).up w:=by
  induction s with
  | pure a=>intro w;exact Nat.le_refl _
  | load m a k ih =>
    intro w;unfold Sem.run;split
    · exact ih _ w
    · split
      · exact ih _ w
      · exact Nat.le_refl _
  | store m a v k ih =>
    intro w
    cases v <;> first
      | exact Nat.le_refl _
      | (simp only [Sem.run]
         split
         · split
           · exact Nat.le_refl _
           · exact ih (w.setCell _ _)
         · split
           · next hf=>exact Result.dC (Nat.le_of_eq (Da hf).symm) (ih _)
           · exact Nat.le_refl _)
  | new o k ih=>intro w;exact ih _ _
  | shape r k ih=>intro w;exact ih _ w
  | freeze a n k ih=>intro w;exact Result.dC (Nat.le_of_eq (HP w a n).symm) (ih (w.freeze a n))
  | frozen a k ih=>intro w;exact ih _ w
  | getObj r k ih =>
    intro w;unfold Sem.run;split
    · exact Nat.le_refl _
    · exact ih _ w
    · exact Nat.le_refl _
  | setObj r o k ih =>
    intro w;unfold Sem.run;split
    · exact Nat.le_refl _
    · exact ih _
    · exact Nat.le_refl _
  | choose q k ih =>
    intro w;unfold Sem.run;split
    · exact ih _ w
    · exact Result.dC (Nat.le_succ w.drawn) (ih _ { w with drawn:=w.drawn+1 })
  | sys c k ih=>intro w;exact Result.dC (Rl w c) (ih _ _)
  | program k ih=>intro w;exact ih _ w
  | mark m k ih=>intro w;exact ih w
  | halt h=>intro w;exact Nat.le_refl _
theorem rz {α:Type} (p:Program) (s:Sem α) (w:World) (es:Array Event):(s.runT p w es).1.up w:=by
  rw [Sem.runT_fst];exact zX p s w
theorem gZ {α:Type} {s:Sem α} {a:α} (h:s.run p w=.ok a w'):w.drawn<=w'.drawn:=by
  have k:=zX p s w;rw [h] at k;exact k
theorem O9 {α:Type} {s:Sem α} (h:s.run p w=.halt a w'):w.drawn<=w'.drawn:=by
  have k:=zX p s w;rw [h] at k;exact k
theorem R8 {α:Type} {s:Sem α} {es Pm:Array Event} {a:α} (h:s.runT p w es=(.ok a w',Pm)):w.drawn<=w'.drawn:=by
  have k:=rz p s w es;rw [h] at k;exact k
theorem Ly {α:Type} {s:Sem α} {es Pm:Array Event} (h:s.runT p w es=(.halt a w',Pm)):w.drawn<=w'.drawn:=by
  have k:=rz p s w es;rw [h] at k;exact k
theorem jD {α:Type} {s:Sem α} {a:α} (h:(s.runT p w es).1=.ok a w'):w.drawn<=w'.drawn:=by
  have k:=rz p s w es;rw [h] at k;exact k
theorem k7 {α:Type} {s:Sem α} (h:(s.runT p w es).1=.halt a w'):w.drawn<=w'.drawn:=by
  have k:=rz p s w es;rw [h] at k;exact k
def GStep.up (w:World):GStep->Prop
  | .go _ w' _=>w.drawn<=w'.drawn
  | .comm _ _ _ _ w' _=>w.drawn<=w'.drawn
  | .spawn _ _ w' _=>w.drawn<=w'.drawn
  | .count _ w' _=>w.drawn<=w'.drawn
  | .timer _ _ w' _=>w.drawn<=w'.drawn
  | .alone _ _ w' _=>w.drawn<=w'.drawn
  | .newcoro _ _ _ w' _=>w.drawn<=w'.drawn
  | .coroswitch _ _ _ w' _=>w.drawn<=w'.drawn
  | .collect _ w' _=>w.drawn<=w'.drawn
  | .watch _ w' _=>w.drawn<=w'.drawn
  | .ended _ _ _=>True
theorem GStep.dC (h:w.drawn<=w'.drawn) {s:GStep} (k:s.up w'):s.up w:=by
  cases s <;> first | trivial | exact Nat.le_trans h k
theorem GStep.zv {c:Prop} [Decidable c] {s t:GStep} (h:s.up w) (k:t.up w):(if c then s else t).up w:=by
  split
  · exact h
  · exact k
theorem GStep.iV (es:Array Event) {s:GStep} (k:s.up w):(s.after es).up w:=by
  cases s <;> exact k
theorem oY (fr:Frame) (m:String) (w:World):(endThrow fr m w).up w:=Nat.le_refl _
theorem E9 (w0 w:World) (fd:Nat) (text:ByteArray) (o:Outcome):(endWith w fd text o).up w0:=by
  unfold endWith;dsimp only;split
  · split <;> trivial
  · trivial
  · trivial
theorem oZ (p:Program) (fr:Frame) (v:Value) (w:World):(endPrinting p fr v w).up w:=by
  unfold endPrinting;dsimp only;split
  · exact oY _ _ _
  · trivial
theorem tS (p:Program) (fr:Frame) (callers:List Frame) (dying:Option Dying) (m:String) (w:World):(endFatal p fr callers dying m w).up w:=by
  unfold endFatal;dsimp only;split
  · next h=>exact gZ h
  · trivial
  · trivial
theorem DS (p:Program) (fr:Frame) (d:Dying) (f:Fatal) (w:World):(writeOn p fr d f w).up w:=by
  unfold writeOn;dsimp only;split
  · trivial
  · split
    · next h=>exact R8 h
    · next h=>exact Ly h
    · trivial
    · trivial
theorem Ts (p:Program) (fr:Frame) (d:Dying) (w:World):(die p fr d w).up w:=by
  unfold die;dsimp only;split
  · exact DS _ _ _ _ _
  · split
    · split
      · exact Nat.le_refl _
      · exact E9 _ _ _ _ _
    · split
      · exact Nat.le_refl _
      · split
        · next h=>exact gZ h
        · trivial
      · apply GStep.iV
        split
        · next h=>exact jD h
        · next h=>exact jD h
        · trivial
        · next h=>exact GStep.dC (k7 h) (oZ _ _ _ _)
        · trivial
      · trivial
theorem km (p:Program) (main:Bool) (fr:Frame) (callers:List Frame) (dying:Option Dying) (v:Value) (w:World) :
    (doReturn p main fr callers dying v w).up w:=by
  unfold doReturn;dsimp only
  repeat' split
  all_goals first | trivial | exact Nat.le_refl _
theorem uq (p:Program) (fr:Frame) (callers:List Frame) (dying:Option Dying) (d:Deferred) (w:World) :
    (callDeferred p fr callers dying d w).up w:=by
  unfold callDeferred;dsimp only;apply GStep.zv
  · trivial
  · apply GStep.iV
    repeat' split
    all_goals first
      | trivial
      | exact jD (by assumption)
      | exact k7 (by assumption)
      | exact GStep.dC (k7 (by assumption)) (tS _ _ _ _ _ _)
      | exact GStep.dC (k7 (by assumption)) (oY _ _ _)
theorem GR (p:Program) (main:Bool) (fr:Frame) (callers:List Frame) (dying:Option Dying) (w:World) :
    (unwind p main fr callers dying w).up w:=by
  unfold unwind;dsimp only;split
  · apply GStep.iV
    split
    · next h=>exact jD h
    · trivial
  · exact uq _ _ _ _ _ _
  · split
    · trivial
    · split
      · trivial
      · split
        · exact Nat.le_refl _
        · split
          · split
            · exact Nat.le_refl _
            · split
              · next h=>exact gZ h
              · trivial
              · trivial
          · split
            · exact oZ _ _ _ _
            · trivial
    · split
      · exact km _ _ _ _ _ _ _
      · apply GStep.iV
        split
        · next h=>exact GStep.dC (jD h) (km _ _ _ _ _ _ _)
        · trivial
        · trivial
theorem LP (p:Program) (fr:Frame) (callers:List Frame) (dying:Option Dying) (g:Nat) (w:World) :
    (early p fr callers dying g w).up w:=by
  unfold early;dsimp only
  repeat' split
  all_goals first
    | trivial
    | exact Nat.le_refl _
    | (next h _=>have k:=gZ h;exact k)
    | (next h _ _=>have k:=gZ h;exact k)
    | (next h=>have k:=gZ h;exact k)
    | (next h _ _ _=>have k:=gZ h;exact k)
    | (next h _ _ _ _=>have k:=gZ h;exact k)
theorem sg (p:Program) (listen:Bool) (fr:Frame) (callers:List Frame) (dying:Option Dying) (s:Sem Next) (w:World) :
    (stepG.apply p listen fr callers dying s w).up w:=by
  unfold stepG.apply;dsimp only;apply GStep.iV;have hr:∃ r:Result Next×Array Event,(if listen=true then s.runT p w #[] else (s.run p w,#[]))=r/\r.1.up w:=by
    refine ⟨_,rfl,?_⟩;split
    · exact rz p s w #[]
    · exact zX p s w
  obtain ⟨r,hr,hu⟩:=hr;rw [hr];generalize r.1=r1 at hu ⊢
  repeat' split
  all_goals first
    | trivial
    | exact Uo hu (by assumption)
    | exact Nf hu (by assumption)
    | exact hu
    | (refine GStep.dC ?_ (oY _ _ _);first | exact hu | exact Uo hu (by assumption) | exact Nf hu (by assumption))
    | (refine GStep.dC ?_ (tS _ _ _ _ _ _);exact hu)
    | (refine GStep.dC ?_ (LP _ _ _ _ _ _);exact hu)
theorem FV (p:Program) (listen:Bool) (fr:Frame) (callers:List Frame) (dying:Option Dying) (w:World) :
    (stepG.oper p listen fr callers dying w).up w:=by
  unfold stepG.oper
  repeat' split
  all_goals first | trivial | exact sg _ _ _ _ _ _ _
theorem Pj (p:Program) (main listen:Bool) (fr:Frame) (callers:List Frame) (dying:Option Dying) (w:World) :
    (stepG.exec p main listen fr callers dying w).up w:=by
  unfold stepG.exec;dsimp only;split
  all_goals first
    | trivial
    | exact Nat.le_refl _
    | (split
       · first | exact Nat.le_refl _ | (apply GStep.zv <;> first | exact Nat.le_refl _ | trivial) | trivial
       · apply GStep.iV
         split
         · next h=>exact GStep.dC (jD h) (km _ _ _ _ _ _ _)
         · trivial)
    | (split <;> first | exact Nat.le_refl _ | trivial)
    | (generalize exitTo _ _ = o; cases o with
       | none =>
         split
         · first | exact Nat.le_refl _ | (apply GStep.zv <;> first | exact Nat.le_refl _ | trivial) | trivial
         · apply GStep.iV
           split
           · next h=>exact GStep.dC (jD h) (km _ _ _ _ _ _ _)
           · trivial
       | some k=>exact Nat.le_refl _)
    | (generalize gotoIn _ _ = o; cases o with
       | none =>
         split
         · first | exact Nat.le_refl _ | (apply GStep.zv <;> first | exact Nat.le_refl _ | trivial) | trivial
         · apply GStep.iV
           split
           · next h=>exact GStep.dC (jD h) (km _ _ _ _ _ _ _)
           · trivial
       | some k=>exact Nat.le_refl _)
    | (apply GStep.iV
       split
       · next h=>first | (have k:=jD h;exact k) | exact GStep.dC (jD h) (sg _ _ _ _ _ _ _)
       · first | trivial | (next h=>have k:=k7 h;exact k)
       done)
    | (apply GStep.iV
       split
       · next h=>(have k:=jD h;exact k)
       · next h=>(have k:=k7 h;exact k)
       · trivial)
    | exact sg _ _ _ _ _ _ _
    | exact FV _ _ _ _ _ _
    | (generalize Extern.next _ = o; cases o with
       | none=>trivial
       | some e=>exact sg _ _ _ _ _ _ _)
    | (split
       · exact Nat.le_refl _
       · split
         · next h=>have k:=gZ h;exact k
         · trivial)
    | (split
       · exact FV _ _ _ _ _ _
       · exact Nat.le_refl _)
    | skip
theorem IQ (p:Program) (main:Bool) (g:Goroutine) (w:World) (listen:Bool):(stepG p main g w listen).up w:=by
  unfold stepG;split;split
  · exact Ts _ _ _ _
  · exact Pj _ _ _ _ _ _ _
  · exact GR _ _ _ _ _ _
def Stepped.up (w:World):Stepped->Prop
  | .next m=>w.drawn<=m.world.drawn
  | .ended _ _=>True
theorem Stepped.dC (h:w.drawn<=w'.drawn) {s:Stepped} (k:s.up w'):s.up w:=by
  cases s <;> first | trivial | exact Nat.le_trans h k
theorem AE (p:Program) (gs:Array Goroutine) (rest:Rest) (w:World):(look p gs rest w).up w:=by
  unfold look;dsimp only;split
  · split
    · trivial
    · split
      · trivial
      · split
        · next h=>have k:=gZ h;exact k
        · trivial
        · trivial
  · trivial
theorem zp {rest:Rest} {cases:Array CommCase} (h:waitingAt rest cases w=some w'):w.drawn<=w'.drawn:=by
  unfold waitingAt at h;split at h
  · split at h
    · injection h with h;rw [<- h];exact Nat.le_refl _
    · nomatch h
  · injection h with h;rw [<- h];exact Nat.le_refl _
theorem wF (p:Program) (rest:Rest) (gs:Array Goroutine) (i:Nat) (g:Goroutine) (cases:Array CommCase) (Dr:Bool)
    (shape:CommShape) (w:World):(communicate p rest gs i g cases Dr shape w).1.up w:=by
  unfold communicate;dsimp only;split
  · trivial
  · split
    · split
      · split
        · next h=>exact zp h
        · trivial
      · exact Nat.le_refl _
    · split
      · trivial
      · next h=>
        have k:=gZ h;split
        · split
          · next h2=>
            have k2:=O9 h2;exact Nat.le_trans k k2
          · trivial
        · exact k
        · exact k
        · split
          · exact k
          · split
            · next h3=>have k3:=gZ h3;exact Nat.le_trans k k3
            · trivial
        · exact k
        · exact k
        · trivial
theorem LQ (w:World) (c:Nat):(drain w c).2.drawn=w.drawn:=by
  unfold drain;split <;> rfl
theorem yC (m:Machine) (k:Nat) (t:Timer) (when period:Nat):(retime m k t when period).2.world.drawn=m.world.drawn:=by
  unfold retime;dsimp only;split
  · exact LQ _ _
  · rfl
theorem CH {f:Nat->Timer->Value×Machine} {n:Nat} (hf:∀ k t,(f k t).2.world.drawn=n) {r:Value×Machine}
    (h:timerOp.named m var f=.ok r):r.2.world.drawn=n:=by
  unfold timerOp.named at h;split at h
  · injection h with h;rw [<- h];exact hf _ _
  · nomatch h
theorem Hl {m m':Machine} (h:timerOp.opened m var=some m'):m'.world.drawn=m.world.drawn:=by
  unfold timerOp.opened at h;split at h
  · split at h
    · injection h with h;rw [<- h]
    · nomatch h
  · injection h with h;rw [<- h]
theorem D9 {op:TimerOp} {r:Value×Machine} (h:timerOp m op=.ok r):r.2.world.drawn=m.world.drawn:=by
  unfold timerOp at h;split at h
  · split at h
    · injection h with h;rw [<- h];rfl
    · split at h
      · split at h
        · nomatch h
        · injection h with h;rw [<- h]
      · nomatch h
  · exact CH (fun k t=>yC m k t 0 t.period) h
  · split at h
    · next ho=>exact (CH (fun k t=>yC _ k t _ _) h).trans (Hl ho)
    · nomatch h
  · injection h with h;rw [<- h];rfl
theorem I1 (p:Program) (m:Machine) (k:Nat):(serve p m k).up m.world:=by
  unfold serve;dsimp only;split
  · trivial
  · exact Nat.le_refl _
  · split
    · trivial
    · exact Nat.le_refl _
def Move.up (w:World):Move->Prop
  | .goroutine m _=>w.drawn<=m.world.drawn
  | .machine s _=>s.up w
theorem wN (p:Program) (m:Machine):(askOn p m).up m.world:=by
  unfold askOn;dsimp only;split
  · trivial
  · next h=>
    have k:=gZ h;split
    · exact Stepped.dC k (I1 _ _ _)
    · split
      · split
        · exact k
        · split
          · exact k
          · split
            · trivial
            · trivial
      · split
        · split
          · trivial
          · next h0=>
            have k0:=gZ h0;split
            · exact Nat.le_trans k k0
            · split
              · trivial
              · next h3=>have k3:=gZ h3;exact Nat.le_trans k (Nat.le_trans k0 k3)
        · split
          · trivial
          · next h2=>
            have k2:=gZ h2;split
            · trivial
            · next h0=>
              have k0:=gZ h0;split
              · exact Nat.le_trans (Nat.le_trans k k2) k0
              · split
                · trivial
                · next h3=>have k3:=gZ h3;exact Nat.le_trans (Nat.le_trans k k2) (Nat.le_trans k0 k3)
          · next h2=>have k2:=gZ h2;exact Nat.le_trans k k2
          · next h2=>
            have k2:=gZ h2;split
            · trivial
            · next h0=>
              have k0:=gZ h0;split
              · exact Nat.le_trans (Nat.le_trans k k2) k0
              · split
                · trivial
                · next h3=>have k3:=gZ h3;exact Nat.le_trans (Nat.le_trans k k2) (Nat.le_trans k0 k3)
theorem Move.dC (h:w.drawn<=w'.drawn) {s:Move} (k:s.up w'):s.up w:=by
  cases s with
  | goroutine m i=>exact Nat.le_trans h k
  | machine s ops=>exact Stepped.dC h k
theorem GJ (p:Program) (m:Machine):(Go.ask p m).up m.world:=by
  unfold Go.ask;split
  · split
    · trivial
    · next h=>
      have k:=gZ h;split
      · next hl=>
        have k2:=AE p m.gs m.rest ‹World›;rw [hl] at k2;exact Move.dC (Nat.le_trans k k2) (wN _ _)
      · exact Stepped.dC k (AE _ _ _ _)
    · next h=>have k:=gZ h;exact Move.dC k (wN _ _)
  · exact wN _ _
theorem On (p:Program) (m:Machine):(move p m).up m.world:=by
  unfold move;split
  · split
    · exact Nat.le_refl _
    · trivial
  · split
    · split
      · exact Nat.le_refl _
      · exact GJ p { m with rest:=_ }
    · exact GJ p m
theorem zY (p:Program) (m:Machine) (i:Nat) (listen:Bool):(Go.runT p m i listen).1.up m.world:=by
  unfold Go.runT;dsimp only;have h:=IQ p (i==0) (m.gs.swapAt! i { (default:Goroutine) with status:=.finished }).1 m.world listen
  generalize stepG p (i==0) (m.gs.swapAt! i { (default:Goroutine) with status:=.finished }).1 m.world listen=s at h ⊢
  cases s with
  | ended o w es=>trivial
  | comm g cases Dr shape w es=>exact Stepped.dC h (wF _ _ _ _ _ _ _ _ _)
  | go g w es=>exact h
  | spawn g child w es=>exact h
  | count g w es =>
    dsimp only;split
    · trivial
    · exact h
  | alone g on w es=>exact h
  | collect g w es=>exact Stepped.dC h (AE _ _ _ _)
  | watch g w es=>exact h
  | newcoro g c d w es=>exact h
  | coroswitch g c exit w es =>
    dsimp only;split
    · exact h
    · exact h
    · trivial
  | timer g op w es =>
    dsimp only;split
    · next ht=>have k:=D9 ht;exact Nat.le_trans h (Nat.le_of_eq k.symm)
    · exact h
    · trivial
    · trivial
theorem Ny (p:Program) (m:Machine):(step p m).up m.world:=by
  unfold step stepT;have h:=On p m;generalize move p m=v at h ⊢;cases v with
  | goroutine m' i=>exact Stepped.dC h (zY p m' i true)
  | machine s ops=>exact h
theorem NO (p:Program) (n:Nat):∀ m:Machine,(runN p n m).up m.world:=by
  induction n with
  | zero=>intro m;exact Nat.le_refl _
  | succ n ih =>
    intro m;have h:=Ny p m;unfold runN;generalize step p m=s at h ⊢;cases s with
    | next m'=>exact Stepped.dC h (ih m')
    | ended o w=>trivial
theorem Steps.up {m m':Machine} (h:Steps P m m'):m.world.drawn<=m'.world.drawn:=by
  obtain ⟨n,hn⟩:=h;have k:=NO P n m;rw [hn] at k;exact k
theorem Calls.up {f:FuncId} {args:Array Value} {R:World->Prop}
    (h:Calls P f args w fun e w'=>e=.returned v/\R w'):Calls P f args w fun e w'=>e=.returned v/\R w'/\w.drawn<=w'.drawn:=by
  intro cs;obtain ⟨e,w',fr,⟨rfl,hR⟩,hc,hf,hl⟩:=h cs;exact ⟨_,w',fr,⟨rfl,hR,Steps.up hc⟩,hc,hf,hl⟩
end Go
