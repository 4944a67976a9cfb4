/- Parts of the proof: MR MS PV MT P6i WH NA NB P6k PF NC PO. -/
import Derived.Test.YteonnodafmegaaaGreatDoorOM15
import Derived.Test.YteonnodafmegaaaGreatDoorOM04
import Derived.Test.YteonnodafmegaaaGreatDoorOM06
import Derived.Test.YteonnodafmegaaaGreatDoorOM12
import Derived.Test.YteonnodafmegaaaGreatDoorOM13
import Derived.Test.YteonnodafmegaaaGreatDoorOM14
import Derived.Test.YteonnodafmegaaaGreatDoorOM10
import Derived.Test.YteonnodafmegaaaGreatDoorOM11
set_option linter.unusedSectionVars false
set_option linter.unusedVariables false
set_option linter.unusedSimpArgs false
namespace Go.Proofs.A1
open Go Go.SL
open Tryz
open Tryz renaming prog->T_
def rV (l:List Tk):Bool:=(l.all fun t=>decide (t.de.size<=40)&&decide (t.so.length<=4)&&uT t.so)&&decide (l.length<=9)
variable {l:List fy} {q:List Po} {r:Ro} {w:World}
set_option maxHeartbeats 1000000 in
theorem AE {kv:Value} (hw:Rd w kv 2 (iD l)) (hM:te w l):aj T_ 44 [kv] w (.bool (rV (bQ l))):=by
 obtain ⟨a,cp,b,o,rfl,dd,bO,ha,hc⟩:=hw;rw [dI] at *;unfold maxLen at bO;have nL:(bQ l).length=l.length:=Zd _;refine ah func44 I I ?_;refine Jr<|Ja I<|Jn<|Jq<|Jr<|Ja I<|Jn<|J0 ?_;refine aV (ι:=Nat) (fun k=>k<=l.length/\∀ j (hj:j<l.length),j<k->(decide (l[j].tk.de.size<=40)&&decide (l[j].tk.so.length<=4)&&uT l[j].tk.so)=true) (fun k=>[(3,.int .i64 (k:Nat)),(0,.slice a l.length cp)]) (fun _=>[]) (fun k=>l.length-k) ?_ ?_
 ·with_reducible apply aI (0:Nat) ⟨Zi _,fun j _ hj=>absurd hj (ZN _)⟩
  case hs1=>exact bS
  case ht=>exact .nil
 rintro k ⟨hk,hf⟩;by_cases aK:k<l.length
 ·have cq:=ha (jM aK);have aC:=(hc k _ (tw l aK)).2;have gN:=Zj aK;have sN:=hM _ gN;have UG:l[k].tk∈bQ l:=ZY gN;have uG:(decide (l[k].tk.de.size<=40)&&decide (l[k].tk.so.length<=4)&&uT l[k].tk.so)=true->∀ j (hj:j<l.length),j<k+1->(decide (l[j].tk.de.size<=40)&&decide (l[j].tk.so.length<=4)&&uT l[j].tk.so)=true:=fun q j hj Mr=>by
   by_cases e:j=k
   ·subst e;exact q
   ·exact hf j hj (by omega)
  generalize l[k]=x at aC sN UG uG;obtain ⟨⟨xd,xs⟩,xv⟩:=x;dsimp only at aC sN UG uG;have hsw:∀ {w'},aJ [] w w'->aj T_ 69 [xv] w' (.bool (uT xs)):=fun hk=>Cu (Rd.keeps sN hk)
  obtain ⟨ax,cx,bx,ox,rfl,Si,Dg,Yf,hcx⟩:=sN;rw [bG] at *;unfold maxLen at Dg;have abR:=fun {w'}=>hsw (w':=w')
  have c0:w.cell? ⟨b,o+k*2,none⟩=some (.string xd):=aC 0 _ I;have c1:w.cell? ⟨b,o+k*2+1,none⟩=some (.slice ax xs.length cx):=aC 1 _ I;generalize Mg:uT xs=sb at *
  (refine Jq<|Jr<|Jv I<|Jv I<|JI I<|JA I<|Jn<|Jd I fun az=>Jk<|Jq<|J0<|Jr<|Jv I<|Jv I<|ab (fT cq az) I<|bJ I I ae<|ab (ag (.of I) (At.base c0 I)) I<|ab (fg (.of I)) I<|JE I<|Jv I<|iQ I I I I<|iQ I I I I<|aF I I inferInstance (fun hg br=>(an (.bF hg I) (.bF hg I) cq (by omega) az aW)) I<|aF I I inferInstance (fun hg br=>(aq (.bF hg I) ae)) I<|aF I I inferInstance (fun hg br=>(ag (.bF hg I) (At.base c1 I))) I<|aF I I inferInstance (fun hg br=>(bZ (.bF hg I))) I<|aF I I inferInstance (fun hg br=>(lV (.bF hg I) (.of I))) I<|ab (bA (.of I) I) I<|Jv I<|iQ I I I I<|iQ I I I I<|aF I I inferInstance (fun hg br=>(an (.bF hg I) (.bF hg I) cq (by omega) az aW)) I<|aF I I inferInstance (fun hg br=>(aq (.bF hg I) ae)) I<|aF I I inferInstance (fun hg br=>(ag (.bF hg I) (At.base c1 I))) I<|ep I I (fun hg=>(a7 (.of I) (.cons (.bF hg I) .nil) inferInstance dZ)) I (fun hg w' aB=>(abR (Mem.keeps aB)))<|aF I I inferInstance (fun hg br=>(dN (.bF hg I))) I<|ab (bA (.of I) I) I<|Jn<|nj I (fun az=>?_) fun az=>?_;refine Jr<|Ja I<|Jn<|Je<|Jm<|Jh<|Jh<|Jm<|Jh<|JT ?_;rotate_left;refine Jw<|Jj<|Jt<|Jg<|Jv I<|JB I (by omega)<|Ja I<|Jn ?_;rotate_right)
  ·have e:rV (bQ l)=false:=by
    unfold rV;rw [List.all_eq_false.2 ⟨_,UG,?_⟩]
    ·rfl
    ·dsimp only;rw [Mg];rcases az with (q | q) | q
     ·rw [decide_eq_false (show ¬ xd.size<=40 by omega)];simp
     ·rw [decide_eq_false (show ¬ xs.length<=4 by omega)];simp
     ·rw [q];simp
   rw [e]
  ·have e:(decide (xd.size<=40)&&decide (xs.length<=4)&&sb)=true:=by
    rw [decide_eq_true (show xd.size<=40 by have:=az.1.1;omega),decide_eq_true (show xs.length<=4 by have:=az.1.2;omega),az.2];rfl
   with_reducible apply aH (k+1) ⟨ZX aK,uG e⟩ (show l.length-(k+1)<l.length-k by omega)
   case hs1=>exact bS
   case ht=>exact .nil
 ·obtain rfl:k=l.length:=by omega
  have e:((bQ l).all fun t=>decide (t.de.size<=40)&&decide (t.so.length<=4)&&uT t.so)=true:=Z4.2 fun x hx=>by
   unfold bQ at hx;obtain ⟨y,hy,rfl⟩:=Zx.1 hx;obtain ⟨j,hj,rfl⟩:=Zw hy;exact hf j hj hj
  have e2:rV (bQ l)=decide ((l.length:Int)<=9):=by
   unfold rV;rw [e,nL,Zao];exact decide_eq_decide.2 (by omega)
  rw [e2];refine Jq<|Jr<|Jv I<|Jv I<|JI I<|JA I<|Jn<|Jc I fun az=>Jp<|Jl<|Jo<|Jt<|Jr<|Jv I<|JI I<|JF I<|Ja I<|Jn<|Je<|JT ?_
  rfl
theorem nC {r' q:Ro} {s d t p s' d' t' p':Value} {e bad:Int} (h:RR w r' s d t p) (hf:jv r') (h':RR w q s' d' t' p') (e1:e=bad) (e2:bad≠0->r'=Ro.nil) (e3:bad=0->r'=q):aj T_ 52 [RA r' s d t p,.q e,.q bad,RA q s' d' t' p'] w (.bool true):=by
 obtain ⟨h1,h2,h3,h4⟩:=h.one;have h5:=Rd.one h'.sr;have h6:=Rd.one h'.de;have h7:=Rd.one h'.ti;have h8:=Rd.one h'.po;subst e1;unfold RA;refine ah func52 I I ?_
 (refine Jr<|Jy I I fun _ _=>Jy I I fun _ _=>Ja I<|Jn<|Jq<|Jr<|Jv I<|JD I<|Jn<|gm I (fun az=>?_) fun az=>?_;refine Jr<|Jv I<|Jv I<|ab (lC (.of I) (.of I) I) I<|Jv I<|JK I I<|ab (cm (.there .here)) I<|JK I I ?_;rotate_left;refine Jk<|Jq ?_;rotate_right)
 ·have er:=e2 az;subst er;refine JN bM I (fun w1 aT=>Av (h.keeps aT.keeps) hf) ?_;rintro ⟨s1,d1,t1,p1⟩ _;dsimp only;unfold RA;refine iC (r:=Ro.nil) (s:=s1) (d:=d1) (t:=t1) (p:=p1) (bo _ _) fun k1 k2 k3 k4=>?_
  (refine JK I I<|ab (aU .nil ak) I<|JK I I ?_)
  with_reducible apply ai
  case hr=>exact bb
  case hd=>rfl
  case hc=>
   intro w1 aT;have hR1:RR w1 Ro.nil s1 d1 t1 p1:=⟨cG aT (by exact .here) I,cI aT (by exact Take.there .here) I,cF aT bL I,ct aT cX I⟩;have hR2:RR w1 Ro.nil (.z) (.z) (.z) (.z):=⟨Rd.nil _ 2,Rd.nil _ 3,Rd.nil _ 3,Rd.nil _ 3⟩;have:=FF hR1 hR2;rwa [decide_eq_true I] at this
  (refine ab (fV (.of I) (.of I) (.of I) I) I<|Ja I<|Jn<|Ju<|JT ?_)
  rfl
 ·have e0:e=0:=Zp.1 az;have er:=e3 e0;subst er;subst e0;clear az e2 e3
  with_reducible refine dE 9 (by kernel_rfl) ?_
  refine au (fun β=>(aP (.of I))) bh I ?_;refine au (fun β=>(lC (.of I) (.of I) I)) bh I ?_;refine au (fun β=>(aP (.of I))) bh I ?_;refine df I (fun _=>rfl) ?_;refine au (fun β=>(bK (.of I) (.there .here) ak (by rfl))) bh I ?_;refine df I (fun _=>rfl) ?_;dsimp only [Nat.zero_add,Nat.reduceAdd]
  with_reducible apply eB (ι:=Value×Value×Value×Value) (Φ:=fun _=>True) (val:=fun x=>.agg #[.q r'.lv,.q r'.ma,x.1,x.2.1,x.2.2.1,x.2.2.2]) (own:=fun x=>nQ r' x) (g:=g4) (B:=[]) (args:=fun _=>[.agg #[.q r'.lv,.q r'.ma,s,d,t,p]])
  case hg=>exact pJ
  case hB=>rfl
  case hr=>exact fun β=>a7 (.of I) (.o I .nil) inferInstance I
  case hd=>rfl
  case hc=>exact fun β w' hb=>Av (h.keeps hb.mem.keeps) hf
  dsimp only [Nat.reduceAdd];refine df I (fun _=>rfl) ?_;refine au (fun β=>(bK (.of I) .here ak (by rfl))) bh I ?_;refine df I (fun _=>rfl) ?_;dsimp only [Nat.reduceAdd]
  with_reducible apply dq (B:=[4]) (F:=fun _=>.bool true) (args:=fun β=>[.agg #[.q r'.lv,.q r'.ma,(g4 (β 4)).1,(g4 (β 4)).2.1,(g4 (β 4)).2.2.1,(g4 (β 4)).2.2.2],.agg #[.q r'.lv,.q r'.ma,s',d',t',p']])
  case hB=>kernel_rfl
  case hr=>exact fun β=>a7 (.of I) (.o I (.o I .nil)) inferInstance I
  case hi=>exact bh
  case hd=>rfl
  case hc=>
   intro β w' hb;have m1:=hb.at 4 Zu (s:=⟨fun β=>.agg #[.q r'.lv,.q r'.ma,(g4 (β 4)).1,(g4 (β 4)).2.1,(g4 (β 4)).2.2.1,(g4 (β 4)).2.2.2],fun β=>nQ r' (g4 (β 4))⟩) I
   dsimp only at m1;have:=FF (RN m1 (bo _ _)) (h'.keeps hb.mem.keeps);rwa [decide_eq_true I] at this
  dsimp only [Nat.reduceAdd]
  with_reducible apply au (F:=fun _=>.bool true)
  case hr=>
   intro β
   with_reducible apply fV
   case hx=>exact Is.of I
   case hy=>exact Is.of I
   case hz=>exact Is.of I
   case e=>rfl
  case hi=>exact bh
  case hd=>rfl
  refine au (fun β=>(cM (.of I))) bh I ?_;refine eS fun β=>?_;unfold nQ;dsimp only [dY,Za,Zb,List.append_eq,Nat.reduceAdd];generalize g4 (β 4)=ya;clear β
  with_reducible refine cu (by kernel_rfl) ?_
  refine Jt<|Je<|JT ?_
  rfl

theorem O5 (h:rV (bQ l)=true):l.length<=9/\∀ x∈l,x.tk.so.length<=4:=by
 unfold rV at h;rw [Zm,decide_eq_true_iff,Z4] at h;refine ⟨by have:=h.2;unfold bQ at this;rwa [Zd] at this,fun x hx=>?_⟩;have:=h.1 x.tk (ZY hx);simp only [Zm,decide_eq_true_eq] at this;exact this.1.2
theorem Pd {r q:Ro} {i e_:Int} {s d t p kv:Value} {k:List Tk} (hk:bQ l=k) (e:gI r k=(q,i,e_)) (h:RR w r s d t p) (gr:gy r=0) (hw:Rd w kv 2 (iD l)) (hM:te w l) (hT:IB r k) :
  a8 T_ 50 [.agg #[.q r.lv,.q r.ma,s,d,t,p],kv] w [] (fun _:Value×Value×Value×Value=>True) (fun x=>.tuple #[.agg #[.q q.lv,.q q.ma,x.1,x.2.1,x.2.2.1,x.2.2.2],.q i,.q e_]) (fun x=>nQ q x):=by
 subst hk;have:=Pc h gr hw hM hT;rw [e] at this;exact this


theorem Wq :(r.wp q).lv=r.lv:=rfl
theorem Wp :(r.wp q).ma=r.ma:=rfl
theorem Wm :(r.wp q).sr=r.sr:=rfl
theorem Wr :(r.wp q).de=r.de:=rfl
theorem Wl :(r.wp q).ti=r.ti:=rfl
theorem Wo :(r.wp q).po=q:=rfl
theorem WM {s d t p:Value} (h1:Rd w s 2 (vk r.sr)) (h2:Rd w d 3 (u0 r.de)) (h3:Rd w t 3 (uS r.ti)) (h4:Rd w p 3 (tG q)):RR w (r.wp q) s d t p:=⟨h1,h2,h3,h4⟩
theorem QT (gr:gy r=0) (h:jv r) {q:List Po} (hq:jh r q):jv (r.wp q):=⟨h.1,h.2.1,h.2.2.1,by
 have:=lx (A2 gr) hq;show q.length<=1000000;omega⟩
end Go.Proofs.A1
namespace Go.Proofs.A1
open Go Go.SL
open Tryz
open Tryz renaming prog->T_
def odA (x:gW):bd:=Gb [row 78 2 x.v x.tk.length (iD x.tk).flatten,DY x.tk]
def PI (l:List gW):bd:=Gb (l.map odA).reverse
variable {A:bd} {As:List bd} {D:List Nat} {W:List gW} {X:Act->World->Prop} {c:Cx} {hs hs':List bd} {kv:Value} {l:List gW} {sl:aL} {w:World}
theorem Kq (k:Tr c D sl (PI []::hs) X):Tr c D sl hs X:=qb (As:=[]) .nil k
theorem Cn (h:bB hs As hs'):bB (A::hs) As (A::hs'):=by
 induction h with
 | nil=>exact .nil
 | cons h _ ih=>exact .cons (.there h) ih
theorem LC (W:List gW) (x:gW):PI (W++[x])=Gb (odA x::(W.map odA).reverse):=by
 unfold PI;rw [Zv,List.reverse_append];rfl
theorem Kr {hs h1 h2:List bd} {x:gW} (ht:Take hs (PI W) h1) (ht2:bB h1 [row 78 2 x.v x.tk.length (iD x.tk).flatten,DY x.tk] h2) (k:Tr c D sl (PI (W++[x])::h2) X):Tr c D sl hs X:=fun a w ba=>by
 rw [LC] at k;have hm:=(ba.mem.take (ht.append _)).jj (Cn (ht2.append _));obtain ⟨kk,fp,hn,hs',hb⟩:=hm;obtain ⟨f1,f2,rfl,s1,s2⟩:=cr.append_iff.1 hs';obtain ⟨g1,g2,rfl,t1,t2⟩:=s2;exact k a w (ba.heap ⟨kk,(f1++g1)++g2,by rw [Zh];exact hn,⟨f1++g1,g2,I,⟨f1,g1,I,s1,t1⟩,t2⟩,by rw [Zh];exact hb⟩)
theorem KB {L:List bd} (h:A∈L) (m:List bd):∃ r,Take (L++m) A r:=by
 obtain ⟨s,t,rfl⟩:=List.append_of_mem h;rw [Zh,Zb];exact ⟨_,tx s A (t++m)⟩
theorem Mem.KF (hm:Mem c hs w) (ht:Take hs (Gb As) hs'):Mem c (As++hs') w:=by
 obtain ⟨k,fp,hn,⟨f1,f2,rfl,h1,h2⟩,hb⟩:=hm.take ht;exact ⟨k,f1++f2,hn,cr.append_iff.2 ⟨f1,f2,I,h1,h2⟩,hb⟩
theorem W9 (hm:Mem c hs w) (ht:Take hs (PI W) hs'):uQ w W:=fun x hx=>by
 have h1:=Mem.KF hm ht;obtain ⟨r,hr⟩:=KB (List.mem_reverse.2 (ZY (f:=odA) hx)) hs';have h2:=Mem.KF h1 hr;exact ⟨mE h2 .here I,twM h2 (.there .here)⟩
theorem a8.slT {P:Program} {f:FuncId} {args:List Value} {md:List Nat} {Φ:List fy->Prop} {E:TypeId} (h:a8 P f args w md (fun x:Value×List fy=>Φ x.2) (fun x=>x.1) (fun x=>[row E 2 x.1 x.2.length (iD x.2).flatten,DY x.2])) :
  a8 P f args w md (fun _:{x:(Option Addr×Nat)×List fy // Φ x.2}=>True) (fun x=>.slice x.1.1.1 x.1.2.length x.1.1.2) (fun x=>[row E 2 (.slice x.1.1.1 x.1.2.length x.1.1.2) x.1.2.length (iD x.1.2).flatten,DY x.1.2]):=
 Calls.mono h fun e w' ⟨⟨v,W⟩,he,hx,hk,fp,hn,hs,hf⟩=>by
  dsimp only at he hx hs;have hv:∃ y:Option Addr×Nat,v=.slice y.1 W.length y.2:=by
   obtain ⟨f1,f2,_,⟨_,_,⟨e1,e2⟩ | ⟨g,cap,cur,e1,_⟩⟩,_⟩:=hs
   ·exact ⟨(none,0),by rw [e1,e2]⟩
   ·exact ⟨(_,cap),e1⟩
  obtain ⟨y,rfl⟩:=hv;exact ⟨⟨(y,W),hx⟩,he,trivial,hk,fp,hn,hs,hf⟩
def Im (y:fy):Value:=.agg #[.string y.tk.de,.agg (aR y.tk.so).toArray,y.v]
theorem Cp:∀ {a b:List ByteArray},aR a=aR b->a=b
 | [],[],_=>rfl
 | x :: a, y :: b, h => by
  injection h with h1 h2
  injection h1 with h1
  rw [h1,Cp h2]
theorem M3 {x y:fy} (h:Im x=Im y):x=y:=by
 obtain ⟨⟨a,b⟩,c⟩:=x;obtain ⟨⟨a',b'⟩,c'⟩:=y;injection h with h
 have h:=congrArg Array.toList h;simp only [List.cons.injEq,and_true] at h;obtain ⟨h1,h2,h3⟩:=h;injection h1 with h1
 injection h2 with h2
 have h2:=Cp (congrArg Array.toList h2)
 try dsimp only at h1 h2 h3
 rw [h1,h2,h3]
theorem xx:∀ {a b:List fy},a.map Im=b.map Im->a=b
 | [],[],_=>rfl
 | x :: a, y :: b, h => by
  rw [Z3,Z3] at h;injection h with h1 h2
  rw [M3 h1,xx h2]
def Vk (x:(Option Addr×Nat)×List fy):Value:=.agg #[.slice x.1.1 0 x.1.2,.agg (x.2.map Im).toArray]
theorem M1 {x y:(Option Addr×Nat)×List fy} (h:Vk x=Vk y):x=y:=by
 obtain ⟨⟨a,n⟩,b⟩:=x;obtain ⟨⟨a',n'⟩,b'⟩:=y;injection h with h
 have h:=congrArg Array.toList h;simp only [List.cons.injEq,and_true] at h;obtain ⟨h1,h2⟩:=h;injection h2 with h2
 injection h1 with h1 _ h3
 rw [xx (congrArg Array.toList h2),h1,h3]
noncomputable def Va (tk:List fy):Value->{x:(Option Addr×Nat)×List fy // bQ x.2=bQ tk}:=YA (fun x=>Vk x.1) ⟨((none,0),tk),I⟩
theorem QN (tk:List fy) (x:{x:(Option Addr×Nat)×List fy // bQ x.2=bQ tk}):∃ v,Va tk v=x:=Fg (fun _ _ h=>Subtype.ext (M1 h)) _ x
theorem EP (l:List gW):∀ r∈kQ l,r.length=2:=fun r hr=>by obtain ⟨x,_,rfl⟩:=Zx.1 hr;rfl
theorem CX (W:List gW) (y:gW):(kQ (W++[y])).flatten=(kQ W).flatten++[.q y.fr,y.v]:=by
 unfold kQ;simp [gW.cells]
theorem PJ (a b:List gW):cC (a++b)=cC a++cC b:=Zv
theorem wH (l:List gW) {i:Nat} (h:i<l.length):(kQ l)[i]? = some [.q l[i].fr,l[i].v]:=su h
theorem CW (h:Rd w kv 2 (kQ l)) (hM:uQ w l) (hn:l.length<=1000) (hs:∀ x∈l,x.tk.length<=1000/\∀ y∈x.tk,y.tk.so.length<=1000) :
  a8 T_ 63 [kv] w [] (fun x:Value×List gW=>cC x.2=cC l) (fun x=>x.1) (fun x=>[row 182 2 x.1 x.2.length (kQ x.2).flatten,PI x.2]):=by
 obtain ⟨a,cp,b,o,rfl,dd,bO,ha,hc⟩:=h;rw [eH] at *;unfold maxLen at bO;refine aS func63 I I ?_;refine Jr<|Ja I<|Ji<|Ja I<|Jn<|Jq<|Jr<|Jv I<|JI I<|Jv I<|Jn<|J0 ?_;refine aN 182 2 ?_;refine Kq ?_
 refine aV (ι:=Nat×Value×List gW) (fun x=>x.1<=l.length/\cC x.2.2=cC (l.take x.1)) (fun x=>[(8,.q (x.1:Nat)),(7,.q (l.length:Nat)),(6,.slice a l.length cp),(3,x.2.1)])
  (fun x=>[row 182 2 x.2.1 x.2.2.length (kQ x.2.2).flatten,PI x.2.2]) (fun x=>l.length-x.1) ?_ ?_
 ·apply aI (0,.z,[]) ⟨Zi _,I⟩
  case hs1=>exact bS
  case ht=>
   exact .cons (.there .here) (.h1 .nil)
 rintro ⟨k,v,W⟩ ⟨hk,hW⟩;dsimp only at hk hW ⊢;have Og:W.length=k:=by
  have:=congrArg List.length hW;unfold cC at this;rw [Zd,Zd,Zs] at this;omega
 by_cases aK:k<l.length
 ·have cq:=ha (pn aK);have aC:=(hc k _ (su aK)).2;obtain ⟨hx,hxm⟩:=hM _ (Zj aK);obtain ⟨Qg,hys⟩:=hs _ (Zj aK);have htk:cC (l.take (k+1))=cC (l.take k)++[⟨l[k].fr,bQ l[k].tk⟩]:=by
   unfold cC;rw [Zl aK,Zv];rfl
  have sK:(kQ W).flatten.length=W.length*2:=by rw [fv (EP W),eH]
  have fo:=Rd.one hx;unfold gW.cells at aC;generalize l[k]=x at aC hx hxm Qg hys htk fo;obtain ⟨xf,xt,xv⟩:=x;dsimp only at aC hx hxm Qg hys htk fo;have Xk:∀ w',aJ [] w w'->a8 T_ 46 [xv] w' [] (fun _:{x:(Option Addr×Nat)×List fy // bQ x.2=bQ xt}=>True) (fun z=>.slice z.1.1.1 z.1.2.length z.1.1.2) (fun z=>[row 78 2 (.slice z.1.1.1 z.1.2.length z.1.1.2) z.1.2.length (iD z.1.2).flatten,DY z.1.2]):=fun w' hk=>a8.slT (Φ:=fun W=>bQ W=bQ xt) (QL (hx.keeps hk) (hxm.keeps hk) Qg hys)
  refine aM (E:=182) (sz:=2) (v:=v) (by exact .here) fun va vc e=>?_;subst e
  (refine Jr<|JA I<|Jn<|Jq<|Jd I fun az=>Jk<|Jq<|J0<|Jr<|ab (fT cq az) I<|ab (iO (eZ.base aC I)) I<|Jz I I fun _ _=>ao (.of I) (.of I) .here I I (gO I fo) (bz I) ak<|Jn ?_)
  with_reducible refine dE 8 (by kernel_rfl) ?_
  (refine au (fun β=>(aP (.of I))) bh I<|au (fun β=>(aq (.of I) ae)) bh I<|au (fun β=>(ag (.of I) (At.lit .here I))) bh I<|au (fun β=>(aq (.of I) ae)) bh I<|au (fun β=>(ag (.of I) (At.lit .here I))) bh I ?_)
  dsimp only [Nat.zero_add,Nat.reduceAdd]
  with_reducible apply eB (ι:={x:(Option Addr×Nat)×List fy // bQ x.2=bQ xt}) (Φ:=fun _=>True) (val:=fun z=>.slice z.1.1.1 z.1.2.length z.1.1.2) (own:=fun z=>[row 78 2 (.slice z.1.1.1 z.1.2.length z.1.1.2) z.1.2.length (iD z.1.2).flatten,DY z.1.2]) (g:=Va xt) (B:=[]) (args:=fun _=>[xv])
  case hg=>exact QN xt
  case hB=>rfl
  case hr=>exact fun β=>a7 (.of I) (.o I .nil) inferInstance I
  case hd=>rfl
  case hc=>exact fun β w' hb=>Xk w' hb.mem.keeps
  dsimp only [Nat.reduceAdd]
  with_reducible apply au
  case hr=>(intro β;exact aU (.o I (.o I .nil)) ak)
  case hi=>exact fun β β' h=>by simp only [h 5 (by kernel_rfl)]
  case hd=>rfl
  dsimp only [Nat.reduceAdd]
  with_reducible apply kE
  case hr=>(intro β;exact bn (.o I .nil) I I bH bH ak)
  case hi=>exact fun β β' h=>by simp only [h 5 (by decide) (by kernel_rfl)]
  case hd=>rfl
  dsimp only [Nat.reduceAdd];refine eS fun β=>?_;dsimp only [dY,Za,Zb,List.append_eq,Nat.reduceAdd];generalize fu (β 7)=b7;generalize Va xt (β 5)=y;obtain ⟨⟨⟨ya,yc⟩,Y⟩,hY⟩:=y;clear β;dsimp only at hY ⊢;refine bI (rs:=[8]) (by kernel_rfl) (by simp) (Zq.2 ⟨?_,fun _ h=>absurd h Zo⟩);refine bP I ?_;refine bu (.of I) (.of I) dD bL ak (by rfl) (gO I I) (by rfl) (by rfl) (by rfl) ed (by rfl) ?_;intro v';refine Jn ?_;refine bI (rs:=[9]) (by kernel_rfl) (by simp) (Zq.2 ⟨?_,fun _ h=>absurd h Zo⟩);refine bP I ?_;refine Ja I<|Jn ?_
  with_reducible refine cu (by kernel_rfl) ?_
  refine Jj<|Jt<|Jg<|JB I (by omega)<|Jv I<|Jn ?_;refine Kr (W:=W) (x:=⟨xf,Y,.slice ya Y.length yc⟩) eu (by exact .cons (.there .here) (.cons (.there .here) .nil)) ?_;apply aH (k+1,v',W++[⟨xf,Y,.slice ya Y.length yc⟩]) ⟨by show k+1<=_;omega,by
   show cC (W++[_])=_;rw [PJ,hW,htk,<- hY];rfl⟩ (by show l.length-(k+1)<l.length-k;omega)
  case hs1=>exact bS
  case ht=>
   dsimp only;rw [CX,Zg];simp only [ZA,Zaa,ZD];exact .cons (.there .here) (.h1 .nil)
 ·have e:k=l.length:=by omega
  rw [e,ZK] at hW;refine aM (E:=182) (sz:=2) (v:=v) (by exact .here) fun va vc e=>?_;subst e;refine Jr<|JA I<|Jn<|Jq<|Jc I fun az=>Jp<|Jl<|Jo<|Jt<|Jr<|Jv I<|Ja I<|Jn<|Je ?_
  with_reducible first|apply aO|apply aQ
  case he=>exact dB I I
  case hR=>
   intro w' aB;exact aD (.slice va W.length vc,W) hW (by exact .h2 .nil) aB I
def Cv (l:List Od):Bool:=(l.all fun x=>rV x.tk)&&(decide ((l.length:Int)<=5)||decide ((l.length:Int)=17))
theorem yl (hw:Rd w kv 2 (kQ l)) (hM:uQ w l):aj T_ 61 [kv] w (.bool (Cv (cC l))):=by
 obtain ⟨a,cp,b,o,rfl,dd,bO,ha,hc⟩:=hw;rw [eH] at *;unfold maxLen at bO;have nL:(cC l).length=l.length:=Zd _;refine ah func61 I I ?_;refine Jr<|Ja I<|Jn<|Jq<|Jr<|Ja I<|Jn<|J0 ?_;refine aV (ι:=Nat) (fun k=>k<=l.length/\∀ j (hj:j<l.length),j<k->rV (bQ l[j].tk)=true) (fun k=>[(3,.int .i64 (k:Nat)),(0,.slice a l.length cp)]) (fun _=>[]) (fun k=>l.length-k) ?_ ?_
 ·with_reducible apply aI (0:Nat) ⟨Zi _,fun j _ hj=>absurd hj (ZN _)⟩
  case hs1=>exact bS
  case ht=>exact .nil
 rintro k ⟨hk,hf⟩;by_cases aK:k<l.length
 ·have cq:=ha (pn aK);have aC:=(hc k _ (wH l aK)).2;have gN:=Zj aK;obtain ⟨sN,Sq⟩:=hM _ gN;have UG:(⟨l[k].fr,bQ l[k].tk⟩:Od)∈cC l:=ZY (f:=fun x:gW=>(⟨x.fr,bQ x.tk⟩:Od)) gN
  have uG:rV (bQ l[k].tk)=true->∀ j (hj:j<l.length),j<k+1->rV (bQ l[j].tk)=true:=fun q j hj Mr=>by
   by_cases e:j=k
   ·subst e;exact q
   ·exact hf j hj (by omega)
  generalize l[k]=x at aC sN Sq UG uG;obtain ⟨xf,xt,xv⟩:=x;dsimp only at aC sN Sq UG uG;have abS:∀ {w'},aJ [] w w'->aj T_ 44 [xv] w' (.bool (rV (bQ xt))):=fun hk=>AE (Rd.keeps sN hk) (Sq.keeps hk)
  have fo:=Rd.one sN;have c0:w.cell? ⟨b,o+k*2,none⟩=some (.q xf):=aC 0 _ I;have c1:w.cell? ⟨b,o+k*2+1,none⟩=some xv:=aC 1 _ I;generalize Mg:rV (bQ xt)=sb at *
  (refine Jq<|Jr<|Jv I<|Jv I<|JI I<|JA I<|Jn<|Jd I fun az=>Jk<|Jq<|J0<|Jr<|Jv I<|Jv I<|ab (fT cq az) I<|bJ I I ae<|ab (ag (.of I) (At.base c1 I)) I<|ai bM I (fun w' aB=>(abS (Mem.keeps aB)))<|JH I<|Jn<|nj I (fun az=>?_) fun az=>?_;refine Jr<|Ja I<|Jn<|Je<|Jm<|Jh<|Jh<|Jm<|Jh<|JT ?_;rotate_left;refine Jw<|Jj<|Jt<|Jg<|Jv I<|JB I (by omega)<|Ja I<|Jn ?_;rotate_right)
  ·have e:Cv (cC l)=false:=by
    unfold Cv;rw [List.all_eq_false.2 ⟨_,UG,?_⟩]
    ·rfl
    ·dsimp only;rw [Mg];simpa using az
   rw [e]
  ·with_reducible apply aH (k+1) ⟨ZX aK,uG (by simpa using az)⟩ (show l.length-(k+1)<l.length-k by omega)
   case hs1=>exact bS
   case ht=>exact .nil
 ·obtain rfl:k=l.length:=by omega
  have e:((cC l).all fun x=>rV x.tk)=true:=Z4.2 fun x hx=>by
   unfold cC at hx;obtain ⟨y,hy,rfl⟩:=Zx.1 hx;obtain ⟨j,hj,rfl⟩:=Zw hy;exact hf j hj hj
  have e2:Cv (cC l)=(decide ((l.length:Int)<=5)||decide ((l.length:Int)=17)):=by
   unfold Cv;rw [e,nL,Zao]
  rw [e2]
  (refine Jq<|Jr<|Jv I<|Jv I<|JI I<|JA I<|Jn<|Jc I fun az=>Jp<|Jl<|Jo<|Jt<|Jr<|Jv I<|JI I<|JF I<|Jv I<|iQ I I I I<|aF I I inferInstance (fun hg br=>(bZ (.bF hg I))) I<|aF I I inferInstance (fun hg br=>(lk (.bF hg I) (.of I))) I<|ab (bA (.of I) I) I<|Ja I<|Jn<|Je<|JT ?_)
  rfl
def rR (l:List gW) (f:Int):List gW:=l.filter fun x=>decide (x.fr<=f)
theorem Tf (l:List gW) (f:Int):cC (rR l f)=(cC l).filter fun x=>decide (x.fr<=f):=by
 unfold rR cC;rw [List.filter_map];rfl
theorem Tg (h:uQ w l) (f:Int):uQ w (rR l f):=fun x hx=>h x (Zr.1 hx).1
theorem OD (f:Int) {w:World} (hw:Rd w kv 2 (kQ l)) (hM:uQ w l) (hn:l.length<=1000):a8 T_ 68 [kv,.q f] w [] (fun _:Value=>True) id (fun x=>[row 105 2 x (rR l f).length (kQ (rR l f)).flatten]):=by
 obtain ⟨a,cp,b,o,rfl,dd,bO,ha,hc⟩:=hw;rw [eH] at *;unfold maxLen at bO;refine aS func68 I I ?_;refine Jr<|Ja I<|Ji<|Ja I<|Jn<|Jq<|Jr<|Ja I<|Jn<|J0 ?_;refine aN 105 2 ?_;refine aV (ι:=Nat×Value×List gW) (fun y=>y.1<=l.length/\y.2.2=rR (l.take y.1) f) (fun y=>[(6,.int .i64 (y.1:Nat)),(5,y.2.1),(0,.slice a l.length cp),(1,.int .i64 f)]) (fun y=>[row 105 2 y.2.1 y.2.2.length (kQ y.2.2).flatten]) (fun y=>l.length-y.1) ?_ ?_
 ·apply aI (0,.z,[]) ⟨Zi _,I⟩
  case hs1=>exact bS
  case ht=>
   exact .h1 .nil
 rintro ⟨k,v,W⟩ ⟨hk,hW⟩;dsimp only at hk hW ⊢;have hWk:W.length<=k:=by
  rw [hW];exact ZQ (ZV _ _) (by rw [Zs];omega)
 have sK:(kQ W).flatten.length=W.length*2:=by rw [fv (EP W),eH]
 refine aM (E:=105) (sz:=2) (v:=v) (by exact .here) fun va vc e=>?_;subst e;by_cases aK:k<l.length
 ·have cq:=ha (pn aK);have aC:=(hc k _ (wH l aK)).2;have fo:=Rd.one (hM _ (Zj aK)).1;have GM:rR (l.take (k+1)) f=rR (l.take k) f++if l[k].fr<=f then [l[k]] else []:=by
   unfold rR;rw [Zl aK,Zay,ZbA];by_cases q:l[k].fr<=f
   ·rw [if_pos (decide_eq_true q),if_pos q];rfl
   ·rw [if_neg (by simpa using q),if_neg q];rfl
  rw [<- hW] at GM;generalize l[k]=x at aC fo GM;obtain ⟨xf,xt,xv⟩:=x;dsimp only at aC fo GM;have c0:w.cell? ⟨b,o+k*2,none⟩=some (.int .i64 xf):=aC 0 _ I;have c1:w.cell? ⟨b,o+k*2+1,none⟩=some xv:=aC 1 _ I
  (refine Jq<|Jr<|Jv I<|Jv I<|JI I<|JA I<|Jn<|Jd I fun az=>Jk<|Jq<|J0<|Jr<|Jv I<|Jv I<|ab (fT cq az) I<|bJ I I ae<|ab (ag (.of I) (At.base c0 I)) I<|Jv I<|JF I<|Jn<|gm I (fun az=>?_) fun az=>?_;refine Jg<|Jv I<|Jv I<|Jv I<|ab (an (.of I) (.of I) cq (by omega) (by assumption) aW) I<|ab (iO (eZ.base aC I)) I<|bj (bn (.o I .nil) I I bH bH ak) I fun _ _=>?_;rotate_left;refine Jw<|Jj<|Jt<|Jg<|Jv I<|JB I (by omega)<|Ja I<|Jn ?_;rotate_right)
  ·rw [if_pos az] at GM;refine bu (.of I) (.of I) (.there .here) .here ak (by rfl) (gO I fo) (by rfl) (by rfl) (by rfl) ed (by rfl) ?_;intro z;refine Ja I<|Jx<|Jj<|Jt<|Jg<|Jv I<|JB I (by omega)<|Ja I<|Jn ?_;apply aH (k+1,z,W++[⟨xf,xt,xv⟩]) ⟨by show k+1<=l.length;omega,GM.symm⟩ (by show l.length-(k+1)<l.length-k;omega)
   case hs1=>exact bS
   case ht=>
    dsimp only;rw [CX,Zg];simp only [ZA,Zaa,ZD];exact .h1 .nil
  ·rw [if_neg az,ZJ] at GM;apply aH (k+1,.slice va W.length vc,W) ⟨by show k+1<=l.length;omega,GM.symm⟩ (by show l.length-(k+1)<l.length-k;omega)
   case hs1=>exact bS
   case ht=>exact iP
 obtain rfl:k=l.length:=by omega
 rw [ZK] at hW;subst hW;refine Jq<|Jr<|Jv I<|Jv I<|JI I<|JA I<|Jn<|Jc I fun az=>Jp<|Jl<|Jo<|Jt<|Jr<|Jv I<|Ja I<|Jn<|Je ?_
 with_reducible first|apply aO|apply aQ
 case he=>exact dB I I
 case hR=>
  intro w' aB;exact aD (.slice va (rR l f).length vc) trivial (by exact .h1 .nil) aB I
end Go.Proofs.A1
namespace Go.Proofs.A1
open Go Go.SL
open Tryz
open Tryz renaming prog->T_
def odQ (r:Ro) (l:List Od) (k:Nat):Int:=aZ [fK (l.getD k Od.zero).fr 0 10000000,cn (decide ((0:Int)<(k:Nat))&&decide ((l.getD k Od.zero).fr<=(l.getD (k-1) Od.zero).fr)) 11,uR r (l.getD k Od.zero).tk]
variable {l:List gW} {r:Ro}
theorem Xa {k:Nat} (h:k<l.length):odQ r (cC l) k=BX r (cC l) k:=by
 rw [LD h];unfold odQ HR;rw [pj h];dsimp only;by_cases k0:k=0
 ·subst k0;rw [if_pos I];by_cases c:fK l[0].fr 0 10000000=0
  ·have:=gZ.1 c;rw [decide_eq_false (show ¬ l[0].fr <= -1 by omega)]
   rfl
  ·rw [xr c,xr c]
 ·rw [if_neg k0,decide_eq_true (show (0:Int)<(k:Nat) by omega),Zao]
set_option maxHeartbeats 1000000 in
theorem yK {s d t p kv:Value} {w:World} (h:RR w r s d t p) (hw:Rd w kv 2 (kQ l)) (hM:uQ w l):aj T_ 65 [RA r s d t p,kv] w (.q (Gv r (cC l))):=by
 obtain ⟨h1,h2,h3,h4⟩:=h.one;obtain ⟨a,cp,b,o,rfl,dd,bO,ha,hc⟩:=hw;rw [eH] at *;unfold maxLen at bO;have nL:(cC l).length=l.length:=Zd _;unfold RA;refine ah func65 I I ?_
 (refine Jr<|Jy I I fun _ _=>Ja I<|Jn<|Jq<|Jr<|Jv I<|JI I<|JE I<|Jn<|gm I (fun az=>?_) fun az=>?_;refine Jr<|Ja I<|Jn<|Ju<|JT ?_;rotate_left;refine Jk<|Jq<|Jr<|Ja I<|Jn<|J0 ?_;rotate_right)
 ·have e1:Gv r (cC l)=5:=by unfold Gv;rw [if_pos (by rw [nL];omega)]
  rw [e1]
 have hX:Gv r (cC l)=jd (BX r (cC l)) l.length:=by unfold Gv;rw [if_neg (by rw [nL];omega),nL]
 clear az;rename_i b2 rM
 refine aV (fun k:Nat=>k<=l.length/\∀ i,i<k->BX r (cC l) i=0) (fun k=>[(5,.q (k:Nat)),(1,.slice a l.length cp),(2,.p b2)])
  (fun k=>[JQ b2 r s d t p]) (fun k=>l.length-k) ?_ ?_
 ·with_reducible apply aI (0:Nat) ⟨Zi _,fun i hi=>absurd hi (ZN _)⟩
  case hs1=>exact bS
  case ht=>exact iP
 rintro k ⟨hk,hf⟩;by_cases aK:k<l.length
 ·have cq:=ha (pn aK);have Qw:k-1<l.length:=by omega
  have aC:=(hc k _ (wH l aK)).2;have c0:w.cell? ⟨b,o+k*2,none⟩=some (.q l[k].fr):=aC 0 _ I;have c1:w.cell? ⟨b,o+k*2+1,none⟩=some l[k].v:=aC 1 _ I;have c2:w.cell? ⟨b,o+(max 0 ((k:Int)-1)).toNat*2,none⟩=some (.q l[k-1].fr):=by
   rw [show (max 0 ((k:Int)-1)).toNat=k-1 by omega];exact (hc (k-1) _ (wH l Qw)).2 0 _ I
  obtain ⟨sN,Sq⟩:=hM _ (Zj aK);have fo:=Rd.one sN;have htk:∀ {w'},aJ [] w w'->aj T_ 49 [.agg #[.int .i64 r.lv,.int .i64 r.ma,s,d,t,p],l[k].v] w' (.int .i64 (uR r (bQ l[k].tk))):=fun hk=>BE (h.keeps hk) (Rd.keeps sN hk) (Sq.keeps hk)
  have iy:=Xa (r:=r) aK;unfold odQ at iy;rw [pj aK,pj Qw] at iy;dsimp only at iy;have gQ:BX r (cC l) k=0->∀ i,i<k+1->BX r (cC l) i=0:=fun e i hi=>by
   by_cases e2:i=k
   ·rw [e2];exact e
   ·exact hf i (by omega)
  have V9:BX r (cC l) k≠0->jd (BX r (cC l)) l.length=BX r (cC l) k:=fun e=>eV hf aK e
  generalize l[k-1].fr=y at c2 iy;generalize uR r (bQ l[k].tk)=T at htk iy;generalize l[k].v=kv at c1 fo htk;generalize l[k].fr=x at c0 iy;have e:=iy;refine Jq<|Jr<|Jv I<|Jv I<|JI I<|JA I<|Jn<|Jd I fun az=>Jk<|Jq<|J0<|Jq ?_
  with_reducible refine cY 32 (by kernel_rfl) ?_
  (refine ar k8 I<|ar k8 I<|ar (fT cq az) I<|ar k6 I<|ar (ag (.of I) (At.base c0 I)) I<|aX ef I (fun w' aB=>(r7 x 0 10000000 w'))<|ar k8 I<|ar (lV (.of I) (.of I)) I<|ar k8 I<|ir I I inferInstance (fun hg br=>(aP (.of I))) I<|ir I I inferInstance (fun hg br=>(aP (.of I))) I<|ir I I inferInstance (fun hg br=>(an (.bF hg I) (.bF hg I) cq (by omega) az aW)) I<|ir I I inferInstance (fun hg br=>(aq (.bF hg I) ae)) I<|ir I I inferInstance (fun hg br=>(ag (.bF hg I) (At.base c0 I))) I<|ir I I inferInstance (fun hg br=>(aP (.of I))) I<|ir I I inferInstance (fun hg br=>(aP (.of I))) I<|ir I I inferInstance (fun hg br=>(q8 (.bF hg I) (.of I) (R3 (by omega)))) I<|ir I I inferInstance (fun hg br=>(Pp (.of I) (.bF hg I))) I<|ir I I inferInstance (fun hg br=>(an (.bF hg I) (.bF hg I) cq (by omega) (by omega) aW)) I<|ir I I inferInstance (fun hg br=>(aq (.bF hg I) ae)) I<|ir I I inferInstance (fun hg br=>(ag (.bF hg I) (At.base c2 I))) I<|ir I I inferInstance (fun hg br=>(lj (.bF hg I) (.bF hg I))) I<|ar (bX (.of I) I) I<|aX bb I (fun w' aB=>(k9 _ 11 w'))<|ar (cm .here) I<|ar k8 I<|ar k8 I<|ar (fT cq az) I<|ar k6 I<|ar (ag (.of I) (At.base c1 I)) I<|aX bb I (fun w' aB=>(htk (Mem.keeps aB)))<|eC (aG (.o I (.o I (.o I .nil))) I I I I) I I ?_)
  with_reducible refine dA I fun bq ml=>?_
  (refine ai bM I (fun w' aB=>(jG (Mem.dz aB .here I I) (bY.cons (bY.cons (bY.cons bY.nil)))))<|Ja I<|Ji<|Jv I<|JD I<|Jn<|gm I (fun az=>?_) fun az=>?_;refine Jr<|Jv I<|Ja I<|Jn<|Je<|Jm<|Jh<|Jh<|Jm<|Jh<|JT ?_;rotate_left;refine Jw<|Jj<|Jt<|Jg<|Jv I<|JB I (by omega)<|Ja I<|Jn ?_;rotate_right)
  ·rw [e] at az ⊢;rw [hX,V9 az]
  apply aH (k+1) ⟨(show k+1<=l.length from aK),gQ (by rw [<- e];exact Zp.1 az)⟩ (show l.length-(k+1)<l.length-k by omega)
  case hs1=>exact bS
  case ht=>exact iP
 ·obtain rfl:k=l.length:=by omega
  rw [hX,dQ.2 fun i hi=>hf i hi]
  refine Jq<|Jr<|Jv I<|Jv I<|JI I<|JA I<|Jn<|Jc I fun az=>Jp<|Jl<|Jo<|Jt<|Jr<|Ja I<|Jn<|Je<|JT ?_
  rfl
end Go.Proofs.A1
namespace Go.Proofs.A1
open Go Go.SL
open Tryz
open Tryz renaming prog->T_
variable {Q:Ro} {l:List gW} {r:Ro} {w:World}
theorem KW {l:List Od} {IX E:Int} (hX:fE r l=(Q,IX,E)) (hE:E=0):Q=NZ r l l.length/\∀ j,j<l.length->tH r l j=0:=by
 unfold fE at hX;by_cases c:jd (tH r l) l.length=0
 ·rw [if_pos c] at hX;injection hX with h _
  exact ⟨h.symm,fun j hj=>dQ.1 c j hj⟩
 ·rw [if_neg c] at hX;injection hX with _ h
  injection h with _ h
  exact absurd (h.trans hE) c
theorem LB {c:Cx} {hs hs':List bd} {E:TypeId} {v:Value} {n:Nat} (hm:Mem c hs w) (ht:Take hs (row E 2 v n (kQ l).flatten) hs') (hn:l.length=n):Rd w v 2 (kQ l):=hm.o9 ht I (EP l) (by rw [eH,hn])
theorem VB {i e_:Int} {s d t p v:Value} (e:vW r (cC l)=(Q,i,e_)) (h:RR w r s d t p) (hf:nk r) (hv:Rd w v 2 (kQ l)) (hM:uQ w l):a8 T_ 62 [.agg #[.q r.lv,.q r.ma,s,d,t,p],v] w [] (fun _:Value×Value×Value×Value=>True) (fun y=>.tuple #[.agg #[.q Q.lv,.q Q.ma,y.1,y.2.1,y.2.2.1,y.2.2.2],.q i,.q e_]) (fun y=>vh Q y):=by
 have:=Y9 h hf hv hM;rw [e] at this;exact this
def M0 (y:gW):Value:=.agg #[.q y.fr,.agg (y.tk.map Im).toArray,y.v]
theorem MZ {x y:gW} (h:M0 x=M0 y):x=y:=by
 obtain ⟨a,b,c⟩:=x;obtain ⟨a',b',c'⟩:=y;injection h with h
 have h:=congrArg Array.toList h;simp only [List.cons.injEq,and_true] at h;obtain ⟨h1,h2,h3⟩:=h;injection h1 with _ h1
 injection h2 with h2
 have h2:=xx (congrArg Array.toList h2)
 try dsimp only at h1 h2 h3
 rw [h1,h2,h3]
theorem DA:∀ {a b:List gW},a.map M0=b.map M0->a=b
 | [],[],_=>rfl
 | x :: a, y :: b, h => by
  rw [Z3,Z3] at h;injection h with h1 h2
  rw [MZ h1,DA h2]
def Vj (x:Value×List gW):Value:=.agg #[x.1,.agg (x.2.map M0).toArray]
theorem MX {x y:Value×List gW} (h:Vj x=Vj y):x=y:=by
 obtain ⟨a,b⟩:=x;obtain ⟨a',b'⟩:=y;injection h with h
 have h:=congrArg Array.toList h;simp only [List.cons.injEq,and_true] at h;obtain ⟨h1,h2⟩:=h;injection h2 with h2
 rw [DA (congrArg Array.toList h2),h1]
noncomputable def YB (l:List gW):Value->{x:Value×List gW // cC x.2=cC l}:=YA (fun x=>Vj x.1) ⟨(.bool false,l),I⟩
theorem Vb (l:List gW) (x:{x:Value×List gW // cC x.2=cC l}):∃ v,YB l v=x:=Fg (fun _ _ h=>Subtype.ext (MX h)) _ x
theorem KV (gr:gy r=0) {l:List Od} (hl:IE r l) {i:Nat} (hi:i<l.length) {q:List Po} (h:DT r l i q) {Q:Ro} {IX E:Int} (hX:gI (r.wp q) l[i].tk=(Q,IX,E)) :
  tH r l i=E/\(E≠0->Q=Ro.nil)/\(E=0->∃ q',Q=r.wp q'/\DT r l (i+1) q'):=by
 have e:tH r l i=E:=by
  unfold tH;rw [h.eq,Zk,Zc hi,Zaj,hX]
 refine ⟨e,fun hE=>?_,fun hE=>?_⟩
 ·have:=KS (r:=r.wp q) (l:=l[i].tk);rw [hX] at this;rcases this with e | ⟨_,_,e,_⟩ | ⟨_,_,e,_⟩
  ·exact absurd e hE
  ·exact e
  ·exact e
 ·obtain ⟨q',hq,_⟩:=h.next gr hl hi (e.trans hE);refine ⟨q',?_,hq⟩;have:=hq.eq;rw [NZ,h.eq,Zk,Zc hi,Zaj,hX] at this;exact this
set_option maxRecDepth 20000 in
set_option maxHeartbeats 2000000 in
theorem WK {s d t p kv:Value} (h:RR w r s d t p) (gr:gy r=0) (Oi:jv r) (hw:Rd w kv 2 (kQ l)) (hM:uQ w l) (hO:IE r (cC l)) :
  a8 T_ 66 [RA r s d t p,kv] w [] (fun _:Value×Value×Value×Value=>True) (fun x=>.tuple #[RA (fE r (cC l)).1 x.1 x.2.1 x.2.2.1 x.2.2.2,.q (fE r (cC l)).2.1,.q (fE r (cC l)).2.2]) (fun x=>nQ (fE r (cC l)).1 x):=by
 obtain ⟨h1,h2,h3,h4⟩:=h.one;obtain ⟨a,cp,b,o,rfl,dd,bO,ha,hc⟩:=hw;rw [eH] at *;unfold maxLen at bO;have nL:(cC l).length=l.length:=Zd _;have dU:=A2 gr;unfold RA;refine aS func66 I I ?_;refine Jr<|Jy I I fun _ _=>Jz I I fun _ _=>Ja I<|Ja I<|Ji<|ab (cm (.there .here)) I ?_;rename_i b2 rM b4 tS;refine JN bM I (fun w1 aT=>Gm (h.keeps aT.keeps) Oi) ?_;rintro ⟨o1,o2,o3,o4⟩ _
 try dsimp only [id_eq,Zb,Za]
 refine iC (r:=r) (s:=o1) (d:=o2) (t:=o3) (p:=o4) (bo _ _) fun ma mb mc md=>?_;unfold RA
 (refine Jz I I fun _ _=>ao (.of I) (.of I) .here I I (eF I I ma mb mc md) (bz I) ak<|Jn<|Jq<|Jr<|Ja I<|Jn<|J0 ?_)
 rename_i b7 Sm;refine aV (ι:=Nat×List Po×Value×Value×Value×Value) (fun z=>z.1<=l.length/\DT r (cC l) z.1 z.2.1/\∀ j,j<z.1->tH r (cC l) j=0) (fun z=>[(8,.q (z.1:Nat)),(7,.p b7),(1,.slice a l.length cp),(2,.p b2),(4,.p b4)]) (fun z=>[JQ b7 r (z.2.2.1) (z.2.2.2.1) (z.2.2.2.2.1) (z.2.2.2.2.2),row 118 2 (z.2.2.1) r.sr.length (ko r.sr),row 88 3 (z.2.2.2.1) r.de.length (jt r.de),row 122 3 (z.2.2.2.2.1) r.ti.length (kz r.ti),row 180 3 (z.2.2.2.2.2) (z.2.1).length (gl z.2.1),bE b4 (.cells #[.q 0,.q 0,.z,.z,.z,.z] 27 (0,0))]) (fun z=>l.length-z.1) ?_ ?_
 ·apply aI (0,r.po,o1,o2,o3,o4) ⟨Zi _,⟨I,dU.val⟩,fun j hj=>absurd hj (ZN _)⟩
  case hs1=>exact bS
  case ht=>exact iP
 rintro ⟨i,q,s7,d7,t7,p7⟩ ⟨hi,hR,hz⟩;dsimp only at hi hR hz ⊢;by_cases aK:i<l.length
 ·have cq:=ha (pn aK);have aC:=(hc i _ (wH l aK)).2;obtain ⟨sN,Sq⟩:=hM _ (Zj aK);have gV:i<(cC l).length:=by omega
  have hTk:=hO.tk i gV;have iy:(cC l)[i].tk=bQ l[i].tk:=congrArg Od.tk (ZZ _);rw [iy] at hTk;have acX:=BD gr hR.val;obtain ⟨Q,IX,E,hX⟩:∃ Q IX E,gI (r.wp q) (bQ l[i].tk)=(Q,IX,E):=⟨_,_,_,rfl⟩;obtain ⟨e1,e2,e3⟩:=KV gr hO gV hR (Q:=Q) (IX:=IX) (E:=E) (by rw [iy];exact hX);have fo:=Rd.one sN;have c1:w.cell? ⟨b,o+i*2+1,none⟩=some l[i].v:=aC 1 _ I;generalize l[i].v=xv at c1 fo sN;generalize l[i].tk=xt at sN Sq hTk hX;refine Jq<|Jr<|Jv I<|Jv I<|JI I<|JA I<|Jn<|Jd I fun az=>Jk<|Jq<|J0<|Jq ?_
  with_reducible refine nr 12 [9,10] (by kernel_rfl) (Zq.2 ⟨mH I (by kernel_rfl) (by kernel_rfl),Zq.2 ⟨mH I (by kernel_rfl) (by kernel_rfl),fun _ h=>absurd h Zo⟩⟩) ?_
  (refine au (fun β=>(bK (.of I) .here ak (by rfl))) bh I<|au (fun β=>(aP (.of I))) bh I<|au (fun β=>(aP (.of I))) bh I<|au (fun β=>(an (.of I) (.of I) cq (by omega) az aW)) bh I<|au (fun β=>(aq (.of I) ae)) bh I<|au (fun β=>(ag (.of I) (At.base c1 I))) bh I ?_)
  dsimp only [Nat.zero_add,Nat.reduceAdd]
  with_reducible apply eB (ι:=Value×Value×Value×Value) (Φ:=fun _=>True) (val:=fun x=>.tuple #[.agg #[.q Q.lv,.q Q.ma,x.1,x.2.1,x.2.2.1,x.2.2.2],.q IX,.q E]) (own:=fun x=>nQ Q x) (g:=g4) (B:=[]) (args:=fun _=>[.agg #[.q r.lv,.q r.ma,s7,d7,t7,p7],xv])
  case hg=>exact pJ
  case hB=>rfl
  case hr=>exact fun β=>a7 (.of I) (.o I (.o I .nil)) inferInstance I
  case hd=>rfl
  case hc=>
   intro β w' hb;have m0:=hb.mem;exact Pd (r:=r.wp q) I hX (WM (cG (E:=118) m0 (by exact Take.there .here) I) (cI (E:=88) m0 bL I) (cF (E:=122) m0 cX I) (ct (E:=180) m0 dD I)) acX (sN.keeps m0.keeps) (Sq.keeps m0.keeps) (hTk.wp q)
  dsimp only [Nat.reduceAdd]
  with_reducible apply au (F:=fun β=>.tuple #[.agg #[.q Q.lv,.q Q.ma,(g4 (β 6)).1,(g4 (β 6)).2.1,(g4 (β 6)).2.2.1,(g4 (β 6)).2.2.2],.q IX,.q E])
  case hr=>(intro β;exact aP (.of I))
  case hi=>exact fun β β' h=>by simp only [h 6 (by kernel_rfl)]
  case hd=>rfl
  dsimp only [Nat.reduceAdd]
  with_reducible apply au (F:=fun β=>.agg #[.q Q.lv,.q Q.ma,(g4 (β 6)).1,(g4 (β 6)).2.1,(g4 (β 6)).2.2.1,(g4 (β 6)).2.2.2])
  case hr=>(intro β;exact dJ (.of I) I)
  case hi=>exact fun β β' h=>by simp only [h 6 (by kernel_rfl)]
  case hd=>rfl
  dsimp only [Nat.reduceAdd]
  with_reducible apply au (F:=fun β=>.q IX)
  case hr=>(intro β;exact dJ (.of I) I)
  case hi=>exact bh
  case hd=>rfl
  dsimp only [Nat.reduceAdd]
  with_reducible apply au (F:=fun β=>.q E)
  case hr=>(intro β;exact dJ (.of I) I)
  case hi=>exact bh
  case hd=>rfl
  dsimp only [Nat.reduceAdd];refine kE (fun β=>(o8 I)) (fun _ _ _=>rfl) I ?_;refine eS fun β=>?_;unfold nQ;dsimp only [dY,Za,Zb,List.append_eq,Nat.reduceAdd];obtain ⟨s9,d9,t9,p9⟩:=g4 (β 6);generalize fu (β 11)=b9;clear β;dsimp only;refine iC (r:=Q) (s:=s9) (d:=d9) (t:=t9) (p:=p9) (by unfold nQ;dsimp only;exact .h4 .nil) fun ma7 mb7 mc7 md7=>?_;refine bI (rs:=[12]) (by kernel_rfl) (by simp) (Zq.2 ⟨?_,fun _ h=>absurd h Zo⟩);refine bP I ?_
  (refine ao (.of I) (.of I) dD I I (eF I I ma7 mb7 mc7 md7) (bz I) ak<|Jn ?_)
  refine bI (rs:=[13]) (by kernel_rfl) (by simp) (Zq.2 ⟨?_,fun _ h=>absurd h Zo⟩);refine bP I ?_;refine Ja I<|Jn ?_;refine bI (rs:=[14]) (by kernel_rfl) (by simp) (Zq.2 ⟨?_,fun _ h=>absurd h Zo⟩);refine bP I ?_;refine Ja I<|Jn ?_
  with_reducible refine cu (by kernel_rfl) ?_
  by_cases hE:E=0
  rotate_left
  ·obtain rfl:=e2 hE;have hEE:jd (tH r (cC l)) (cC l).length=E:=(eV hz gV (by rw [e1];exact hE)).trans e1;have hB:NC (tH r (cC l)) (cC l).length=i:=Hc hz gV (by rw [e1];exact hE);have hRX:fE r (cC l)=(Ro.nil,((i:Nat):Int),E):=by unfold fE;rw [if_neg (by rw [hEE];exact hE),hB,hEE]
   refine dM [bE b4 (.cells #[.q 0,.q 0,.z,.z,.z,.z] 27 (0,0))] (by exact .cons lL .nil) ?_
   (refine Jt<|Jq<|Jr<|Jv I<|JD I<|Jn<|Jd I fun az=>Jr<|ab (aU .nil ak) I<|Jv I<|Jv I<|ao (.of I) (.of I) .here I I (eF I I I I I I) (bz I) ak<|Ja I<|Ja I<|Jn<|Ju<|Jm<|Jh<|Jh<|Jm<|Jh ?_)
   rw [hRX];dsimp only;refine aN 118 2 ?_;refine aN 88 3 ?_;refine aN 122 3 ?_;refine aN 180 3 ?_
   with_reducible first|apply aO|apply aQ
   case he=>exact im I inferInstance I dD ak (by rfl) (by rfl) (by rfl)
   case hR=>
    intro w' aB;exact aD (.z,.z,.z,.z) trivial (by exact .cons cX (.cons bL (.cons (.there .here) (.h1 .nil)))) aB I
  obtain ⟨q9,rfl,hR9⟩:=e3 hE;subst hE;have hz9:∀ j,j<i+1->tH r (cC l) j=0:=fun j hj=>by
   by_cases c:j=i
   ·rw [c];exact e1
   ·exact hz j (by omega)
  dsimp only [Wq,Wp,Wm,Wr,Wl,Wo];refine dM [JQ b9 r s9 d9 t9 p9,row 118 2 (s9) r.sr.length (ko r.sr),row 88 3 (d9) r.de.length (jt r.de),row 122 3 (t9) r.ti.length (kz r.ti),row 180 3 (p9) (q9).length (gl q9),JQ b7 r s7 d7 t7 p7,row 118 2 (s7) r.sr.length (ko r.sr),row 88 3 (d7) r.de.length (jt r.de),row 122 3 (t7) r.ti.length (kz r.ti),row 180 3 (p7) (q).length (gl q),bE b4 (.cells #[.q 0,.q 0,.z,.z,.z,.z] 27 (0,0))] (by exact .h3 (.h8 .nil)) ?_
  (refine Jt<|Jq<|Jr<|Jv I<|JD I<|Jn<|Jc I fun az=>Jk<|Jg<|ab (cm .here) I<|ao (.of I) (.of I) eu I I (eF I I ma7 mb7 mc7 md7) (bz I) ak<|Jx<|Jj<|Jt<|Jg<|Jv I<|JB I (by omega)<|Ja I<|Jn ?_)
  apply aH (i+1,q9,s9,d9,t9,p9) ⟨ZX aK,hR9,hz9⟩ (show l.length-(i+1)<l.length-i by omega)
  case hs1=>exact bS
  case ht=>exact iP
 obtain rfl:i=l.length:=by omega
 have hEE:jd (tH r (cC l)) (cC l).length=0:=by rw [nL];exact dQ.2 fun j hj=>hz j hj
 have hRX:fE r (cC l)=(r.wp q,0,0):=by unfold fE;rw [if_pos hEE,nL,hR.eq]
 refine qd (v:=s7) (by exact Take.there .here) fun x1=>?_;refine qd (v:=d7) bL fun x2=>?_;refine qd (v:=t7) cX fun x3=>?_;refine qd (v:=p7) dD fun x4=>?_
 (refine Jq<|Jr<|Jv I<|Jv I<|JI I<|JA I<|Jn<|Jc I fun az=>Jp<|Jl<|Jo<|Jt<|Jr<|ab (cm .here) I<|ao (.of I) (.of I) eu I I (eF I I x1 x2 x3 x4) (bz I) ak<|Ja I<|Ja I<|Jn<|Je ?_)
 rw [hRX];dsimp only
 with_reducible first|apply aO|apply aQ
 case he=>exact im I inferInstance I .here ak (by rfl) (by rfl) (by rfl)
 case hR=>
  intro w' aB;exact aD (s7,d7,t7,p7) trivial (by exact .cons bL (.cons bL (.cons bL (.cons bL .nil)))) aB I
end Go.Proofs.A1
namespace Go.Proofs.A1
open Go Go.SL
open Tryz
open Tryz renaming prog->T_
variable {L:List Od} {l:List gW} {r:Ro} {w:World}
theorem RM {r Q:Ro} {s d t p kv:Value} {IX E:Int} (hL:cC l=L) (e:fE r L=(Q,IX,E)) (h:RR w r s d t p) (gr:gy r=0) (Oi:jv r) (hw:Rd w kv 2 (kQ l)) (hM:uQ w l) (hO:IE r L) :
  a8 T_ 66 [.agg #[.q r.lv,.q r.ma,s,d,t,p],kv] w [] (fun _:Value×Value×Value×Value=>True) (fun x=>.tuple #[.agg #[.q Q.lv,.q Q.ma,x.1,x.2.1,x.2.2.1,x.2.2.2],.q IX,.q E]) (fun x=>nQ Q x):=by
 subst hL;have:=WK h gr Oi hw hM hO;rw [e] at this;exact this
theorem TB {W:List gW} {s d t p v:Value} {y:ByteArray} {f E:Int} {X:List ByteArray} (hW:cC W=L) (h:RR w r s d t p) (hf:nk r) (hv:Rd w v 2 (kQ W)) (hM:uQ w W) (e1:oI r L y f=E) (e2:q7 r L y f=X):a8 T_ 64 [.agg #[.q r.lv,.q r.ma,s,d,t,p],v,.string y,.q f] w [] (fun _:Value=>True) (fun x=>.tuple #[x,.q E]) (fun x=>[row 9 1 x X.length (aR X)]):=by
 have:=NU y f h hf hv hM;rw [hW,e1,e2] at this;exact this
theorem K0 (w:World):RR w Ro.nil (.z) (.z) (.z) (.z):=⟨Rd.nil w 2,Rd.nil w 3,Rd.nil w 3,Rd.nil w 3⟩
set_option maxRecDepth 20000 in
set_option maxHeartbeats 4000000 in
theorem EM {s d t p kv:Value} (h:RR w r s d t p) (hw:Rd w kv 2 (kQ l)) (hM:uQ w l) (v:Int) (so de:ByteArray):aj T_ 7 [RA r s d t p,kv,.agg #[.q v,.string so,.string de]] w (.bool true):=by
 obtain ⟨h1,h2,h3,h4⟩:=h.one;have BY:=hw;obtain ⟨a,cp,b,o,rfl,dd,bO,ha,hc⟩:=BY;rw [eH] at *;have Da:∀ {w'},aJ [] w w'->aj T_ 18 [.agg #[.int .i64 r.lv,.int .i64 r.ma,s,d,t,p]] w' (.bool (Cz r)):=fun hk=>O6 (h.keeps hk)
 have QE:∀ w',aj T_ 19 [.agg #[.q v,.string so,.string de]] w' (.bool (VH so de)):=fun w'=>FB v so de w'
 have H0:∀ {w'},aJ [] w w'->aj T_ 61 [.slice a l.length cp] w' (.bool (Cv (cC l))):=fun hk=>yl (Rd.keeps hw hk) (hM.keeps hk)
 have Dp:∀ {w'},aJ [] w w'->aj T_ 65 [.agg #[.q r.lv,.q r.ma,s,d,t,p],.slice a l.length cp] w' (.q (Gv r (cC l))):=fun hk=>yK (h.keeps hk) (Rd.keeps hw hk) (hM.keeps hk)
 have uX:∀ {w'},aJ [] w w'->aj T_ 26 [.agg #[.q r.lv,.q r.ma,s,d,t,p],.string de] w' (.q (oL r de)):=fun hk=>xF de (h.keeps hk)
 unfold RA;cases Mg:Cz r with
 | false =>
  rw [Mg] at Da;refine ah func7 I I ?_
  (refine Jr<|Jy I I fun _ _=>Jy I I fun _ _=>Ja I<|Jn<|Jq<|Jr<|ai mj I (fun w' aB=>(oo w'))<|JH I<|Jv I<|aF I I inferInstance (fun hg br=>(bK (.of I) (.there .here) ak (by rfl))) I<|ep I I (fun hg=>(a7 (.of I) (.cons (.bF hg I) .nil) inferInstance dZ)) I (fun hg w' aB=>(Da (Mem.keeps aB)))<|aF I I inferInstance (fun hg br=>(dN (.bF br I))) I<|ab (bA (.of I) I) I<|Jv I<|iQ I I I I<|ew I I I I<|aF I I inferInstance (fun hg br=>(dN (.bF hg I))) I<|ab (bA (.of I) I) I<|Jv I<|aF I I inferInstance (fun hg br=>(bK (.of I) .here ak (by rfl))) I<|ew I I I I<|aF I I inferInstance (fun hg br=>(dN (.bF hg I))) I<|ab (bA (.of I) I) I<|Jn<|cW (.of I)<|Jr<|ai mj I (fun w' aB=>(oo w'))<|Ja I<|Jn<|Ju<|JT ?_)
  rfl
 | true=>
 cases GK:Cv (cC l) with
 | false =>
  rw [Mg] at Da;rw [GK] at H0;refine ah func7 I I ?_
  (refine Jr<|Jy I I fun _ _=>Jy I I fun _ _=>Ja I<|Jn<|Jq<|Jr<|ai mj I (fun w' aB=>(oo w'))<|JH I<|Jv I<|aF I I inferInstance (fun hg br=>(bK (.of I) (.there .here) ak (by rfl))) I<|ep I I (fun hg=>(a7 (.of I) (.cons (.bF hg I) .nil) inferInstance dZ)) I (fun hg w' aB=>(Da (Mem.keeps aB)))<|aF I I inferInstance (fun hg br=>(dN (.bF br I))) I<|ab (bA (.of I) I) I<|Jv I<|iQ I I I I<|ep I I (fun hg=>(a7 (.of I) (.cons (.bF hg I) .nil) inferInstance dZ)) I (fun hg w' aB=>(H0 (Mem.keeps aB)))<|aF I I inferInstance (fun hg br=>(dN (.bF hg I))) I<|ab (bA (.of I) I) I<|Jv I<|aF I I inferInstance (fun hg br=>(bK (.of I) .here ak (by rfl))) I<|ew I I I I<|aF I I inferInstance (fun hg br=>(dN (.bF hg I))) I<|ab (bA (.of I) I) I<|Jn<|cW (.of I)<|Jr<|ai mj I (fun w' aB=>(oo w'))<|Ja I<|Jn<|Ju<|JT ?_)
  rfl
 | true=>
 cases Of:VH so de with
 | false =>
  rw [Mg] at Da;rw [GK] at H0;rw [Of] at QE;refine ah func7 I I ?_
  (refine Jr<|Jy I I fun _ _=>Jy I I fun _ _=>Ja I<|Jn<|Jq<|Jr<|ai mj I (fun w' aB=>(oo w'))<|JH I<|Jv I<|aF I I inferInstance (fun hg br=>(bK (.of I) (.there .here) ak (by rfl))) I<|ep I I (fun hg=>(a7 (.of I) (.cons (.bF hg I) .nil) inferInstance dZ)) I (fun hg w' aB=>(Da (Mem.keeps aB)))<|aF I I inferInstance (fun hg br=>(dN (.bF br I))) I<|ab (bA (.of I) I) I<|Jv I<|iQ I I I I<|ep I I (fun hg=>(a7 (.of I) (.cons (.bF hg I) .nil) inferInstance dZ)) I (fun hg w' aB=>(H0 (Mem.keeps aB)))<|aF I I inferInstance (fun hg br=>(dN (.bF hg I))) I<|ab (bA (.of I) I) I<|Jv I<|aF I I inferInstance (fun hg br=>(bK (.of I) .here ak (by rfl))) I<|ep I I (fun hg=>(a7 (.of I) (.cons (.bF hg I) .nil) inferInstance dZ)) I (fun hg w' aB=>(QE w'))<|aF I I inferInstance (fun hg br=>(dN (.bF hg I))) I<|ab (bA (.of I) I) I<|Jn<|cW (.of I)<|Jr<|ai mj I (fun w' aB=>(oo w'))<|Ja I<|Jn<|Ju<|JT ?_)
  rfl
 | true=>
 rw [Mg] at Da;rw [GK] at H0;rw [Of] at QE;have hA:ym r=true:=by
  unfold Cz at Mg;exact (Zm _ _ ▸ Mg).1
 have hF:=KL hA;have Oi:=CA hA;have hcr:∀ {w'},aJ [] w w'->aj T_ 25 [.agg #[.q r.lv,.q r.ma,s,d,t,p]] w' (.q (gy r)):=fun hk=>yH (h.keeps hk) Oi
 have Bh:l.length<=1000/\∀ x∈l,x.tk.length<=1000/\∀ y∈x.tk,y.tk.so.length<=1000:=by
  unfold Cv at GK;rw [Zm,Z4,ZT,decide_eq_true_iff,decide_eq_true_iff,ss] at GK;refine ⟨by omega,fun x hx=>?_⟩;obtain ⟨a1,a2⟩:=O5 (GK.1 ⟨x.fr,bQ x.tk⟩ (ZY (f:=fun x:gW=>(⟨x.fr,bQ x.tk⟩:Od)) hx));exact ⟨by omega,fun y hy=>by have:=a2 y hy;omega⟩
 obtain ⟨Fa,Bh⟩:=Bh;clear Mg GK Of hA;obtain ⟨Q1,I1,E1,hX⟩:∃ Q o E,vW r (cC l)=(Q,o,E):=⟨_,_,_,rfl⟩;obtain ⟨E3,Su⟩:∃ E,oI r (cC l) de v=E:=⟨_,rfl⟩;obtain ⟨X3,Yk⟩:∃ X,q7 r (cC l) de v=X:=⟨_,rfl⟩;refine ah func7 I I ?_
 (refine Jr<|Jy I I fun _ _=>Jy I I fun _ _=>Ja I<|Jn<|Jq<|Jr<|ai mj I (fun w' aB=>(oo w'))<|JH I<|Jv I<|aF I I inferInstance (fun hg br=>(bK (.of I) (.there .here) ak (by rfl))) I<|ep I I (fun hg=>(a7 (.of I) (.cons (.bF hg I) .nil) inferInstance dZ)) I (fun hg w' aB=>(Da (Mem.keeps aB)))<|aF I I inferInstance (fun hg br=>(dN (.bF br I))) I<|ab (bA (.of I) I) I<|Jv I<|iQ I I I I<|ep I I (fun hg=>(a7 (.of I) (.cons (.bF hg I) .nil) inferInstance dZ)) I (fun hg w' aB=>(H0 (Mem.keeps aB)))<|aF I I inferInstance (fun hg br=>(dN (.bF hg I))) I<|ab (bA (.of I) I) I<|Jv I<|aF I I inferInstance (fun hg br=>(bK (.of I) .here ak (by rfl))) I<|ep I I (fun hg=>(a7 (.of I) (.cons (.bF hg I) .nil) inferInstance dZ)) I (fun hg w' aB=>(QE w'))<|aF I I inferInstance (fun hg br=>(dN (.bF hg I))) I<|ab (bA (.of I) I) I<|Jn<|ch (.of I)<|Jk<|Jr<|ab (cm (.there .here)) I ?_)
 rename_i b3 tr b5 Ia;refine JN bM I (fun w1 aT=>me (h.keeps aT.keeps) Oi) ?_;rintro ⟨o1,o2,o3,o4⟩ _
 try dsimp only [id_eq,Zb,Za]
 refine dH (r:=r) (s:=o1) (d:=o2) (t:=o3) (p:=o4) (bo _ _) fun ma mb mc md=>?_;refine PU I I ?_;refine JN bM I (fun w1 aT=>CW (Rd.keeps hw aT.keeps) (hM.keeps aT.keeps) Fa Bh) ?_;rintro ⟨gv,W⟩ hW
 try dsimp only [id_eq,Zb,Za]
 dsimp only at hW ⊢
 skip
 refine JN bb I (fun w1 aT=>VB (Q:=Q1) (i:=I1) (e_:=E1) ((congrArg (vW r) hW).trans hX) ⟨cG aT bL I,cI aT cX I,cF aT dD I,ct aT eu I⟩ hF (LB aT (by exact .here) I) (W9 aT (by exact Take.there .here))) ?_;rintro ⟨s6,d6,t6,p6⟩ _
 try dsimp only [id_eq,Zb,Za]
 refine dH (r:=Q1) (s:=s6) (d:=d6) (t:=t6) (p:=p6) (bo _ _) fun ma6 mb6 mc6 md6=>?_
 (refine Jv I<|JJ I I<|JJ I I<|JJ I I<|Jz I I fun _ _=>ao (.of I) (.of I) .here I I (eF I I ma6 mb6 mc6 md6) (bz I) ak<|Ja I<|Ja I<|Jn<|Jq ?_)
 rename_i b7 Sm;refine dM [bE b7 (.cells #[.q (Q1).lv,.q (Q1).ma,s6,d6,t6,p6] 41 (0,0)),J1 (Q1) s6,J2 (Q1) d6,J3 (Q1) t6,J4 (Q1) p6,JQ b3 r s d t p,bE b5 (.cells #[.q v,.string so,.string de] 29 (0,0))] (by exact .h5 (.cons tt (.cons kr .nil))) ?_
 with_reducible refine dE 14 (by kernel_rfl) ?_
 refine au (fun β=>(bK (.of I) eu ak (by rfl))) bh I ?_;dsimp only [Nat.zero_add,Nat.reduceAdd]
 with_reducible apply eB (ι:=Value×Value×Value×Value) (Φ:=fun _=>True) (val:=fun x=>.agg #[.q r.lv,.q r.ma,x.1,x.2.1,x.2.2.1,x.2.2.2]) (own:=fun x=>vh r x) (g:=g4) (B:=[]) (args:=fun β=>[.agg #[.q r.lv,.q r.ma,s,d,t,p]])
 case hg=>exact pJ
 case hB=>first | rfl | kernel_rfl
 case hr=>exact fun β=>a7 (.of I) (.o I .nil) inferInstance I
 case hd=>rfl
 case hc=>
  intro β w' hb;exact me (h.keeps hb.mem.keeps) Oi
 dsimp only [Nat.reduceAdd];refine au (fun β=>(aP (.of I))) bh I ?_;dsimp only [Nat.zero_add,Nat.reduceAdd]
 with_reducible apply eB (ι:={x:Value×List gW // cC x.2=cC l}) (Φ:=fun _=>True) (val:=fun z=>z.1.1) (own:=fun z=>[row 182 2 z.1.1 z.1.2.length (kQ z.1.2).flatten,PI z.1.2]) (g:=YB l) (B:=[]) (args:=fun _=>[.slice a l.length cp])
 case hg=>exact Vb l
 case hB=>rfl
 case hr=>exact fun β=>a7 (.of I) (.o I .nil) inferInstance I
 case hd=>rfl
 case hc=>exact fun β w' hb=>a8.sub (CW (Rd.keeps hw hb.mem.keeps) (hM.keeps hb.mem.keeps) Fa Bh)
 dsimp only [Nat.reduceAdd]
 (refine au (fun β=>(aq (.of I) ae)) bh I<|au (fun β=>(ag (.of I) (At.lit kr I))) bh I<|au (fun β=>(aq (.of I) ae)) bh I<|au (fun β=>(ag (.of I) (At.lit kr I))) bh I ?_)
 dsimp only [Nat.zero_add,Nat.reduceAdd]
 with_reducible apply eB (ι:=Value) (Φ:=fun _=>True) (val:=fun x=>.tuple #[x,.q E3]) (own:=fun x=>[row 9 1 x X3.length (aR X3)]) (g:=id) (B:=[1,3]) (args:=fun β=>[.agg #[.q r.lv,.q r.ma,(g4 (β 1)).1,(g4 (β 1)).2.1,(g4 (β 1)).2.2.1,(g4 (β 1)).2.2.2],(YB l (β 3)).1.1,.string de,.q v])
 case hg=>exact fun x=>⟨x,I⟩
 case hB=>kernel_rfl
 case hr=>exact fun β=>a7 (.of I) (.o I (.o I (.o I (.o I .nil)))) inferInstance I
 case hd=>rfl
 case hc=>
  intro β w' hb;have m1:=hb.at 1 Zu I;have m2:=hb.at 3 (ZM _ Zu) I;dsimp only at m1;dsimp only [Zb,Za] at m2;have m4:=WN m1 (bo _ _);have m5:=LB (E:=182) m2 .here I;have m6:=W9 m2 (.there .here);exact TB (YB l (β 3)).2 m4 hF m5 m6 Su Yk
 dsimp only [id_eq,Nat.reduceAdd]
 with_reducible apply au (F:=fun β=>.tuple #[β 8,.q E3])
 case hr=>(intro β;exact aP (.of I))
 case hi=>exact fun β β' h=>by simp only [h 8 (by kernel_rfl)]
 case hd=>rfl
 dsimp only [Nat.reduceAdd]
 with_reducible apply au (F:=fun β=>β 8)
 case hr=>(intro β;exact dJ (.of I) I)
 case hi=>exact fun β β' h=>by simp only [h 8 (by kernel_rfl)]
 case hd=>rfl
 dsimp only [Nat.reduceAdd]
 with_reducible apply au (F:=fun β=>.q E3)
 case hr=>(intro β;exact dJ (.of I) I)
 case hi=>exact bh
 case hd=>rfl
 dsimp only [Nat.reduceAdd]
 with_reducible apply au (F:=fun β=>β 8)
 case hr=>(intro β;exact cM (.of I))
 case hi=>exact fun β β' h=>by simp only [h 8 (by kernel_rfl)]
 case hd=>rfl
 dsimp only [Nat.reduceAdd]
 with_reducible apply au (F:=fun β=>.q E3)
 case hr=>(intro β;exact cM (.of I))
 case hi=>exact bh
 case hd=>rfl
 dsimp only [Nat.reduceAdd];refine eS fun β=>?_;unfold vh;dsimp only [dY,Za,Zb,List.append_eq,Nat.reduceAdd];generalize β 8=xs;generalize g4 (β 1)=y1;generalize YB l (β 3)=y3;clear β
 with_reducible refine cu (by kernel_rfl) ?_
 refine dM [row 9 1 (xs) (X3.length) (aR (X3)),bE b7 (.cells #[.q (Q1).lv,.q (Q1).ma,s6,d6,t6,p6] 41 (0,0)),J1 (Q1) s6,J2 (Q1) d6,J3 (Q1) t6,J4 (Q1) p6,JQ b3 r s d t p,bE b5 (.cells #[.q v,.string so,.string de] 29 (0,0))] (by exact .cons kr (.cons kr (.cons kr (.cons kr (.cons kr (.cons kr (.cons kr (.cons kr .nil)))))))) ?_;by_cases ho:zw r (cC l)=0
 rotate_left
 ·have hXn:vW r (cC l)=(Ro.nil,0,zw r (cC l)):=if_pos ho;rw [hXn] at hX;obtain ⟨rfl,rfl,rfl⟩:Ro.nil=Q1/\0=I1/\zw r (cC l)=E1:=by
   injection hX with e1 e2
   injection e2 with e2 e3
   exact ⟨e1,e2,e3⟩
  have Ib:jv Ro.nil:=⟨Zi _,Zi _,Zi _,Zi _⟩;have MP:E3=zw r (cC l):=by rw [<- Su];exact if_pos ho
  have Sn:X3=[]:=by rw [<- Yk];exact if_pos (by rw [Su,MP];exact ho)
  by_cases gr:gy r=0
  ·have GK:zw r (cC l)=Gv r (cC l):=if_neg (not_not_intro gr);have hod:Gv r (cC l)≠0:=by rw [<- GK];exact ho
   (refine Jt<|Jr<|ab (cm kr) I<|ai bM I (fun w' aB=>(hcr (Mem.keeps aB)))<|Ja I<|Jn<|Jq<|Jr<|Jv I<|JC I<|Jn<|Jd I fun az=>Jg<|ab (cm kr) I<|Jv I<|ai bb I (fun w' aB=>(Dp (Mem.keeps aB)))<|Ja I<|Ji<|Jv I<|Ja I<|Ji<|Ja I<|Ji<|Jz I I fun _ _=>Ji<|Ja I<|Jn<|Jq<|Jr<|Jv I<|JC I<|Jn<|Jc I fun az=>Jk<|Jq<|Jr<|Jv I<|JC I<|Jn<|Jc I fun az=>Jk<|Jr<|ab (cm bL) I<|Jv I<|Jv I<|ab (cm .here) I ?_)
   with_reducible apply ai
   case hr=>exact mi
   case hd=>rfl
   case hc=>
    intro w1 aT;have oA:RR w1 (Ro.nil) s6 d6 t6 p6:=⟨cG aT cX I,cI aT dD I,cF aT eu I,ct aT kr I⟩;have lo:RR w1 (Ro.nil) (.z) (.z) (.z) (.z):=K0 w1;have tp:=nC oA Ib lo GK (fun _=>rfl) (fun _=>rfl)
    exact tp
   (refine Jv I<|JK I I<|Jv I<|JK I I<|Jv I<|JK I I<|ab (lC (.of I) (.of I) I) I<|ab (fV (.of I) (.of I) (.of I) I) I<|Jv I<|JK I I<|Jv I<|JK I I<|Jv I<|JK I I<|Jv I<|JK I I<|Jv I<|JK I I ?_)
   with_reducible apply ai
   case hr=>exact mi
   case hd=>rfl
   case hc=>
    intro w1 aT;have oA:Rd w1 xs 1 (gi X3):=dS (E:=9) aT (by exact Take.there .here) I;have lo:Rd w1 (.z) 1 (gi ([])):=Rd.nil w1 1;have tp:=sy oA lo (MP.trans GK) (fun _=>Sn) (fun q=>absurd q hod)
    exact tp
   (refine ab (fV (.of I) (.of I) (.of I) I) I<|Ja I<|Jn<|Je<|JT ?_)
   rfl
  ·have GK:zw r (cC l)=gy r:=if_pos gr
   (refine Jt<|Jr<|ab (cm kr) I<|ai bM I (fun w' aB=>(hcr (Mem.keeps aB)))<|Ja I<|Jn<|Jq<|Jr<|Jv I<|JC I<|Jn<|Jc I fun az=>Jk<|Jr<|Jv I<|Ja I<|Ji<|Ja I<|Ji<|Jz I I fun _ _=>Ji<|Ja I<|Jn<|Jq<|Jr<|Jv I<|JC I<|Jn<|Jc I fun az=>Jk<|Jq<|Jr<|Jv I<|JC I<|Jn<|Jc I fun az=>Jk<|Jr<|ab (cm bL) I<|Jv I<|Jv I<|ab (cm .here) I ?_)
   with_reducible apply ai
   case hr=>exact mi
   case hd=>rfl
   case hc=>
    intro w1 aT;have oA:RR w1 (Ro.nil) s6 d6 t6 p6:=⟨cG aT cX I,cI aT dD I,cF aT eu I,ct aT kr I⟩;have lo:RR w1 (Ro.nil) (.z) (.z) (.z) (.z):=K0 w1;have tp:=nC oA Ib lo GK (fun _=>rfl) (fun _=>rfl)
    exact tp
   (refine Jv I<|JK I I<|Jv I<|JK I I<|Jv I<|JK I I<|ab (lC (.of I) (.of I) I) I<|ab (fV (.of I) (.of I) (.of I) I) I<|Jv I<|JK I I<|Jv I<|JK I I<|Jv I<|JK I I<|Jv I<|JK I I<|Jv I<|JK I I ?_)
   with_reducible apply ai
   case hr=>exact mi
   case hd=>rfl
   case hc=>
    intro w1 aT;have oA:Rd w1 xs 1 (gi X3):=dS (E:=9) aT (by exact Take.there .here) I;have lo:Rd w1 (.z) 1 (gi ([])):=Rd.nil w1 1;have tp:=sy oA lo (MP.trans GK) (fun _=>Sn) (fun q=>absurd q gr)
    exact tp
   (refine ab (fV (.of I) (.of I) (.of I) I) I<|Ja I<|Jn<|Je<|JT ?_)
   rfl
 obtain ⟨gr,hO⟩:=EN ho;have hod:Gv r (cC l)=0:=by
  have:zw r (cC l)=Gv r (cC l):=if_neg (not_not_intro gr);rw [<- this];exact ho
 have dU:=A2 gr;have Wb:=vF gr;have hXr:fE r (cC l)=(Q1,I1,E1):=by
  unfold vW at hX;rwa [if_neg (not_not_intro ho)] at hX
 have Sd:∀ (n:Nat) (Q:Ro) (IX E:Int),fE r ((cC l).take n)=(Q,IX,E)->(E≠0->Q=Ro.nil)/\(E=0->∃ q,Q=r.wp q/\jh r q):=fun n Q IX E e=>by
  refine ⟨fun hE=>?_,fun hE=>?_⟩
  ·unfold fE at e;split at e
   ·injection e with _ e
    injection e with _ e
    exact absurd e.symm hE
   ·injection e with e _
    exact e.symm
  ·obtain ⟨e1,e2⟩:=KW e hE;obtain ⟨q,hq⟩:=Ez gr (hO.take n) _ (Zy _) e2;exact ⟨q,e1.trans hq.eq,hq.val⟩
 have Se:=Sd (cC l).length Q1 I1 E1 (by rw [ZK];exact hXr);have cZ:∀ {Q:Ro} {E:Int},(E≠0->Q=Ro.nil)/\(E=0->∃ q,Q=r.wp q/\jh r q)->jv Q:=fun {Q E} hg=>by
  by_cases hE:E=0
  ·obtain ⟨q,rfl,hv⟩:=hg.2 hE;exact QT gr Oi hv
  ·rw [hg.1 hE];exact ⟨Zi _,Zi _,Zi _,Zi _⟩
 have Ib:jv Q1:=cZ Se;rw [gr] at hcr;rw [hod] at Dp
 (refine Jt<|Jr<|ab (cm kr) I<|ai bM I (fun w' aB=>(hcr (Mem.keeps aB)))<|Ja I<|Jn<|Jq<|Jr<|Jv I<|JC I<|Jn<|Jd I fun az=>Jg<|ab (cm kr) I<|Jv I<|ai bb I (fun w' aB=>(Dp (Mem.keeps aB)))<|Ja I<|Ji<|Jv I<|Ja I<|Ji<|Ja I<|Ji<|Jz I I fun _ _=>Ji<|Ja I<|Jn<|Jq<|Jr<|Jv I<|JC I<|Jn<|Jd I fun az=>Jr<|ab (cm tt) I<|Jv I ?_)
 rename_i On Ye;refine JN bb I (fun w1 aT=>RM (L:=cC l) I hXr (h.keeps aT.keeps) gr Oi (Rd.keeps hw aT.keeps) (hM.keeps aT.keeps) hO) ?_;rintro ⟨s8,d8,t8,p8⟩ _
 try dsimp only [id_eq,Zb,Za]
 refine iC (r:=Q1) (s:=s8) (d:=d8) (t:=t8) (p:=p8) (bo _ _) fun ma8 mb8 mc8 md8=>?_
 (refine Jv I<|JJ I I<|JJ I I<|JJ I I<|ao (.of I) (.of I) dD I I (eF I I ma8 mb8 mc8 md8) (bz I) ak<|Ja I<|Ja I<|Jn ?_)
 with_reducible refine cY 8 (by kernel_rfl) ?_
 (refine ar (cm u5) I<|ar k6 I<|ar (gX kF) I<|aX bb I (fun w' aB=>(uX (Mem.keeps aB)))<|ar k6 I<|ar (gX kF) I<|aX ef I (fun w' aB=>(r7 v 0 10000000 w'))<|eC (aG (.o I (.o I .nil)) I I I I) I I ?_)
 with_reducible refine dA I fun bq ml=>?_
 by_cases oK:aZ [oL r de,fK v 0 10000000]=0
 rotate_left
 ·have abP:Ex r de v≠0:=oK;have MP:E3=aZ [oL r de,fK v 0 10000000]:=by rw [<- Su];unfold oI;rw [if_neg (not_not_intro ho),if_pos abP];rfl
  have Sn:X3=[]:=by rw [<- Yk];exact if_pos (by rw [Su,MP];exact oK)
  (refine ai bM I (fun w' aB=>(jG (Mem.dz aB .here I I) (bY.cons (bY.cons bY.nil))))<|Ja I<|Jn<|Jq<|Jr<|Jv I<|JC I<|Jn<|Jc I fun az=>Jk<|Jr<|ab (cm tt) I<|Jv I<|Jv I<|ab (cm (.there .here)) I ?_)
  with_reducible apply ai
  case hr=>exact mi
  case hd=>rfl
  case hc=>
   intro w1 aT;have oA:RR w1 (Q1) s6 d6 t6 p6:=⟨cG aT IF I,cI aT ju I,cF aT lL I,ct aT u5 I⟩;have lo:RR w1 (Q1) s8 d8 t8 p8:=⟨cG aT bL I,cI aT cX I,cF aT dD I,ct aT eu I⟩;have tp:=nC oA Ib lo I Se.1 (fun _=>rfl)
   exact tp
  (refine Jv I<|JK I I<|Jv I<|JK I I<|Jv I<|JK I I<|ab (lC (.of I) (.of I) I) I<|ab (fV (.of I) (.of I) (.of I) I) I<|Jv I<|JK I I<|Jv I<|JK I I<|Jv I<|JK I I<|Jv I<|JK I I<|Jv I<|JK I I ?_)
  with_reducible apply ai
  case hr=>exact mi
  case hd=>rfl
  case hc=>
   intro w1 aT;have oA:Rd w1 xs 1 (gi X3):=dS (E:=9) aT kr I;have lo:Rd w1 (.z) 1 (gi ([])):=Rd.nil w1 1;have tp:=sy oA lo MP (fun _=>Sn) (fun q=>absurd q oK)
   exact tp
  (refine ab (fV (.of I) (.of I) (.of I) I) I<|Ja I<|Jn<|Je<|JT ?_)
  rfl
 obtain ⟨Q2,I2,E2,hX2⟩:∃ Q o E,fE r ((cC l).take (fU (cC l) v))=(Q,o,E):=⟨_,_,_,rfl⟩;have hN:cC (rR l v)=(cC l).take (fU (cC l) v):=by rw [Tf,Eh hO]
 have X2:=Sd _ _ _ _ hX2;have MP:E3=E2:=by rw [<- Su];unfold oI;rw [if_neg (not_not_intro ho),if_neg (not_not_intro (show Ex r de v=0 from oK)),hX2]
 (refine ai bM I (fun w' aB=>(jG (Mem.dz aB .here I I) (bY.cons (bY.cons bY.nil))))<|Ja I<|Jn<|Jq<|Jr<|Jv I<|JC I<|Jn<|Jd I fun az=>Jr<|Jz I I fun _ _=>Jn<|Jq ?_)
 rename_i YX ac4;refine dM [bE YX (.cells #[.q 0,.q 0,.z,.z,.z,.z] 27 (0,0)),bE On (.cells #[.q (Q1).lv,.q (Q1).ma,s8,d8,t8,p8] 27 (0,0)),row 118 2 s8 (Q1).sr.length (ko (Q1).sr),row 88 3 d8 (Q1).de.length (jt (Q1).de),row 122 3 t8 (Q1).ti.length (kz (Q1).ti),row 180 3 p8 (Q1).po.length (gl (Q1).po),row 9 1 (xs) (X3.length) (aR (X3)),bE b7 (.cells #[.q (Q1).lv,.q (Q1).ma,s6,d6,t6,p6] 41 (0,0)),J1 (Q1) s6,J2 (Q1) d6,J3 (Q1) t6,J4 (Q1) p6,JQ b3 r s d t p,bE b5 (.cells #[.q v,.string so,.string de] 29 (0,0))] (by exact .h1 (.cons (.there .here) (.cons (.there .here) (.cons (.there .here) (.cons (.there .here) (.cons (.there .here) (.cons (.there .here) (.cons (.there .here) (.cons (.there .here) (.cons (.there .here) (.cons (.there .here) (.cons (.there .here) (.cons (.there .here) (.cons (.there .here) .nil)))))))))))))) ?_
 with_reducible refine nr 10 [8,9] (by kernel_rfl) (Zq.2 ⟨mH I (by kernel_rfl) (by kernel_rfl),Zq.2 ⟨mH I (by kernel_rfl) (by kernel_rfl),fun _ h=>absurd h Zo⟩⟩) ?_
 (refine au (fun β=>(bK (.of I) kF ak (by rfl))) bh I<|au (fun β=>(aP (.of I))) bh I<|au (fun β=>(aq (.of I) ae)) bh I<|au (fun β=>(ag (.of I) (At.lit IG I))) bh I ?_)
 dsimp only [Nat.zero_add,Nat.reduceAdd]
 with_reducible apply eB (ι:=Value) (Φ:=fun _=>True) (val:=fun x=>x) (own:=fun x=>[row 105 2 x (rR l v).length (kQ (rR l v)).flatten]) (g:=id) (B:=[]) (args:=fun _=>[.slice a l.length cp,.q v])
 case hg=>exact fun x=>⟨x,I⟩
 case hB=>rfl
 case hr=>exact fun β=>a7 (.of I) (.o I (.o I .nil)) inferInstance I
 case hd=>rfl
 case hc=>exact fun β w' hb=>OD v (Rd.keeps hw hb.mem.keeps) (hM.keeps hb.mem.keeps) Fa
 dsimp only [id_eq,Nat.reduceAdd]
 with_reducible apply eB (ι:=Value×Value×Value×Value) (Φ:=fun _=>True) (val:=fun x=>.tuple #[.agg #[.q Q2.lv,.q Q2.ma,x.1,x.2.1,x.2.2.1,x.2.2.2],.q I2,.q E2]) (own:=fun x=>nQ Q2 x) (g:=g4) (B:=[4]) (args:=fun β=>[.agg #[.q r.lv,.q r.ma,s,d,t,p],β 4])
 case hg=>exact pJ
 case hB=>kernel_rfl
 case hr=>exact fun β=>a7 (.of I) (.o I (.o I .nil)) inferInstance I
 case hd=>rfl
 case hc=>
  intro β w' hb;have m1:=hb.at 4 Zu I;dsimp only at m1;have m5:Rd w' (β 4) 2 (kQ (rR l v)):=LB (E:=105) m1 .here I;exact RM hN hX2 (h.keeps hb.mem.keeps) gr Oi m5 ((Tg hM v).keeps hb.mem.keeps) (hO.take _)
 dsimp only [Nat.reduceAdd]
 with_reducible apply au (F:=fun β=>.tuple #[.agg #[.q Q2.lv,.q Q2.ma,(g4 (β 5)).1,(g4 (β 5)).2.1,(g4 (β 5)).2.2.1,(g4 (β 5)).2.2.2],.q I2,.q E2])
 case hr=>(intro β;exact aP (.of I))
 case hi=>exact fun β β' h=>by simp only [h 5 (by kernel_rfl)]
 case hd=>rfl
 dsimp only [Nat.reduceAdd]
 with_reducible apply au (F:=fun β=>.agg #[.q Q2.lv,.q Q2.ma,(g4 (β 5)).1,(g4 (β 5)).2.1,(g4 (β 5)).2.2.1,(g4 (β 5)).2.2.2])
 case hr=>(intro β;exact dJ (.of I) I)
 case hi=>exact fun β β' h=>by simp only [h 5 (by kernel_rfl)]
 case hd=>rfl
 dsimp only [Nat.reduceAdd]
 with_reducible apply au (F:=fun β=>.q I2)
 case hr=>(intro β;exact dJ (.of I) I)
 case hi=>exact bh
 case hd=>rfl
 dsimp only [Nat.reduceAdd]
 with_reducible apply au (F:=fun β=>.q E2)
 case hr=>(intro β;exact dJ (.of I) I)
 case hi=>exact bh
 case hd=>rfl
 dsimp only [Nat.reduceAdd];refine eS fun β=>?_;unfold nQ;dsimp only [dY,Za,Zb,List.append_eq,Nat.reduceAdd];generalize β 4=xu;obtain ⟨s9,d9,t9,p9⟩:=g4 (β 5);clear β;dsimp only;refine iC (r:=Q2) (s:=s9) (d:=d9) (t:=t9) (p:=p9) (by unfold nQ;dsimp only;exact .cons (.there .here) (.cons (.there .here) (.cons (.there .here) (.cons (.there .here) .nil)))) fun ma9 mb9 mc9 md9=>?_;refine bI (rs:=[10]) (by kernel_rfl) (by simp) (Zq.2 ⟨?_,fun _ h=>absurd h Zo⟩);refine bP I ?_
 (refine ao (.of I) (.of I) eu I I (eF I I ma9 mb9 mc9 md9) (bz I) ak<|Jn ?_)
 refine bI (rs:=[11]) (by kernel_rfl) (by simp) (Zq.2 ⟨?_,fun _ h=>absurd h Zo⟩);refine bP I ?_;refine Ja I<|Jn ?_
 with_reducible refine cu (by kernel_rfl) ?_
 refine dM [bE YX (.cells #[.q (Q2).lv,.q (Q2).ma,s9,d9,t9,p9] 27 (0,0)),row 118 2 s9 (Q2).sr.length (ko (Q2).sr),row 88 3 d9 (Q2).de.length (jt (Q2).de),row 122 3 t9 (Q2).ti.length (kz (Q2).ti),row 180 3 p9 (Q2).po.length (gl (Q2).po),bE On (.cells #[.q (Q1).lv,.q (Q1).ma,s8,d8,t8,p8] 27 (0,0)),row 118 2 s8 (Q1).sr.length (ko (Q1).sr),row 88 3 d8 (Q1).de.length (jt (Q1).de),row 122 3 t8 (Q1).ti.length (kz (Q1).ti),row 180 3 p8 (Q1).po.length (gl (Q1).po),row 9 1 (xs) (X3.length) (aR (X3)),bE b7 (.cells #[.q (Q1).lv,.q (Q1).ma,s6,d6,t6,p6] 41 (0,0)),J1 (Q1) s6,J2 (Q1) d6,J3 (Q1) t6,J4 (Q1) p6,JQ b3 r s d t p,bE b5 (.cells #[.q v,.string so,.string de] 29 (0,0))] (by exact .h5 (.cons (.there .here) (.cons (.there .here) (.cons (.there .here) (.cons (.there .here) (.cons (.there .here) (.cons (.there .here) (.cons (.there .here) (.cons (.there .here) (.cons (.there .here) (.cons (.there .here) (.cons (.there .here) (.cons (.there .here) (.cons (.there .here) .nil)))))))))))))) ?_;by_cases U7:E2=0
 rotate_left
 ·have Sn:X3=[]:=by rw [<- Yk];exact if_pos (by rw [Su,MP];exact U7)
  (refine Jt<|Jr<|Jv I<|JC I<|Jn<|Jc I fun az=>Jk<|Jr<|ab (cm u5) I<|Jv I<|Jv I<|ab (cm eu) I ?_)
  with_reducible apply ai
  case hr=>exact mi
  case hd=>rfl
  case hc=>
   intro w1 aT;have oA:RR w1 (Q1) s6 d6 t6 p6:=⟨cG aT kF I,cI aT IG I,cF aT yN I,ct aT ji I⟩;have lo:RR w1 (Q1) s8 d8 t8 p8:=⟨cG aT kr I,cI aT tt I,cF aT IF I,ct aT ju I⟩;have tp:=nC oA Ib lo I Se.1 (fun _=>rfl)
   exact tp
  (refine Jv I<|JK I I<|Jv I<|JK I I<|Jv I<|JK I I<|ab (lC (.of I) (.of I) I) I<|ab (fV (.of I) (.of I) (.of I) I) I<|Jv I<|JK I I<|Jv I<|JK I I<|Jv I<|JK I I<|Jv I<|JK I I<|Jv I<|JK I I ?_)
  with_reducible apply ai
  case hr=>exact mi
  case hd=>rfl
  case hc=>
   intro w1 aT;have oA:Rd w1 xs 1 (gi X3):=dS (E:=9) aT lL I;have lo:Rd w1 (.z) 1 (gi ([])):=Rd.nil w1 1;have tp:=sy oA lo MP (fun _=>Sn) (fun q=>absurd q U7)
   exact tp
  (refine ab (fV (.of I) (.of I) (.of I) I) I<|Ja I<|Jn<|Je<|JT ?_)
  rfl
 obtain ⟨q2,lo,hv2⟩:=X2.2 U7;have hdE:oL r de=0:=cz.1 oK _ Zu;have Oe:=Vp hdE;have hne:de≠⟨#[]⟩:=Wb.ne (.inr (.inl Oe));have aco:Q2.lv<=1000000:=by rw [lo];have:=dU.lim;show r.lv<=1000000;omega
 have QB:gy Q2=0:=by rw [lo];exact BD gr hv2
 have Sn:X3=mO Q2 de:=by
  rw [My QB hne,<- Yk];unfold q7;rw [if_neg (by rw [Su,MP];exact not_not_intro U7),hX2]
 (refine Jt<|Jr<|Jv I<|JC I<|Jn<|Jd I fun az=>Jg<|ab (cm .here) I<|bJ I I ae<|JL I (.there mB) I ?_)
 refine JN bb I (fun w1 aT=>UU (r:=Q2) (s:=s9) (d:=d9) (t:=t9) (p:=p9) de hne aco ⟨cG aT (by exact Take.there .here) I,cI aT bL I,cF aT cX I,ct aT dD I⟩) ?_;rintro xh _
 try dsimp only [id_eq,Zb,Za]
 (refine Ja I<|Ji<|ab (cm kF) I<|Jv I<|Jv I<|ab (cm kr) I ?_)
 skip
 with_reducible apply ai
 case hr=>exact mi
 case hd=>rfl
 case hc=>
  intro w1 aT;have oA:RR w1 (Q1) s6 d6 t6 p6:=⟨cG aT IG I,cI aT yN I,cF aT ji I,ct aT mB I⟩;have lo:RR w1 (Q1) s8 d8 t8 p8:=⟨cG aT tt I,cI aT IF I,cF aT ju I,ct aT lL I⟩;have tp:=nC oA Ib lo I Se.1 (fun _=>rfl)
  exact tp
 (refine Jv I<|JK I I<|Jv I<|JK I I<|Jv I<|JK I I<|ab (lC (.of I) (.of I) I) I<|ab (fV (.of I) (.of I) (.of I) I) I<|Jv I<|JK I I<|Jv I<|JK I I<|Jv I<|JK I I<|Jv I<|JK I I<|Jv I<|JK I I ?_)
 with_reducible apply ai
 case hr=>exact mi
 case hd=>rfl
 case hc=>
  intro w1 aT;have oA:Rd w1 xs 1 (gi X3):=dS (E:=9) aT u5 I;have lo:Rd w1 (xh) 1 (gi (mO Q2 de)):=dS (E:=9) aT (by exact .here) I;have tp:=sy oA lo MP (fun q=>absurd U7 q) (fun _=>Sn)
  exact tp
 (refine ab (fV (.of I) (.of I) (.of I) I) I<|Ja I<|Jn<|Je<|JT ?_)
 rfl
end Go.Proofs.A1
