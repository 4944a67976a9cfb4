/- Parts of the proof: P6h GkPoolK MJ MK MP PW MQ MR MS PV MT P6i WH NA NB P6k PF NC PO ND. -/
import Derived.Test.YteonnodafmegaaaGreatDoorPM14
import Derived.Test.YteonnodafmegaaaGreatDoorPM10
import Derived.Test.YteonnodafmegaaaGreatDoorPM04
import Derived.Test.YteonnodafmegaaaGreatDoorPM08
import Derived.Test.YteonnodafmegaaaGreatDoorPM06
import Derived.Test.YteonnodafmegaaaGreatDoorPM12
import Derived.Test.YteonnodafmegaaaGreatDoorPM13
import Derived.Test.YteonnodafmegaaaGreatDoorPM11
set_option linter.unusedSectionVars false
set_option linter.unusedVariables false
set_option linter.unusedSimpArgs false
namespace Go.Proofs.A1
open Go Go.SL
theorem I3 (r:Ro) (q:List Po) (v:Int) (po:List Po):∀ i,xR (r.wp q) v i po=xR r v i po
 | 0=>rfl
 | i+1=>by rw [xR,xR,I3 r q v po i];rfl
theorem IZ (r:Ro) (q:List Po) (po:List Po):∀ k,B5 (r.wp q) k po=B5 r k po
 | 0=>rfl
 | k+1=>by rw [B5,B5,IZ r q po k,I3];rfl
theorem JO (r:Ro) (q:List Po) (po:List Po):∀ n,ye (r.wp q) n po=ye r n po
 | 0=>rfl
 | n+1=>by rw [ye,ye,JO r q po n,IZ];rfl
variable {po:List Po} {r:Ro}
theorem Mm (h:rS r) (l:List Tk):ye r 6 (jn r l l.length)=oR r l:=by
 unfold oR;have e:=jh r l l.length;refine NT h.wJ (by rw [e];exact h.val.acy.sub _) fun p hp=>?_;rw [e] at hp;exact h.val.Li p (Zu.1 hp).1
theorem XX (h:∀ p∈po,p.ip≠⟨#[]⟩) (v:Int) (x:ByteArray):(eD po v x).getD ⟨#[]⟩=⟨#[]⟩↔gI po v x=false:=by
 unfold gI;cases e:eD po v x with
 | none=>simp
 | some i =>
  obtain ⟨p,hp,_,_,rfl⟩:=fC e;simpa using h p hp
theorem yO (r:Ro) (v:Int):∀ (p:List Nat) (po:List Po) (x:ByteArray) (i:Nat),gY r v po x (p++[i])=(if gI (gY r v po x p).1 v (dq r i) then (gY r v po x p).1 else eJ r ⟨v,dq r i,(gY r v po x p).2⟩ (gY r v po x p).1,dq r i)
 | [],po,x,i=>rfl
 | j::p,po,x,i=>by rw [Zb,gY,gY,yO r v p]
theorem GY {v:Int} {p:List Nat} {x:ByteArray} {k:Nat} (h:k<p.length):gY r v po x (p.take (k+1))=(if gI (gY r v po x (p.take k)).1 v (dq r p[k]) then (gY r v po x (p.take k)).1 else eJ r ⟨v,dq r p[k],(gY r v po x (p.take k)).2⟩ (gY r v po x (p.take k)).1,dq r p[k]):=by
 rw [Zm h,yO]
theorem Ph {x p:Po} {l:List Po}:p∈eJ r x l↔p=x\/p∈l:=by rw [(lT r x l).mem_iff,ZQ]
theorem Pj (r:Ro) (x:Po) (l:List Po):(eJ r x l).length=l.length+1:=by rw [(lT r x l).length_eq,ZB]
theorem zZ {r:Ro} {v:Int} (hT:∀ x∈cQ r,x≠⟨#[]⟩):∀ (p:List Nat) (po:List Po) (x:ByteArray),(∀ i∈p,i<r.ti.length)->(∀ q∈po,q.ip≠⟨#[]⟩)->x≠⟨#[]⟩->(∀ q∈(gY r v po x p).1,q.ip≠⟨#[]⟩)/\(gY r v po x p).2≠⟨#[]⟩/\(gY r v po x p).1.length<=po.length+p.length
 | [],po,x,_,h1,h2=>⟨h1,h2,Zv _⟩
 | i :: p, po, x, hi, h1, h2 => by
  have hx:=hT _ (mM (hi i Zr));rw [gY];have hr:=fun j hj=>hi j (ZM _ hj)
  by_cases hb:gI po v (dq r i)=true
  ·rw [if_pos hb];obtain ⟨g1,g2,g3⟩:=zZ hT p po (dq r i) hr h1 hx;exact ⟨g1,g2,by rw [ZB];omega⟩
  ·rw [if_neg hb];obtain ⟨g1,g2,g3⟩:=zZ hT p (eJ r ⟨v,dq r i,x⟩ po) (dq r i) hr (fun q hq=>by
    rcases Ph.1 hq with e | hq
    ·rw [e];exact h2
    ·exact h1 q hq) hx
   exact ⟨g1,g2,by rw [Pj] at g3;rw [ZB];omega⟩
theorem a8.sub {P:Program} {f:FuncId} {args:List Value} {w:World} {fp:List Nat} {ι:Type} {Φ:ι->Prop} {val:ι->Value} {own:ι->List bd} (h:a8 P f args w fp Φ val own):a8 P f args w fp (fun _:{x:ι // Φ x}=>True) (fun x=>val x.1) (fun x=>own x.1):=
 Calls.mono h fun e w' ⟨x,he,hx,r⟩=>⟨⟨x,hx⟩,he,trivial,r⟩
end Go.Proofs.A1
namespace Go.SL
open Go
theorem zl {E:TypeId} {ws:List Value} {ys:List (List Value)}:∀ {vs:List Value} {xs:List (List Value)},vs.length=xs.length->fR E (vs++ws) (xs++ys)=fR E vs xs++fR E ws ys
 | [],[],_=>rfl
 | [],_::_,h=>by simp at h
 | _::_,[],h=>by simp at h
 | v' :: vs, x' :: xs, h => by
  simp only [ZB,Nat.add_right_cancel_iff] at h;simp only [Zb,fR,zl h]
section
variable {P:Program} {c:Cx} {D:List Nat} {sl:aN} {hs:List bd} {X:Act->World->Prop}
theorem Cd {E:TypeId} {vs ws:List Value} {xs ys:List (List Value)} {h1 h2:List bd} (ht:Take hs (iM E vs xs) h1) (ht2:Take h1 (iM E ws ys) h2) (hl:vs.length=xs.length)
  (k:Tr c D sl (iM E (vs++ws) (xs++ys)::h2) X):Tr c D sl hs X:=fun a w bb=>by
 have hT:bj hs [iM E vs xs,iM E ws ys] h2:=.cons ht (.cons ht2 .nil);have hm:=bb.mem.jA (hT.append (nF D));obtain ⟨kk,fp,uy,⟨f1,f2',rfl,g1,⟨f2,f3,rfl,g2,g3⟩⟩,hb⟩:=hm;refine k a w (bb.heap ⟨kk,(f1++f2)++f3,by rw [Zh];exact uy,⟨f1++f2,f3,I,?_,g3⟩,by rw [Zh];exact hb⟩);show cy (hp w) (fR E (vs++ws) (xs++ys)) (f1++f2);rw [zl hl];exact cy.append_iff.2 ⟨f1,f2,I,g1,g2⟩
end
end Go.SL
namespace Go.Proofs.A1
open Go Go.SL
open Tryz
open Tryz renaming prog->T_
structure mr (gp:List Value) (W:List (List ByteArray)) (bv:Value) (B:List ByteArray) (vs:List Value) (xs:List (List Value)):Prop where
 len:gp.length=W.length
 pl:vs.length=xs.length
 rd:∀ (i:Nat) (x:Value) (L:List ByteArray),gp[i]? = some x->W[i]? = some L->(x=bv/\L=B)\/∃ j:Nat,vs[j]? = some x/\xs[j]? = some (aR L)
theorem mr.one (bv:Value) (B:List ByteArray):mr [bv] [B] bv B [] []:=⟨I,I,fun i x L hx hL=>by
 cases i with
 | zero=>simp at hx hL;exact .inl ⟨hx.symm,hL.symm⟩
 | succ i=>simp at hx⟩
theorem mr.nil (bv:Value) (B:List ByteArray):mr [] [] bv B [] []:=⟨I,I,fun i x L hx _=>by simp at hx⟩
variable {L:List ByteArray} {l:List gW} {r:Ro} {v:Int} {vs:List Value} {w:World} {x:Value} {xs:List (List Value)}
theorem UN {so:ByteArray} {p:List Nat} (hp:(dJ r r.po v so).ok p) {j:Nat} (hl:p.getLast? = some j):(dJ r r.po v so).fin p=(gZ r j).to:=by
 unfold Wn.fin;rw [hl];rfl
theorem FL {c:Cx} {D:List Nat} {sl:aN} {hs:List bd} {X:Act->World->Prop} {p:Prop} (h:∀ w,Mem c hs w->p) (k:p->Tr c D sl hs X):Tr c D sl hs X:=fun a w bb=>k (h w bb.pE) a w bb
theorem Hu {c:Cx} {hs hs':List bd} {E:TypeId} (hm:Mem c hs w) (ht:Take hs (iM E vs xs) hs') {j:Nat} {x:Value} {X:List Value} (h:vs[j]? = some x) (h2:xs[j]? = some X):x.oneCell'=true:=Rd.one (hm.wA ht h h2)
theorem zn:∀ l:List Value,(l.map fun u=>[u]).flatten=l
 | []=>rfl
 | x::l=>by rw [Z4,Zak,zn l];rfl
theorem pU {α β:Type} {f:α->List β} {m:Nat}:∀ l:List α,(∀ j∈l,(f j).length<=m)->(l.flatMap f).length<=l.length*m
 | [],_=>by simp
 | x :: l, h => by
  have h1:=h x Zr;have h2:=pU l fun j hj=>h j (ZM _ hj)
  rw [List.flatMap_cons,Zg,ZB,Zac];omega
theorem Wn.GU {N:Wn} {d:Int} (hn:N.n<=6):∀ (k:Nat) (p:List Nat),(N.all d k p).length<=7 ^ k
 | 0,_=>Zi _
 | k + 1, p => by
  have h1:=pU (f:=fun j=>N.all d k (p++[j])) (m:=7 ^ k) ((List.range N.n).filter (N.step p)) fun j _=>Wn.GU hn k (p++[j])
  have h2:((List.range N.n).filter (N.step p)).length<=6:=ZP (ZW _ _) (by rw [ZaB];exact hn);have h3:=Z0 (7 ^ k) h2;have h4:0<7 ^ k:=Nat.pow_pos (by decide);rw [Wn.all,Zg,Nat.pow_succ];have h5:(if N.fin p=d then [p] else []).length<=1:=by split <;> simp
  omega
theorem Fx {so de:ByteArray} (hn:r.ti.length<=6) (k:Nat) (p:List Nat):(IT r v so de k p).length<=7 ^ k:=by
 unfold IT;rw [Zd];exact Wn.GU hn k p
theorem NN {so de:ByteArray} (hn:r.ti.length<=6) (k:Nat) (p:List Nat) (i:Nat):(Sf r v so de k p i).length<=i*7 ^ k:=by
 refine ZP (pU (m:=7 ^ k) _ fun j _=>Fx hn k _) (Z0 _ ?_);exact ZP (ZW _ _) (by rw [ZaB];exact Zv _)
theorem aal {k:Nat} (h:k<=6):7 ^ k<=117649:=ZP (Nat.pow_le_pow_right (by decide) h) (by decide)
theorem mr.app {gp pf:List Value} {W W2:List (List ByteArray)} {bv mv:Value} {B M:List ByteArray} {vs UX:List Value} {xs UU:List (List Value)} (h:mr gp W bv B vs xs) (h2:mr pf W2 mv M UX UU):mr (gp++pf) (W++W2) bv B (vs++[mv]++UX) (xs++[aR M]++UU):=by
 have w9:=h.pl;refine ⟨by rw [Zg,Zg,h.len,h2.len],by simp only [Zg,h.pl,h2.pl,Z7],fun i x L hx hL=>?_⟩;by_cases hi:i<gp.length
 ·rw [Zx hi] at hx;rw [Zx (by rw [<- h.len];exact hi)] at hL;rcases h.rd i x L hx hL with e | ⟨j,e1,e2⟩
  ·exact .inl e
  ·have hj:=(Zl.1 e1).1;refine .inr ⟨j,?_,?_⟩
   ·rw [Zh,Zx hj];exact e1
   ·rw [Zh,Zx (by omega)];exact e2
 ·rw [ZC (by omega)] at hx;rw [ZC (by rw [<- h.len];omega),<- h.len] at hL;rcases h2.rd _ x L hx hL with ⟨e1,e2⟩ | ⟨j,e1,e2⟩
  ·subst e1 e2;refine .inr ⟨vs.length,?_,?_⟩
   ·rw [Zh,ZC (Zv _),Nat.sub_self];rfl
   ·rw [Zh,w9,ZC (Zv _),Nat.sub_self];rfl
  ·refine .inr ⟨vs.length+1+j,?_,?_⟩
   ·rw [ZC (by rw [Zg,Z7];omega),Zg,Z7,Zbd];exact e1
   ·rw [ZC (by rw [Zg,Z7];omega),Zg,Z7,<- w9,Zbd];exact e2
set_option maxHeartbeats 2000000 in
theorem IW {r:Ro} {s d t p':Value} (v:Int) (so de:ByteArray) (hb:fm r=0) (hs:so∈cN r) (hd:de∈cu r) (iB:(cQ r).Nodup):∀ (k:Nat) {p:List Nat} {bv:Value} {w:World},RR w r s d t p'->(dJ r r.po v so).ok p->k+p.length=r.ti.length+1->Rd w bv 1 (fN (p.map (dq r))) ->
  a8 T_ 182 [RA r s d t p',.q v,.string so,.string de,bv] w [] (fun y:Value×List Value×List Value×List (List Value)=>mr y.2.1 (IT r v so de k p) bv (p.map (dq r)) y.2.2.1 y.2.2.2) (fun y=>y.1) (fun y=>[row 32 1 y.1 y.2.1.length y.2.1,iM 9 y.2.2.1 y.2.2.2])
 | 0, p, bv, w, h, hp, hk, hl => by
  have:=Wn.ri hp;have e:(dJ r r.po v so).n=r.ti.length:=rfl;omega
 | k + 1, p, bv, w, h, hp, hk, hl => by
  have ih:=@IW r s d t p' v so de hb hs hd iB k;have dP:=yn hb;have aL:∀ i∈p,i<r.ti.length:=Wn.sq hp;have hL:∀ x∈p.map (dq r),x∈cQ r:=fun x hx=>by
   obtain ⟨i,hi,rfl⟩:=Zw.1 hx;exact mM (aL i hi)
  obtain ⟨h1,h2,h3,h4⟩:=h.one;have h5:=Rd.one hl;obtain ⟨i0,vA,ei0,em0⟩:=QR hs;have PL:∀ {w'},aI [] w w'->an T_ 130 [.agg #[.int .i64 r.lv,.int .i64 r.ma,s,d,t,p'],.string so] w' (.int .i64 (i0:Nat)):=fun hk=>by rw [<- ei0];exact vE so (h.keeps hk)
  have hiw:∀ {w'},aI [] w w'->an T_ 75 [.agg #[.q r.lv,.q r.ma,s,d,t,p'],.q v,.string so,.string de,bv] w' (.bool (decide ((dJ r r.po v so).fin p=ll r de))):=fun hk=>by rw [<- Tp dP iB hs hp];exact Pe v so de (h.keeps hk) hb hs hd (Rd.keeps hl hk) hL
  have yt:∀ (o:ByteArray) {w'},aI [] w w'->an T_ 133 [.agg #[.q r.lv,.q r.ma,s,d,t,p'],.q v,.string o] w' (.string ((eD r.po v o).getD ⟨#[]⟩)):=fun o _ hk=>qz v o (h.keeps hk)
  have HR:∀ (o:ByteArray),o≠⟨#[]⟩->∀ {w'},aI [] w w'->an T_ 131 [.agg #[.q r.lv,.q r.ma,s,d,t,p'],.q v,.string o] w' (.string (jY r v o)):=fun o ho _ hk=>by rw [<- BH hb v ho];exact tR v o ho (h.keeps hk)
  have Db:=h.sr;have yq:=h.ti;have nX:=hl;obtain ⟨a1,ew,II,Iz,rfl,oO,iu,mz,kT⟩:=Db;obtain ⟨a3,dX,GP,F6,rfl,mU,gB,rP,pb⟩:=yq;obtain ⟨a4,eW,NB,Ix,rfl,q7,jF,zD,tI⟩:=nX;rw [cG] at *;rw [bS] at *;rw [bG,Zd] at *;unfold maxLen at iu gB jF;have xk:=mz (iD vA);have cS:w.cell? ⟨II,Iz+i0*2+1,none⟩=some (.int .i64 (oV r so)):=by rw [em0];exact (kT i0 _ (fW vA)).2 1 _ I
  unfold RA;refine aS func182 I I ?_;refine pg ?_;refine ny ?_;refine bh (KA (.of I) I) I (fun _ _=>?_);refine a_s I I ?_;refine vQ ?_;refine uZ ?_;refine pg ?_;refine ny ?_;refine a_s I I ?_;refine vQ ?_;refine uZ ?_;rename_i b5 HS;refine J6 (ι:=Value×List Value) (fun y=>mr y.2 (if (dJ r r.po v so).fin p=ll r de then [p.map (dq r)] else []) (.slice a4 p.length eW) (p.map (dq r)) [] []) (fun y=>[(11,y.1),(1,.q v),(2,.string so),(3,.string de),(4,.slice a4 p.length eW),(5,.p b5)]) (fun y=>[row 32 1 y.1 y.2.length y.2,JQ b5 r (.slice a1 r.sr.length ew) d (.slice a3 r.ti.length dX) p']) ?_ ?_
  ·(refine Jr<|ab (bU .here) I<|Jv I<|Jv I<|Jv I<|Jv I<|ah DS I (fun w' aB=>(hiw (Mem.keeps aB)))<|Jn<|gL I (fun aA=>?_) fun aA=>?_;refine Jg<|Jv I<|Jv I<|bh (aD (.o I .nil) I I I I) I fun _ _=>?_;rotate_left;refine Jk ?_;rotate_right)
   ·refine aJ 32 1 ?_;refine bA (.of I) (.of I) .here (.there .here) ai (by rfl) (dE I) (by rfl) (by rfl) (by rfl) eC (by rfl) ?_;intro q;refine Ja I<|Jn ?_;dsimp only [Za,Nat.zero_add]
    with_reducible apply u0 (q,[.slice a4 p.length eW]) (by rw [if_pos aA];exact mr.one _ _)
    case h1=>exact .cons I (.cons I (.cons I (.cons I (.cons I (.cons I .nil)))))
    case ht=>
     exact .h1 (.cons (.there .here) .nil)
   ·refine aJ 32 1 ?_
    with_reducible apply u0 (.z,[]) (by rw [if_neg aA];exact mr.nil _ _)
    case h1=>exact .cons I (.cons I (.cons I (.cons I (.cons I (.cons I .nil)))))
    case ht=>
     exact .h2 .nil
  rintro ⟨ov,gp⟩ hW;dsimp only at hW ⊢;refine pg ?_
  with_reducible refine cz 9 (by kernel_rfl) ?_
  (refine jH I I ae<|aq (gn (.there .here)) I<|aq (bU (.there .here)) I<|fw I I<|cW bn I (fun w' aB=>(PL (Mem.keeps aB)))<|aq (ao (.of I) (.of I) xk (by omega) (by omega) aW) I<|jH I I ae<|aq (ag (.of I) (At.base cS I)) I<|aq (cX (.of I)) I ?_)
  with_reducible refine cC ?_
  refine vQ ?_;refine uZ ?_;refine J6 (ι:=Unit) (fun _=>True) (fun _=>[(11,ov),(12,.q ((dJ r r.po v so).fin p)),(1,.q v),(2,.string so),(3,.string de),(4,.slice a4 p.length eW),(5,.p b5)]) (fun _=>[row 32 1 ov gp.length gp,JQ b5 r (.slice a1 r.sr.length ew) d (.slice a3 r.ti.length dX) p']) ?_ ?_
  ·by_cases hne:p=[]
   ·have hz:p.length=0:=by rw [hne];rfl
    have e:(dJ r r.po v so).fin p=oV r so:=by rw [hne];exact px hs
    rw [e];refine Jr<|Jv I<|JI I<|JE I<|Jn<|Jc I fun aA=>Jk ?_
    with_reducible apply u0 () trivial
    case h1=>exact .cons I (.cons I (.cons I (.cons I (.cons I (.cons I (.cons I .nil))))))
    case ht=>exact jv
   have hlp:0<p.length:=List.length_pos_iff.2 hne;have hj:=aL _ (List.getLast_mem hne);have T3:=UN hp (List.getLast?_eq_some_getLast hne);have Nw:p[p.length-1]'(by omega)=p.getLast hne:=(List.getLast_eq_getElem hne).symm;generalize p.getLast hne=j at hj T3 Nw;have IA:p.length-1<(p.map (dq r)).length:=by rw [Zd];omega
   have ab0:=zD (iU IA);have c4:w.cell? ⟨NB,Ix+((p.length:Int)-1).toNat*1,none⟩=some (.string (dq r j)):=by
    rw [show ((p.length:Int)-1).toNat=p.length-1 by omega];have:=(tI _ _ (fH IA)).2 0 _ I;rw [Z1,Nw] at this;exact this
   have Vh:∀ {w'},aI [] w w'->an T_ 60 [.agg #[.q r.lv,.q r.ma,.slice a1 r.sr.length ew,d,.slice a3 r.ti.length dX,p'],.string (dq r j)] w' (.q (j:Nat)):=fun hk=>by rw [<- sL iB hj];exact qD _ (h.keeps hk)
   have yz:=rP (fq hj);have c3:w.cell? ⟨GP,F6+j*3+2,none⟩=some (.q (gZ r j).to):=by rw [mZ hj];exact (pb j _ (ep hj)).2 2 _ I
   rw [<- T3] at c3;refine Jr<|Jv I<|JI I<|JE I<|Jn<|Jd I fun aA=>?_
   with_reducible refine cz 14 (by kernel_rfl) ?_
   (refine jH I I ae<|aq (gn (.there .here)) I<|aq (bU (.there .here)) I<|fw I I<|fw I I<|aq (cR (.of I)) I<|aq (tw (.of I) (.of I) (Re (by omega))) I<|aq (ao (.of I) (.of I) ab0 (by omega) (by omega) aW) I<|aq (ag (.of I) (At.base c4 I)) I<|cW bn I (fun w' aB=>(Vh (Mem.keeps aB)))<|aq (ao (.of I) (.of I) yz (by omega) (by omega) aW) I<|jH I I ae<|aq (ag (.of I) (At.base c3 I)) I<|aq (cX (.of I)) I ?_)
   with_reducible refine cC ?_
   refine Jn ?_
   with_reducible apply u0 () trivial
   case h1=>exact .cons I (.cons I (.cons I (.cons I (.cons I (.cons I (.cons I .nil))))))
   case ht=>exact jv
  rintro ⟨⟩ _;refine Jq<|Jr<|Ja I<|Jn<|J0 ?_;refine kE 9 ?_;refine aV (ι:=Nat×Value×List Value×List Value×List (List Value)) (fun y=>y.1<=r.ti.length/\mr y.2.2.1 ((if (dJ r r.po v so).fin p=ll r de then [p.map (dq r)] else [])++Sf r v so de k p y.1) (.slice a4 p.length eW) (p.map (dq r)) y.2.2.2.1 y.2.2.2.2) (fun y=>[(13,.int .i64 (y.1:Nat)),(11,y.2.1),(12,.int .i64 ((dJ r r.po v so).fin p)),(1,.int .i64 v),(2,.string so),(3,.string de),(4,.slice a4 p.length eW),(5,.pointer (some ⟨b5,0,none⟩))]) (fun y=>[row 32 1 y.2.1 y.2.2.1.length y.2.2.1,iM 9 y.2.2.2.1 y.2.2.2.2,JQ b5 r (.slice a1 r.sr.length ew) d (.slice a3 r.ti.length dX) p']) (fun y=>r.ti.length-y.1) ?_ ?_
  ·with_reducible apply aH (0,ov,gp,[],[]) ⟨Zi _,by rw [show Sf r v so de k p 0=[] from I,ZK];exact hW⟩
   case hs1=>exact bT
   case ht=>exact jv
  clear hW;rintro ⟨i,ov,gp,vs,xs⟩ ⟨hi,hW⟩;dsimp only at hi hW ⊢;by_cases ke:i<r.ti.length
  ·have cY:=rP (fq ke);obtain ⟨iO,aF⟩:=pb i _ (ep ke);unfold Ti.cells at aF;have te:=fun {w'}=>HR r.ti[i].nm (QM hb ke) (w':=w')
   have hhw:∀ {w'},aI [] w w'->an T_ 59 [.slice a4 p.length eW,.string r.ti[i].nm] w' (.bool (p.contains i)):=fun hk=>by
    rw [<- L5 iB aL ke,show dq r i=r.ti[i].nm by unfold dq;rw [mZ ke]];exact Bm _ (Rd.keeps hl hk)
   have g1:=Fg hb v r.ti[i].nm;have g2:=Ff hb v r.ti[i].nm;have bb:=Sz dP (v:=v) (so:=so) (p:=p) ke;have hzn:dq r i=r.ti[i].nm:=by unfold dq;rw [mZ ke]
   have U6:=IQ r v so de k p i;rw [show dq r i=r.ti[i].nm by unfold dq;rw [mZ ke],mZ ke] at bb;generalize r.ti[i]=z at aF te hhw g1 g2 bb hzn
   (refine Jq<|Jr<|Jv I<|bD I I ae<|JL I bE I<|JI I<|JA I<|Jn<|Jd I fun aA=>Jk<|Jq<|J0<|Jr<|bD I I ae<|JL I bE I<|Jv I<|ab (gE cY aA) I<|ab (ja (fo.base aF I)) I<|Jz I I fun _ _=>ak (.of I) (.of I) .here I I (fc I I I) (br I) ai<|Ji<|ab (bU cI) I<|Jv I<|bD I I ae<|JL I .here I<|ah dU I (fun w' aB=>(yt _ (Mem.keeps aB)))<|ab (gz (.of I) (.of I)) I<|Ja I<|Ji<|Jv I<|JI I<|JC I<|Jv I<|jZ I I I I<|ab (cM (.of I) I) I<|Jv I<|aM I I (fun hg bH=>(bQ (.of I) cI ai (by rfl))) I<|jZ I I I I<|aM I I (fun hg bH=>(ar (.of I) ae)) I<|aM I I (fun hg bH=>(ag (.bW hg I) (At.lit .here I))) I<|l5 I I (fun hg=>(a7 (.of I) (.cons (.bW hg I) (.cons (.bW hg I) (.cons (.bW hg I) .nil))) inferInstance gF)) I (fun hg w' aB=>(te (Mem.keeps aB)))<|jZ I I I I<|aM I I (fun hg bH=>(dD (.bW hg I) (.bW hg I))) I<|ab (cM (.of I) I) I<|Ja I<|Ji<|Jv I<|bD I I ae<|JL I .here I<|ah bn I (fun w' aB=>(hhw (Mem.keeps aB)))<|JH I<|Jv I<|jZ I I I I<|aM I I (fun hg bH=>(aQ (.bW hg I))) I<|gV I I (fun hg bH=>(aQ (.of I))) I<|gV I I (fun hg bH=>(fu (.bW hg I))) I<|gV I I (fun hg bH=>(aQ (.bW hg I))) I<|gV I I (fun hg bH=>(ar (.of I) ae)) I<|gV I I (fun hg bH=>(ag (.bW hg I) (At.lit .here I))) I<|gV I I (fun hg bH=>(aQ (.of I))) I<|gV I I (fun hg bH=>(oh (.bW hg I) (.bW hg I))) I<|gV I I (fun hg bH=>(jg hg (.bW hg I) I)) I<|aM I I (fun hg bH=>(kX hg (.bW hg I) I)) I<|ab (cM (.of I) I) I<|Jn<|oK I (fun aA=>?_) fun aA=>?_;refine Jq ?_;rotate_left;refine Jw<|Jj<|Jt<|Jg<|Jv I<|JB I (by omega)<|Ja I<|Jn ?_;rotate_right)
   ·have hz:(dJ r r.po v so).step p i=true:=by
     rw [bb];obtain ⟨q0,hq⟩:=aA;rw [q0];rcases hq with ⟨⟨q1,q2⟩,q3⟩ | ⟨q1,q2⟩
     ·have:p.isEmpty=true:=by rw [List.isEmpty_iff_length_eq_zero];omega
      rw [this,g1.1 q2,decide_eq_true q3];rfl
     ·rw [g2.1 (Zq.1 q1),decide_eq_true q2];simp
    rw [hz,if_pos I] at U6;have hlen:(fN (p.map (dq r))).length=p.length:=by rw [bG,Zd]
    have YG:r.ti.length<=6:=dP.len.2.2;have Bc:=Wn.jI.2 ⟨hp,hz⟩;have Rs:=Fx (v:=v) (so:=so) (de:=de) YG k (p++[i]);have PN:=NN (v:=v) (so:=so) (de:=de) YG k p i;have W6:=aal (k:=k) (by omega);have hf4:i*7 ^ k<=6*117649:=Nat.mul_le_mul (by omega) W6;have hf5:(if (dJ r r.po v so).fin p=ll r de then [p.map (dq r)] else []).length<=1:=by split <;> simp
    have hv1:gp.length<=1000000:=by have:=hW.len;rw [Zg] at this;omega
    have uu:dq r i=z.nm:=hzn
    with_reducible refine KR.Cg 8 (j6 [(0,2),(2,6)]) (by kernel_rfl) ?_
    refine KR.vJ (fun β=>(aD .nil I I I I)) (fun _ _ _=>rfl) I I ?_;refine KR.jK (fun β=>(aQ (.of I))) q6 I I ?_;dsimp only [Nat.zero_add,Nat.reduceAdd]
    with_reducible apply KR.zS (jx:=0) (n0:=0) (xs:=[]) (news:=fN (p.map (dq r))) (Vx:=fun β=>.slice (some ⟨eu (β 0),0,none⟩) 0 0) (Vy:=fun _=>.slice a4 p.length eW) (Ax:=fun β=>[bu (eu (β 0)) (.cells #[] 9 (0,0))]) (B:=[])
    case hB=>rfl
    case hS=>rfl
    case hrow=>
     rintro β w' fp ⟨f1,f2,e,⟨h,h'⟩,h0⟩;obtain rfl:f2=[]:=h0;rw [e,h];exact ⟨I,I,.inr ⟨eu (β 0),0,#[],I,h',Zv _,Zi _,I,I⟩⟩
    case htk=>exact qn I I
    case hti=>rfl
    case h0=>rfl
    case hwx=>kernel_rfl
    case hx=>exact fun β=>.of I
    case hy=>exact fun β=>.of I
    case hsrc=>exact fun β w' hb=>Rd.keeps hl hb.mem.keeps
    case h1=>exact u9 _
    case hz=>rfl
    case hsz=>rfl
    case hb0=>rfl
    case hb=>rw [hlen];omega
    case hd=>rfl
    rw [<- ph,hlen,ZF,Za];dsimp only [Nat.reduceAdd];refine KR.jK (fun β=>(ar (.of I) ae)) q6 I I ?_;refine KR.jK (fun β=>(ag (.of I) (At.lit .here I))) q6 I I ?_;refine KR.vJ (fun β=>(aD (.o I .nil) I I I I)) (fun _ _ _=>rfl) I I ?_;dsimp only [Nat.reduceAdd]
    with_reducible apply KR.zS (jx:=2) (n0:=p.length) (xs:=aR (p.map (dq r))) (news:=[[.string z.nm]]) (Vx:=fun β=>β 2) (Vy:=fun β=>.slice (some ⟨eu (β 5),0,none⟩) 1 1) (Ax:=fun β=>[row 9 1 (β 2) p.length (aR (p.map (dq r)))]) (B:=[5])
    case hB=>kernel_rfl
    case hS=>rfl
    case hrow=>exact fun β w' fp ⟨f1,f2,e,h,h0⟩=>by obtain rfl:f2=[]:=h0;rw [e,ZK];exact h
    case htk=>exact qn I I
    case hti=>rfl
    case h0=>rfl
    case hwx=>kernel_rfl
    case hx=>exact fun β=>.of I
    case hy=>exact fun β=>.of I
    case hsrc=>
     intro β w' hb;have m6:=hb.at 5 (by simp) (s:=⟨fun β=>.slice (some ⟨eu (β 5),0,none⟩) 1 1,fun β=>[bu (eu (β 5)) (.cells #[.string z.nm] 9 (0,0))]⟩) (by kernel_rfl)
     dsimp only [Zb,Za] at m6;exact Mem.dy m6 (by exact .here) I I
    case h1=>
     intro r' Ns u hu;simp only [ZD] at Ns;subst Ns;simp only [ZD] at hu;subst hu;rfl
    case hz=>rfl
    case hsz=>rfl
    case hb0=>rfl
    case hb=>simp only [Z7];omega
    case hd=>rfl
    rw [show ([[Value.string z.nm]]:List (List Value)).flatten=[.string z.nm] from I,show ([[Value.string z.nm]]:List (List Value)).length=1 from I];dsimp only [Nat.reduceAdd];have YD:aR (p.map (dq r))++[.string z.nm]=aR ((p++[i]).map (dq r)):=by rw [Zy,eU,List.map_singleton,uu];rfl
    rw [YD]
    with_reducible apply KR.jK (F:=fun β=>β 6)
    case hr=>(intro β;exact cX (.of I))
    case hi=>exact fun β β' h=>by simp only [h 6 (by kernel_rfl)]
    case hd=>rfl
    case hn=>rfl
    refine KR.M1 fun β=>?_;have w9:p.length+1=(p++[i]).length:=by rw [Zg];rfl
    rw [w9];change Tr _ _ _ [bu (eu (β 5)) (.cells #[.string z.nm] 9 (0,0)),row 9 1 (β 6) (p++[i]).length (aR ((p++[i]).map (dq r))),bu _ (.cells #[.string z.nm,.q z.fr,.q z.to] 122 (0,0)),row 32 1 ov gp.length gp,iM 9 vs xs,JQ b5 r (.slice a1 r.sr.length ew) d (.slice a3 r.ti.length dX) p'] _;generalize β 6=mv;generalize eu (β 5)=b6
    with_reducible refine wU (by kernel_rfl) ?_
    refine aK (E:=9) (sz:=1) (v:=mv) (by exact Take.there .here) fun ma mc e=>?_;subst e
    (refine Jt<|Jg<|Jv I<|ab (bU ek) I<|Jv I<|Jv I<|Jv I<|Jv I ?_)
    with_reducible apply jd
    case hr=>exact DS
    case hd=>rfl
    case ht=>exact bj.nil
    case hc=>
     intro w1 fp aT _ hs1;obtain rfl:fp=[]:=hs1;have hrd:Rd w1 (.slice ma (p++[i]).length mc) 1 (fN ((p++[i]).map (dq r))):=ez (E:=9) aT (by exact Take.there .here) (by rw [Zd]);exact ih (p:=p++[i]) (h.keeps aT.keeps) Bc (by rw [Zg,Z7];omega) hrd
    rintro ⟨QZ,pf,UX,UU⟩ Xo
    try dsimp only [id_eq,Zb,Za] at Xo ⊢
    have hv2:pf.length<=117649:=by have:=Xo.len;omega
    refine FL (p:=∀ u∈pf,u.oneCell'=true) (fun w' aB u hu=>by
     obtain ⟨j,hj,rfl⟩:=ZA hu;have Ry:=Xo.len;rcases Xo.rd j _ _ (Zc hj) (Zc (by omega)) with ⟨e,_⟩ | ⟨m,e1,e2⟩
     ·rw [e];rfl
     ·exact Hu (E:=9) (vs:=UX) (xs:=UU) aB (by exact Take.there .here) e1 e2) fun iO=>?_
    refine lZ (E:=9) (vs:=vs) (xs:=xs) nR (v:=.slice ma (p++[i]).length mc) (x:=aR ((p++[i]).map (dq r))) (n:=(p++[i]).length) cI (by rw [dx,Zd]) hW.pl ?_;refine Cd (E:=9) (vs:=vs++[.slice ma (p++[i]).length mc]) (ws:=UX) (by exact .here) (by exact Take.there .here) (by simp only [Zg,Z7,hW.pl]) ?_;have hWn:=mr.app hW Xo;rw [Zh,<- U6] at hWn
    with_reducible apply eX (n:=gp.length) (xs:=gp) (news:=pf.map fun u=>[u])
    case hx=>exact Is.of I
    case hy=>exact Is.of I
    case ht=>exact c7
    case hsrc=>exact fun w' aB=>aB.KD (E:=32) (n:=pf.length) (ys:=pf) (v:=QZ) (by exact Take.there .here) I
    case h1=>
     intro r' Ns u hu;obtain ⟨y,hy,rfl⟩:=Zw.1 Ns;simp only [ZD] at hu;subst hu;exact iO _ hy
    case hz=>rfl
    case hsz=>rfl
    case hb0=>rfl
    case hb=>rw [Zd];omega
    case hd=>rfl
    intro v';rw [zn,Zd];refine Ja I<|Jx<|Jj<|Jt<|Jg<|Jv I<|JB I (by omega)<|Ja I<|Jn ?_;have nI:gp.length+pf.length=(gp++pf).length:=(Zg).symm;rw [nI]
    with_reducible apply aG (i+1,v',gp++pf,vs++[.slice ma (p++[i]).length mc]++UX,xs++[aR ((p++[i]).map (dq r))]++UU) ⟨Z6 ke,hWn⟩ (show r.ti.length-(i+1)<r.ti.length-i by omega)
    case hs1=>exact bT
    case ht=>exact jv
   have hz:(dJ r r.po v so).step p i=false:=by
    rw [bb];rcases aA with q | ⟨q1,q2⟩
    ·rw [q];rfl
    ·cases eb:gI r.po v z.nm
     ·have q3:¬ z.fr=(dJ r r.po v so).fin p:=q2.resolve_left fun q=>by rw [g1.1 q] at eb;cases eb
      rw [decide_eq_false q3];simp
     ·have q4:¬ p=[]\/¬ jY r v z.nm=so:=q1.imp (fun q=>q.elim (fun q0 e=>by rw [e] at q0;exact q0 I) (fun q0=>absurd (g1.2 eb) q0)) id
      rcases q4 with q | q
      ·have:p.isEmpty=false:=by cases p with | nil=>exact absurd I q | cons=>rfl
       rw [this];simp
      ·rw [decide_eq_false q];simp
   rw [hz,if_neg (by decide),ZK] at U6
   with_reducible apply aG (i+1,ov,gp,vs,xs) ⟨Z6 ke,(show mr gp (_++Sf r v so de k p (i+1)) _ _ vs xs by rw [U6];exact hW)⟩ (show r.ti.length-(i+1)<r.ti.length-i by omega)
   case hs1=>exact bT
   case ht=>exact jv
  obtain rfl:i=r.ti.length:=by omega
  (refine Jq<|Jr<|Jv I<|bD I I ae<|JL I bE I<|JI I<|JA I<|Jn<|Jc I fun aA=>Jp<|Jl<|Jo<|Jt<|Jr<|Jv I<|Ja I<|Jn<|Je ?_)
  with_reducible first|apply aO|apply aP
  case he=>exact dN I I
  case hR=>
   intro w' aB;exact aC (ov,gp,vs,xs) (by rw [IS];exact hW) (by exact .h2 .nil) aB I
theorem xH {α:Type} (lt:α->α->Bool):∀ (l:List α) (b x:α),km lt b (l++[x])=if lt x (km lt b l) then x else km lt b l
 | [],_,_=>rfl
 | y::l,b,x=>by rw [Zb,km,km,xH lt l]
def SU (r:Ro) (v:Int) (so de:ByteArray):List ByteArray:=((ln r v so de).getD []).map (dq r)
def OI (r:Ro) (v:Int) (so de:ByteArray):Int:=if (ln r v so de).isNone then 18 else 0
def Sa (x:Value) (L:List ByteArray) (vs:List Value) (xs:List (List Value)):Prop:=(x=.z/\L=[])\/∃ j:Nat,vs[j]? = some x/\xs[j]? = some (aR L)
theorem Mem.F2 {c:Cx} {hs hs':List bd} (hm:Mem c hs w) (ht:Take hs (iM 9 vs xs) hs') (h:Sa x L vs xs):Rd w x 1 (fN L):=by
 rcases h with ⟨e,e2⟩ | ⟨j,h1,h2⟩
 ·subst e e2;exact Rd.nil w 1
 ·have:=hm.wA ht h1 h2;rwa [show (aR L).map (fun u=>[u])=fN L by unfold aR fN;rw [ZaE];rfl] at this
set_option maxHeartbeats 2000000 in
theorem VE {s d t p':Value} (v:Int) (so de:ByteArray) {w:World} (h:RR w r s d t p') (hb:fm r=0) (hs:so∈cN r) (hd:de∈cu r) (iB:(cQ r).Nodup) :
  a8 T_ 73 [RA r s d t p',.q v,.string so,.string de] w [] (fun y:Value×List Value×List (List Value)=>Sa y.1 (SU r v so de) y.2.1 y.2.2) (fun y=>.tuple #[y.1,.q (OI r v so de)]) (fun y=>[iM 9 y.2.1 y.2.2]):=by
 obtain ⟨h1,h2,h3,h4⟩:=h.one;have dP:=yn hb;unfold RA;refine aS func73 I I ?_
 (refine Jr<|Jy I I fun _ _=>Ja I<|Ja I<|Ji<|ab (bU .here) I<|Jv I<|Jv I<|Jv I ?_)
 rename_i b4 sH;refine JN DS I (fun w1 aT=>IW (s:=s) (d:=d) (t:=t) (p':=p') v so de hb hs hd iB (r.ti.length+1) (p:=[]) (h.keeps aT.keeps) (Wn.oz _) I (show Rd w1 (.z) 1 (fN []) from Rd.nil w1 1)) ?_;rintro ⟨ov,gp,vs,xs⟩ hW
 try dsimp only [id_eq,Zb,Za] at hW ⊢
 cases e:(dJ r r.po v so).all (ll r de) (r.ti.length+1) [] with
 | nil =>
  have eP:ln r v so de=none:=by unfold ln;rw [show (dJ r r.po v so).all (ll r de) ((dJ r r.po v so).n+1) []=[] from e]
  have hz:gp.length=0:=by rw [hW.len];unfold IT;rw [e];rfl
  have e1:OI r v so de=18:=by unfold OI;rw [eP];rfl
  have e2:SU r v so de=[]:=by unfold SU;rw [eP];rfl
  refine aK (v:=ov) (by exact .here) fun oa oc e0=>?_;subst e0;refine Ja I<|Jn<|Jq<|Jr<|Jv I<|JI I<|JC I<|Jn<|Jd I fun aA=>Jr<|Ja I<|Ja I<|Jn<|Ju ?_
  with_reducible first|apply aO|apply aP
  case he=>exact gD I I I
  case hR=>
   intro w' aB;exact aC (.z,vs,xs) (.inl ⟨I,e2⟩) (by exact .cons (.there .here) .nil) aB (by rw [e1])
 | cons a l =>
  have hN:IT r v so de (r.ti.length+1) []=(a::l).map fun q=>q.map (dq r):=by unfold IT;rw [e]
  have nI:gp.length=l.length+1:=by rw [hW.len,hN];simp
  have fj:∀ q∈a::l,∀ i∈q,i<r.ti.length:=fun q hq=>Wn.sq (Wn.vq (Wn.oz _) (e ▸ hq)).1
  have eP:ln r v so de=some (km (dJ r r.po v so).lt a l):=by unfold ln;rw [show (dJ r r.po v so).all (ll r de) ((dJ r r.po v so).n+1) []=a::l from e]
  have e1:OI r v so de=0:=by unfold OI;rw [eP];rfl
  have e2:SU r v so de=(km (dJ r r.po v so).lt a l).map (dq r):=by unfold SU;rw [eP];rfl
  have hIn:∀ (i:Nat) (hi:i<gp.length),Sa gp[i] (((a::l)[i]'(by rw [ZB];omega)).map (dq r)) vs xs:=fun i hi=>by
   have hq:=hW.rd i gp[i] (((a::l)[i]'(by rw [ZB];omega)).map (dq r)) (Zc hi) (by rw [hN,ZG,Zc (by rw [ZB];omega)];rfl);rcases hq with ⟨q1,q2⟩ | q
   ·exact .inl ⟨q1,q2⟩
   ·exact .inr q
  rw [e1,e2];clear hW e1 e2 eP hN;refine cm (E:=32) (sz:=1) (v:=ov) (by exact .here) (by omega) fun ga ca cur e1 oP Dd Da EU=>?_;subst e1;unfold maxLen at Dd;have fZ:∀ (i:Nat) (hi:i<gp.length),(gp++cur)[i*1]? = some gp[i]:=fun i hi=>by rw [Zan,Zx hi];exact Zc hi
  have hI0:=hIn 0 (by omega);rw [List.getElem_cons_zero] at hI0;have c0:(gp++cur)[0]? = some gp[0]:=fZ 0 (by omega)
  (refine Ja I<|Jn<|Jq<|Jr<|Jv I<|JI I<|JC I<|Jn<|Jc I fun aA=>Jk<|Jr<|Jv I<|ab (ao (.of I) (.of I) I (by omega) (by omega) aW) I<|ab (ag (.of I) (At.kB .here c0)) I<|Ja I<|Jn<|Jq<|Jr<|Ja I<|Jn<|J0 ?_)
  refine aV (ι:=Nat×Value×List Nat) (fun y=>1<=y.1/\y.1<=gp.length/\y.2.2=km (dJ r r.po v so).lt a (l.take (y.1-1))/\Sa y.2.1 (y.2.2.map (dq r)) vs xs) (fun y=>[(12,.q (y.1:Nat)),(11,y.2.1),(10,.w ga gp.length ca),(1,.q v),(4,.p b4)]) (fun y=>[bu ga (.cells (gp++cur).toArray 32 (0,0)),iM 9 vs xs,JQ b4 r s d t p']) (fun y=>gp.length-y.1) ?_ ?_
  ·with_reducible apply aH (1,gp[0],a) ⟨Zv _,by omega,I,hI0⟩
   case hs1=>exact bT
   case ht=>exact jv
  rintro ⟨i,bv,q⟩ ⟨EV,hi,hq,YP⟩;dsimp only at EV hi hq YP ⊢;by_cases aL:i<gp.length
  ·have c1:=fZ i aL;have W0:=hIn i aL;have WT:i-1<l.length:=by omega
   have hax:(a::l)[i]'(by rw [ZB];omega)=l[i-1]:=by
    obtain ⟨j,rfl⟩:∃ j,i=j+1:=⟨i-1,by omega⟩
    rfl
   have WC:q∈a::l:=by
    rw [hq];have:=(mW (lt:=(dJ r r.po v so).lt) (fun {_ _ _}=>Wn.lt_trans) (fun {_ _}=>Wn.wN) (Wn.lt_irrefl _) (l.take (i-1)) a).1
    rcases ZQ.1 this with h | h
    ·rw [h];exact Zr
    ·exact ZM _ (Zax h)
   have Ve:=O9 hb iB (v:=v) so (fj (l[i-1]) (ZM _ (Zj WT))) (fj q WC);rw [hax] at W0;have gS:km (dJ r r.po v so).lt a (l.take i)=if (dJ r r.po v so).lt l[i-1] q=true then l[i-1] else q:=by
    obtain ⟨j,rfl⟩:∃ j,i=j+1:=⟨i-1,by omega⟩;rw [Zm (by omega),xH,hq];rfl
   rw [<- Ve] at gS;generalize l[i-1]=x at W0 Ve gS;generalize gp[i]=xv at c1 W0;refine Jq<|Jr<|Jv I<|Jv I<|JI I<|JA I<|Jn<|Jd I fun aA=>Jk<|Jq<|J0<|Jq ?_
   with_reducible refine cz 8 (by kernel_rfl) ?_
   (refine aq (bU bE) I ?_;refine fw I I ?_;refine fw I I ?_;refine fw I I ?_;refine aq (ao (.of I) (.of I) I (by omega) aA aW) I ?_;refine aq (ag (.of I) (At.kB .here c1)) I ?_;refine fw I I ?_;refine cW mI I (fun w' aB=>(Lj v (RR.keeps h (Mem.keeps aB)) (Mem.F2 aB (.there .here) W0) (Mem.F2 aB (.there .here) YP))) ?_)
   with_reducible refine cC ?_
   (refine Jn<|oK I (fun aA=>?_) fun aA=>?_;refine Jg<|Jv I<|Jv I<|ab (ao (.of I) (.of I) I (by omega) (by assumption) aW) I ?_;refine ab (ag (.of I) (At.kB .here c1)) I ?_;refine Ja I<|Jx<|Jj<|Jt<|Jg<|Jv I<|JB I (by omega)<|Ja I<|Jn ?_;rotate_left;refine Jw<|Jj<|Jt<|Jg<|Jv I<|JB I (by omega)<|Ja I<|Jn ?_;rotate_right)
   ·rw [aA,if_pos I] at gS
    with_reducible apply aG (i+1,xv,x) ⟨Nat.le_succ_of_le EV,Z6 aL,(show x=km (dJ r r.po v so).lt a (l.take (i+1-1)) by rw [Zay];exact gS.symm),W0⟩ (show gp.length-(i+1)<gp.length-i by omega)
    case hs1=>exact bT
    case ht=>exact jv
   ·rw [aA,if_neg (by decide)] at gS
    with_reducible apply aG (i+1,bv,q) ⟨Nat.le_succ_of_le EV,Z6 aL,(show q=km (dJ r r.po v so).lt a (l.take (i+1-1)) by rw [Zay];exact gS.symm),YP⟩ (show gp.length-(i+1)<gp.length-i by omega)
    case hs1=>exact bT
    case ht=>exact jv
  ·have kr:l.length<=i-1:=by omega
   rw [Z9 kr] at hq;subst hq;refine Jq<|Jr<|Jv I<|Jv I<|JI I<|JA I<|Jn<|Jc I fun aA=>Jp<|Jl<|Jo<|Jt<|Jr<|Jv I<|Ja I<|Ja I<|Jn<|Je ?_
   with_reducible first|apply aO|apply aP
   case he=>exact gD I I I
   case hR=>
    intro w' aB;exact aC (bv,vs,xs) YP (by exact .cons (.there .here) .nil) aB I
theorem Ed (l:List gW) {i:Nat} (h:i<l.length):(jP l)[i]? = some [.string l[i].tk.de,l[i].v]:=kM h
theorem Sq {L D:List Po} (e:ye r 6 L=D) {s d t p:Value} {w:World} {fp:List Nat} (iB:fp.Nodup) (hs:cy (hp w) (oZ (r.wp L) (s,d,t,p)) fp) (hf:gU (r.wp L)) (tb:0<=r.lv/\r.lv<=1000000):a8 T_ 169 [.agg #[.q r.lv,.q r.ma,s,d,t,p]] w fp (fun _:Value×Value×Value×Value=>True) (fun x=>.agg #[.q r.lv,.q r.ma,x.1,x.2.1,x.2.2.1,x.2.2.2]) (fun x=>oZ (r.wp D) x):=by
 have:=Ss iB hs hf tb;rw [JO] at this;subst e;exact this
theorem Tn (r:Ro) (q:List Po) (a b:Po):ns (r.wp q) a b=ns r a b:=rfl
theorem Gj (r:Ro) (q:List Po) (x:Po):∀ l,eJ (r.wp q) x l=eJ r x l
 | []=>rfl
 | b::l=>by rw [eJ,eJ,Gj r q x l,Tn]
theorem QS {q:List Po} {s d t p:Value} {x:Po} (h:RR w (r.wp q) s d t p) (hf:gU (r.wp q)):a8 T_ 170 [.agg #[.q r.lv,.q r.ma,s,d,t,p],.agg #[.q x.lv,.string x.ou,.string x.ip]] w [] (fun _:Value×Value×Value×Value=>True) (fun y=>.agg #[.q r.lv,.q r.ma,y.1,y.2.1,y.2.2.1,y.2.2.2]) (fun y=>oZ (r.wp (eJ r x q)) y):=by
 have:=VK (x:=x) h hf;rw [Gj] at this;exact this
noncomputable def gOf {ι:Type} (f:ι->Value) (d:ι) (v:Value):ι:=open Classical in if h:∃ x,f x=v then h.choose else d
theorem Us {ι:Type} {f:ι->Value} (hi:∀ x y,f x=f y->x=y) (d x:ι):∃ v,gOf f d v=x:=⟨f x,by
 have h:∃ y,f y=f x:=⟨x,I⟩;unfold gOf;rw [dif_pos h];exact hi _ _ h.choose_spec⟩
def Qa (y:Value×List Value×List (List Value)):Value:=.agg #[y.1,.agg y.2.1.toArray,.agg (y.2.2.map fun l=>Value.agg l.toArray).toArray]
theorem uH:∀ {a b:List (List Value)},(a.map fun l=>Value.agg l.toArray)=(b.map fun l=>Value.agg l.toArray)->a=b
 | [],[],_=>rfl
 | [],_::_,h=>by simp at h
 | _::_,[],h=>by simp at h
 | x :: a, y :: b, h => by
  simp only [Z4,List.cons.injEq,Value.agg.injEq] at h;rw [uH h.2,show x=y from by have:=congrArg Array.toList h.1;simpa using this]
theorem Mj (x y:Value×List Value×List (List Value)) (h:Qa x=Qa y):x=y:=by
 obtain ⟨a,b,c⟩:=x;obtain ⟨a',b',c'⟩:=y;unfold Qa at h;injection h with h
 have h:=congrArg Array.toList h;simp only [List.cons.injEq,Value.agg.injEq] at h;obtain ⟨h1,h2,h3,_⟩:=h;have h2:=congrArg Array.toList h2;have h3:=congrArg Array.toList h3;simp only at h2 h3;rw [h1,h2,uH h3]
abbrev Ig (L:List ByteArray):Type:={y:Value×List Value×List (List Value) // Sa y.1 L y.2.1 y.2.2}
def Ig.some_ (L:List ByteArray):Ig L:=⟨(.z,[.z],[aR L]),.inr ⟨0,I,I⟩⟩
noncomputable def HV (L:List ByteArray):Value->Ig L:=gOf (fun y=>Qa y.1) (Ig.some_ L)
theorem P1 (L:List ByteArray) (x:Ig L):∃ v,HV L v=x:=Us (fun x y h=>Subtype.ext (Mj _ _ h)) _ x
theorem At.yp {c:Cx} {hs hs':List bd} {b o n cap j k:Nat} (ht:Take hs (iM 9 vs xs) hs') (mT:Sa (.slice (some ⟨b,o,none⟩) n cap) L vs xs) (hj:j<L.length) (hk:k=o+j*1):At c hs b k (.string L[j]):=fun w hm=>by
 obtain ⟨a,iv,b',o',e,_,_,ha,hc⟩:=Mem.F2 hm ht mT;injection e with e1 e2 e3
 rw [ha (iU hj)] at e1;injection e1 with e1
 injection e1 with e4 e5
 have:=(hc j _ (fH hj)).2 0 _ I;rw [<- e4,<- e5] at this;subst hk;exact this
theorem Sa.shape (h:Rd w x 1 (fN L)):∃ a cap,x=.slice a L.length cap/\(L≠[]->∃ b o,a=some ⟨b,o,none⟩):=by
 obtain ⟨a,cap,b,o,rfl,_,_,ha,_⟩:=h;rw [bG];exact ⟨a,cap,I,fun hl=>⟨b,o,ha (by cases L with | nil=>exact absurd I hl | cons x l=>simp [fN])⟩⟩
set_option maxHeartbeats 4000000 in
theorem Ov {s d t p kv:Value} (h:RR w r s d t p) (fP:fm r=0) (hw:Rd w kv 2 (jP l)) (hM:vK w l) (hT:GV r (cU l)) :
  a8 T_ 50 [RA r s d t p,kv] w [] (fun _:Value×Value×Value×Value=>True) (fun x=>.tuple #[RA (fX r (cU l)).1 x.1 x.2.1 x.2.2.1 x.2.2.2,.q (fX r (cU l)).2.1,.q (fX r (cU l)).2.2]) (fun x=>oZ (fX r (cU l)).1 x):=by
 have dP:=yn fP;have YX:=BC fP;have tb:=dP.lim;have vz:=dP.len;have WG:=j5 dP dP.val;have hf:gU r:=⟨by omega,by omega,by omega,by omega⟩;have uu:(cU l).length=l.length:=by unfold cU;rw [Zd]
 have T0:=hT.B2;rw [uu] at T0;obtain ⟨h1,h2,h3,h4⟩:=h.one;have Dl:=h.de;obtain ⟨a2,c8,IH,Iy,rfl,jS,eV,jU,kg⟩:=Dl;rw [bY] at *;obtain ⟨a,cp,b,o,rfl,dC,ch,ha,hc⟩:=hw;rw [eY] at *;unfold maxLen at ch eV;have abF:∀ (o:ByteArray) {w'},aI [] w w'->an T_ 56 [.agg #[.int .i64 r.lv,.int .i64 r.ma,s,.slice a2 r.de.length c8,t,p],.string o] w' (.int .i64 (bB (cu r) o)):=fun o _ hk=>qE o (h.keeps hk)
 have HR:∀ (v:Int) (o:ByteArray),o≠⟨#[]⟩->∀ {w'},aI [] w w'->an T_ 131 [.agg #[.q r.lv,.q r.ma,s,.slice a2 r.de.length c8,t,p],.q v,.string o] w' (.string (jY r v o)):=fun v o ho _ hk=>by rw [<- BH fP v ho];exact tR v o ho (h.keeps hk)
 have nu:=C2 r l;unfold RA;refine aS func50 I I ?_;refine Jr<|Jy I I fun _ _=>Jz I I fun _ _=>Ja I<|Ja I<|Jn<|Jq<|Jr<|Ja I<|Jn<|J0 ?_;rename_i b2 sJ b4 sH;refine aV (ι:=Nat) (fun i=>i<=l.length/\∀ j (hj:j<l.length),j<i->tF r l[j].tk=false) (fun i=>[(7,.q (i:Nat)),(1,.slice a l.length cp),(2,.p b2),(4,.p b4),(5,.q 0),(6,.q 0)]) (fun _=>[JQ b2 r s (.slice a2 r.de.length c8) t p,bu b4 (.cells #[.q 0,.q 0,.z,.z,.z,.z] 27 (0,0))]) (fun i=>l.length-i) ?_ ?_
 ·with_reducible apply aH (0:Nat) ⟨Zi _,fun j _ h=>absurd h (ZV j)⟩
  case hs1=>exact bT
  case ht=>exact jv
 rintro i ⟨hi,rq⟩;by_cases aL:i<l.length
 ·have cY:=ha (lo aL);have aF:=(hc i _ (Ed l aL)).2;have Ru:=hT.de l[i].tk (Zaa (Zj aL));obtain ⟨j0,rO,Y1,en0⟩:=RQ Ru;have EW:∀ {w'},aI [] w w'->an T_ 56 [.agg #[.int .i64 r.lv,.int .i64 r.ma,s,.slice a2 r.de.length c8,t,p],.string l[i].tk.de] w' (.int .i64 (j0:Nat)):=fun hk=>by rw [<- Y1];exact abF _ hk
  have hlB:tF r l[i].tk=r.de[j0].pr:=by unfold tF;rw [Y1,ZE,Zk,Zc rO];rfl
  have qO:=jU (ij rO);have cP:w.cell? ⟨IH,Iy+j0*3+2,none⟩=some (.bool (tF r l[i].tk)):=by rw [hlB];exact (kg j0 _ (fM rO)).2 2 _ I
  have hfo:tF r l[i].tk=true->q5 r (cU l)=(i:Nat):=fun q=>by
   rw [nu];refine gN (fun j hj=>?_) aL q;rw [Zc (by omega)];exact rq j (by omega) hj
  have gS:tF r l[i].tk=false->∀ j (hj:j<l.length),j<i+1->tF r l[j].tk=false:=fun q j hj td=>by
   by_cases e:j=i
   ·subst e;exact q
   ·exact rq j hj (by omega)
  generalize tF r l[i].tk=bl at cP hfo gS;generalize l[i].tk.de=de at aF EW;have c0:w.cell? ⟨b,o+i*2,none⟩=some (.string de):=aF 0 _ I;refine Jq<|Jr<|Jv I<|Jv I<|JI I<|JA I<|Jn<|Jd I fun aA=>Jk<|Jq<|J0<|Jq ?_
  with_reducible refine cz 12 (by kernel_rfl) ?_
  (refine jH I I ae<|aq (gn .here) I<|aq (bU .here) I<|fw I I<|fw I I<|aq (gE cY aA) I<|jH I I ae<|aq (ag (.of I) (At.base c0 I)) I<|cW bn I (fun w' aB=>(EW (Mem.keeps aB)))<|aq (ao (.of I) (.of I) qO (by omega) (by omega) aW) I<|jH I I ae<|aq (ag (.of I) (At.base cP I)) I ?_)
  with_reducible refine cC ?_
  (refine Jn<|oK I (fun aA=>?_) fun aA=>?_;refine Jr<|ab (aU .nil ai) I<|Jv I<|ak (.of I) (.of I) (.there .here) I I (dO I I I I I I) (br I) ai<|Ja I<|Ja I<|Jn<|Je<|Jm<|Jh<|Jh<|Jm<|Jh ?_;rotate_left;refine Jw<|Jj<|Jt<|Jg<|Jv I<|JB I (by omega)<|Ja I<|Jn ?_;rotate_right)
  ·have e0:=hfo aA;have e1:fX r (cU l)=(Ro.nil,((i:Nat):Int),31):=by unfold fX;rw [if_pos (by omega),e0]
   rw [e1];dsimp only;refine aJ 118 2 ?_;refine aJ 88 3 ?_;refine aJ 122 3 ?_;refine aJ 180 3 ?_
   with_reducible first|apply aO|apply aP
   case he=>exact ki I inferInstance I c7 ai (by rfl) (by rfl) (by rfl)
   case hR=>
    intro w' aB;exact aC (.z,.z,.z,.z) trivial (by exact .cons cI (.cons bE (.cons (.there .here) (.h1 .nil)))) aB I
  ·with_reducible apply aG (i+1) ⟨Z6 aL,gS (by simpa using aA)⟩ (show l.length-(i+1)<l.length-i by omega)
   case hs1=>exact bT
   case ht=>exact jv
 have e:i=l.length:=by omega
 subst e;have Xu:¬ 0<=q5 r (cU l):=by
  rw [nu,fO fun j hj=>by rw [Zc hj];exact rq j hj hj]
  omega
 clear rq aL hi nu;refine Jq<|Jr<|Jv I<|Jv I<|JI I<|JA I<|Jn<|Jc I fun aA=>Jp<|Jl<|Jo<|Jt<|Jr<|ab (bU .here) I ?_;refine JN bJ I (fun w1 aT=>CT (h.keeps aT.keeps) hf) ?_;rintro ⟨s1,d1,t1,p1⟩ _;unfold oZ;dsimp only [Zb,Za];unfold RA;refine aK (E:=118) (sz:=2) (v:=s1) (by exact .here) fun Yo Yn e3=>?_;subst e3;refine aK (E:=88) (sz:=3) (v:=d1) (by exact Take.there .here) fun Y3 Y2 e3=>?_;subst e3;refine aK (E:=122) (sz:=3) (v:=t1) bE fun Ym Yl e3=>?_;subst e3;refine aK (E:=180) (sz:=3) (v:=p1) cI fun Yr Yq e3=>?_;subst e3
 (refine Jz I I fun _ _=>ak (.of I) (.of I) .here I I (dO I I I I I I) (br I) ai<|Jn<|Jq<|Jr<|Ja I<|Jn<|J0 ?_)
 rename_i b8 YV;have Vi:∀ i,(jn r (cU l) i).length<=r.po.length:=fun i=>by rw [jh];exact ZW _ _
 refine aV (ι:=Nat×List Po×(Option Addr×Nat)×(Option Addr×Nat)×(Option Addr×Nat)×(Option Addr×Nat)) (fun y=>y.1<=l.length/\y.2.1=jn r (cU l) y.1) (fun y=>[(9,.q (y.1:Nat)),(8,.p b8),(1,.slice a l.length cp),(2,.p b2),(4,.p b4)]) (fun y=>[row 118 2 (.slice y.2.2.1.1 r.sr.length y.2.2.1.2) r.sr.length (il r.sr),row 88 3 (.slice y.2.2.2.1.1 r.de.length y.2.2.2.1.2) r.de.length (gm r.de),row 122 3 (.slice y.2.2.2.2.1.1 r.ti.length y.2.2.2.2.1.2) r.ti.length (iC r.ti),row 180 3 (.slice y.2.2.2.2.2.1 (y.2.1).length y.2.2.2.2.2.2) (y.2.1).length (eF (y.2.1)),JQ b8 r (.slice y.2.2.1.1 r.sr.length y.2.2.1.2) (.slice y.2.2.2.1.1 r.de.length y.2.2.2.1.2) (.slice y.2.2.2.2.1.1 r.ti.length y.2.2.2.2.1.2) (.slice y.2.2.2.2.2.1 (y.2.1).length y.2.2.2.2.2.2),JQ b2 r s (.slice a2 r.de.length c8) t p,bu b4 (.cells #[.q 0,.q 0,.z,.z,.z,.z] 27 (0,0))]) (fun y=>l.length-y.1) ?_ ?_
 ·with_reducible apply aH (0,r.po,(Yo,Yn),(Y3,Y2),(Ym,Yl),(Yr,Yq)) ⟨Zi _,I⟩
  case hs1=>exact bT
  case ht=>exact jv
 rintro ⟨i,L,⟨Ox,Oo⟩,⟨Qk,Qj⟩,⟨N9,N5⟩,⟨OT,OR⟩⟩ ⟨hi,hL⟩;dsimp only at hi hL ⊢;by_cases aL:i<l.length
 ·have cY:=ha (lo aL);have aF:=(hc i _ (Ed l aL)).2;have iP:=Zj aL;have Uh:=hM _ iP;have IC:(cU l).getD i Tk.zero=l[i].tk:=by unfold cU;rw [Zk,ZG,Zc aL];rfl
  have Ve:=hT.lv l[i].tk (Zaa iP);have Ru:=hT.de l[i].tk (Zaa iP);have gl:l[i].tk.de≠⟨#[]⟩:=YX.ne (.inr (.inl Ru));have Bi:jn r (cU l) (i+1)=lj r l[i].tk l[i].tk.so.length L:=by rw [jn,IC,hL]
  have hdi:L.length<=r.po.length:=by rw [hL];exact Vi i
  have Xb:∀ k,(lj r l[i].tk k L).length<=r.po.length:=fun k=>ZP (by rw [lM];exact ZW _ _) hdi
  generalize hti:l[i]=ti at *;obtain ⟨tk,tv⟩:=ti;dsimp only at *;obtain ⟨sa,Ir,sb,Ol,rfl,Gm,sA,Pz,HK⟩:=Uh;rw [bG] at *;unfold maxLen at sA;have c0:w.cell? ⟨b,o+i*2,none⟩=some (.string tk.de):=aF 0 _ I;have c1:w.cell? ⟨b,o+i*2+1,none⟩=some (.slice sa tk.so.length Ir):=aF 1 _ I;refine Jq<|Jr<|Jv I<|Jv I<|JI I<|JA I<|Jn<|Jd I fun aA=>Jk<|Jq<|J0<|Jr<|Ja I<|Jn<|J0 ?_;refine aV (ι:=Nat×List Po×(Option Addr×Nat)×(Option Addr×Nat)×(Option Addr×Nat)×(Option Addr×Nat)) (fun y=>y.1<=tk.so.length/\y.2.1=lj r tk y.1 L) (fun y=>[(10,.int .i64 (y.1:Nat)),(9,.int .i64 (i:Nat)),(8,.pointer (some ⟨b8,0,none⟩)),(1,.slice a l.length cp),(2,.pointer (some ⟨b2,0,none⟩)),(4,.pointer (some ⟨b4,0,none⟩))]) (fun y=>[row 118 2 (.slice y.2.2.1.1 r.sr.length y.2.2.1.2) r.sr.length (il r.sr),row 88 3 (.slice y.2.2.2.1.1 r.de.length y.2.2.2.1.2) r.de.length (gm r.de),row 122 3 (.slice y.2.2.2.2.1.1 r.ti.length y.2.2.2.2.1.2) r.ti.length (iC r.ti),row 180 3 (.slice y.2.2.2.2.2.1 (y.2.1).length y.2.2.2.2.2.2) (y.2.1).length (eF (y.2.1)),JQ b8 r (.slice y.2.2.1.1 r.sr.length y.2.2.1.2) (.slice y.2.2.2.1.1 r.de.length y.2.2.2.1.2) (.slice y.2.2.2.2.1.1 r.ti.length y.2.2.2.2.1.2) (.slice y.2.2.2.2.2.1 (y.2.1).length y.2.2.2.2.2.2),JQ b2 r s (.slice a2 r.de.length c8) t p,bu b4 (.cells #[.int .i64 0,.int .i64 0,.slice none 0 0,.slice none 0 0,.slice none 0 0,.slice none 0 0] 27 (0,0))]) (fun y=>tk.so.length-y.1) ?_ ?_
  ·with_reducible apply aH (0,L,(Ox,Oo),(Qk,Qj),(N9,N5),(OT,OR)) ⟨Zi _,I⟩
   case hs1=>exact bT
   case ht=>exact jv
  rintro ⟨k,L2,⟨Iu,It⟩,⟨IG,IF⟩,⟨Iq,Ip⟩,⟨Iw,Iv⟩⟩ ⟨hk,qB⟩;dsimp only at hk qB ⊢;by_cases nu:k<tk.so.length
  ·have Bb:=Pz (iU nu);have Ba:w.cell? ⟨sb,Ol+k*1,none⟩=some (.string tk.so[k]):=(HK k _ (fH nu)).2 0 _ I;have fZ:tk.at k=tk.so[k]:=by unfold Tk.at;rw [Zk,Zc nu];rfl
   have hdk:=Xb k;rw [<- qB] at hdk;have hs2:lj r tk (k+1) L=if lL r tk k then G1 r (k:Nat) tk.de L2 else L2:=by rw [lj,<- qB];rfl
   have Xa:lL r tk k=(!decide (tk.so[k]=⟨#[]⟩)&&!decide (tk.so[k]=jY r (k:Nat) tk.de)):=by unfold lL;rw [fZ]
   have te:∀ {w'},aI [] w w'->an T_ 131 [.agg #[.q r.lv,.q r.ma,s,.slice a2 r.de.length c8,t,p],.q (k:Nat),.string tk.de] w' (.string (jY r (k:Nat) tk.de)):=fun hk=>HR _ _ gl hk
   generalize jY r (k:Nat) tk.de=ck at *;generalize tk.so[k]=sk at *
   (refine Jq<|Jr<|Jv I<|bD I I ae<|JL I ek I<|JA I<|Jn<|Jd I fun aA=>Jk<|Jq<|J0<|Jr<|Jv I<|Jv I<|ab (ao (.of I) (.of I) cY (by omega) (by assumption) aW) I<|bD I I ae<|ab (ag (.of I) (At.base c1 I)) I<|Jv I<|ab (ao (.of I) (.of I) Bb (by omega) (by omega) aW) I<|ab (ag (.of I) (At.base Ba I)) I<|Ja I<|Jn<|Jq ?_)
   with_reducible refine cz 14 (by kernel_rfl) ?_
   (refine fw I I<|aq (gz (.of I) (.of I)) I<|fw I I<|bM I I (fun hg bH=>(aQ (.of I))) I<|bM I I (fun hg bH=>(bQ (.of I) ek ai (by rfl))) I<|bM I I (fun hg bH=>(aQ (.of I))) I<|bM I I (fun hg bH=>(aQ (.of I))) I<|bM I I (fun hg bH=>(aQ (.of I))) I<|bM I I (fun hg bH=>(ao (.bW hg I) (.bW hg I) cY (by omega) (by assumption) aW)) I<|bM I I (fun hg bH=>(ar (.bW hg I) ae)) I<|bM I I (fun hg bH=>(ag (.bW hg I) (At.base c0 I))) I<|oM I I (fun hg=>(a7 (.of I) (.cons (.bW hg I) (.cons (.bW hg I) (.cons (.bW hg I) .nil))) inferInstance gF)) I (fun hg w' aB=>(te (Mem.keeps aB)))<|bM I I (fun hg bH=>(gz (.bW hg I) (.bW hg I))) I<|aq (cM (.of I) I) I ?_)
   with_reducible refine cC ?_
   (refine Jn<|oK I (fun aA=>?_) fun aA=>?_;rotate_left;refine Jw<|Jj<|Jt<|Jg<|Jv I<|JB I (by omega)<|Ja I<|Jn ?_;rotate_right)
   ·obtain ⟨q1,q2⟩:sk≠⟨#[]⟩/\sk≠ck:=by simpa using aA
    have yy:lL r tk k=true:=by rw [Xa,decide_eq_false q1,decide_eq_false q2];rfl
    rw [yy,if_pos I] at hs2
    with_reducible refine dL 8 (by kernel_rfl) ?_
    (refine au (fun β=>(bQ (.of I) c7 ai (by rfl))) ba I<|au (fun β=>(aQ (.of I))) ba I<|au (fun β=>(aQ (.of I))) ba I<|au (fun β=>(aQ (.of I))) ba I<|au (fun β=>(ao (.of I) (.of I) cY (by omega) (by assumption) aW)) ba I<|au (fun β=>(ar (.of I) ae)) ba I<|au (fun β=>(ag (.of I) (At.base c0 I))) ba I ?_)
    dsimp only [Nat.zero_add,Nat.reduceAdd]
    with_reducible apply dZ (ι:=Value×Value×Value×Value) (Φ:=fun _=>True) (val:=fun x=>.agg #[.q r.lv,.q r.ma,x.1,x.2.1,x.2.2.1,x.2.2.2]) (own:=fun x=>oZ (r.wp (G1 r (k:Nat) tk.de L2)) x) (g:=g4) (B:=[]) (args:=fun _=>[.agg #[.q r.lv,.q r.ma,.slice Iu r.sr.length It,.slice IG r.de.length IF,.slice Iq r.ti.length Ip,.slice Iw (L2).length Iv],.q (k:Nat),.string tk.de])
    case hg=>exact mh
    case hB=>rfl
    case hr=>exact fun β=>a7 (.of I) ((.o I (.o I (.o I .nil)))) inferInstance I
    case hd=>rfl
    case hc=>exact fun β w' hb=>FD (r:=r.wp L2) (k:Nat) tk.de (RR.wp (r:=r) (po:=L2) (cF hb.mem (by exact .here) I) (cH hb.mem (by exact Take.there .here) I) (cE hb.mem bE I) (cq hb.mem cI I)) ⟨hf.1,hf.2.1,hf.2.2.1,(show L2.length<=1000000 by omega)⟩
    refine eN fun β=>?_;unfold oZ Ro.wp;dsimp only [dW,Za,Zb,List.append_eq,Nat.reduceAdd];generalize g4 (β 7)=y;obtain ⟨s5,d5,t5,p5⟩:=y;clear β;dsimp only;generalize G1 r (k:Nat) tk.de L2=L3 at hs2 ⊢;refine aK (E:=118) (sz:=2) (v:=s5) (by exact .here) fun QU QT e3=>?_;subst e3;refine aK (E:=88) (sz:=3) (v:=d5) (by exact Take.there .here) fun RT RS e3=>?_;subst e3;refine aK (E:=122) (sz:=3) (v:=t5) bE fun QP QO e3=>?_;subst e3;refine aK (E:=180) (sz:=3) (v:=p5) cI fun QY QX e3=>?_;subst e3;refine dS [row 118 2 (.slice QU r.sr.length QT) r.sr.length (il r.sr),row 88 3 (.slice RT r.de.length RS) r.de.length (gm r.de),row 122 3 (.slice QP r.ti.length QO) r.ti.length (iC r.ti),row 180 3 (.slice QY (L3).length QX) (L3).length (eF (L3)),JQ b8 r (.slice Iu r.sr.length It) (.slice IG r.de.length IF) (.slice Iq r.ti.length Ip) (.slice Iw (L2).length Iv),JQ b2 r s (.slice a2 r.de.length c8) t p,bu b4 (.cells #[.int .i64 0,.int .i64 0,.slice none 0 0,.slice none 0 0,.slice none 0 0,.slice none 0 0] 27 (0,0))] (by exact .h4 (.cons c7 (.cons c7 (.cons c7 .nil)))) ?_;refine bF (rs:=[8]) (by kernel_rfl) (by simp) (Zp.2 ⟨?_,fun _ h=>absurd h Zo⟩);refine bK I ?_
    (refine ak (.of I) (.of I) c7 I I (dO I I I I I I) (br I) ai<|Jn ?_)
    with_reducible refine cn (by kernel_rfl) ?_
    refine Jj<|Jt<|Jg<|Jv I<|JB I (by omega)<|Ja I<|Jn ?_
    with_reducible apply aG (k+1,L3,(QU,QT),(RT,RS),(QP,QO),(QY,QX)) ⟨Z6 nu,hs2.symm⟩ (show tk.so.length-(k+1)<tk.so.length-k by omega)
    case hs1=>exact bT
    case ht=>exact jv
   ·have yy:lL r tk k=false:=by
     rw [Xa];simp only [ne_eq,Zq,decide_eq_true_eq,Classical.not_and_iff_not_or_not] at aA;rcases aA with e | e
     ·rw [decide_eq_true e];rfl
     ·rw [decide_eq_true e];simp
    rw [yy,if_neg (by decide)] at hs2
    with_reducible apply aG (k+1,L2,(Iu,It),(IG,IF),(Iq,Ip),(Iw,Iv)) ⟨Z6 nu,hs2.symm⟩ (show tk.so.length-(k+1)<tk.so.length-k by omega)
    case hs1=>exact bT
    case ht=>exact jv
  ·have e:k=tk.so.length:=by omega
   subst e
   (refine Jq<|Jr<|Jv I<|bD I I ae<|JL I ek I<|JA I<|Jn<|Jc I fun aA=>Jp<|Jl<|Jo<|Jj<|Jt<|Jg<|Jv I<|JB I (by omega)<|Ja I<|Jn ?_)
   with_reducible apply aG (i+1,L2,(Iu,It),(IG,IF),(Iq,Ip),(Iw,Iv)) ⟨Z6 aL,(qB.trans Bi.symm)⟩ (show l.length-(i+1)<l.length-i by omega)
   case hs1=>exact bT
   case ht=>exact jv
 have e:i=l.length:=by omega
 subst e;have hLd:ye r 6 L=oR r (cU l):=by rw [hL,<- uu];exact Mm dP _
 have Dr:=Vi l.length;rw [<- hL] at Dr;clear Vi hL aL hi;refine Jq<|Jr<|Jv I<|Jv I<|JI I<|JA I<|Jn<|Jc I fun aA=>Jp<|Jl<|Jo<|Jt<|Jr<|ab (bU c7) I ?_
 with_reducible apply eH (As:=[row 118 2 (.slice Ox r.sr.length Oo) r.sr.length (il r.sr),row 88 3 (.slice Qk r.de.length Qj) r.de.length (gm r.de),row 122 3 (.slice N9 r.ti.length N5) r.ti.length (iC r.ti),row 180 3 (.slice OT (L).length OR) (L).length (eF (L))])
 case hr=>exact bJ
 case hd=>rfl
 case ht=>exact jv
 case hc=>
  intro w1 Bt aT uN hs1 Ds ku;exact Sq (r:=r) (L:=L) hLd (s:=.slice Ox r.sr.length Oo) (d:=.slice Qk r.de.length Qj) (t:=.slice N9 r.ti.length N5) (p:=.slice OT (L).length OR) uN hs1 ⟨hf.1,hf.2.1,hf.2.2.1,(show L.length<=1000000 by omega)⟩ ⟨by omega,by omega⟩
 rintro ⟨s1,d1,t1,p1⟩ _;unfold oZ Ro.wp;dsimp only [Zb,Za];obtain ⟨D0,YY⟩:∃ D0,D0=oR r (cU l):=⟨_,rfl⟩;rw [<- YY];have WB:iJ r (cU l) (oR r (cU l)) 0=some D0:=by rw [iJ,YY]
 have hV0:=(pY dP hT).1;rw [<- YY] at hV0;refine aK (E:=118) (sz:=2) (v:=s1) (by exact .here) fun sa6 sc6 e3=>?_;subst e3;refine aK (E:=88) (sz:=3) (v:=d1) (by exact Take.there .here) fun da6 dc6 e3=>?_;subst e3;refine aK (E:=122) (sz:=3) (v:=t1) bE fun ta6 tc6 e3=>?_;subst e3;refine aK (E:=180) (sz:=3) (v:=p1) cI fun pa6 pc6 e3=>?_;subst e3
 (refine ak (.of I) (.of I) c7 I I (dO I I I I I I) (br I) ai<|Jn<|Jq<|Jr<|Ja I<|Jn<|J0 ?_)
 refine aV (ι:=Nat×List Po×(Option Addr×Nat)×(Option Addr×Nat)×(Option Addr×Nat)×(Option Addr×Nat)) (fun y=>y.1<=l.length/\iJ r (cU l) (oR r (cU l)) y.1=some y.2.1/\jy r y.2.1) (fun y=>[(12,.q (y.1:Nat)),(8,.p b8),(1,.slice a l.length cp),(2,.p b2),(4,.p b4)]) (fun y=>[row 118 2 (.slice y.2.2.1.1 r.sr.length y.2.2.1.2) r.sr.length (il r.sr),row 88 3 (.slice y.2.2.2.1.1 r.de.length y.2.2.2.1.2) r.de.length (gm r.de),row 122 3 (.slice y.2.2.2.2.1.1 r.ti.length y.2.2.2.2.1.2) r.ti.length (iC r.ti),row 180 3 (.slice y.2.2.2.2.2.1 (y.2.1).length y.2.2.2.2.2.2) (y.2.1).length (eF (y.2.1)),JQ b8 r (.slice y.2.2.1.1 r.sr.length y.2.2.1.2) (.slice y.2.2.2.1.1 r.de.length y.2.2.2.1.2) (.slice y.2.2.2.2.1.1 r.ti.length y.2.2.2.2.1.2) (.slice y.2.2.2.2.2.1 (y.2.1).length y.2.2.2.2.2.2),JQ b2 r s (.slice a2 r.de.length c8) t p,bu b4 (.cells #[.q 0,.q 0,.z,.z,.z,.z] 27 (0,0))]) (fun y=>l.length-y.1) ?_ ?_
 ·with_reducible apply aH (0,D0,(sa6,sc6),(da6,dc6),(ta6,tc6),(pa6,pc6)) ⟨Zi _,WB,hV0⟩
  case hs1=>exact bT
  case ht=>exact jv
 clear WB hV0 YY Dr hLd;rintro ⟨i,L,⟨Ox,Oo⟩,⟨Qk,Qj⟩,⟨N9,N5⟩,⟨OT,OR⟩⟩ ⟨hi,hL,hLV⟩;dsimp only at hi hL hLV ⊢;by_cases aL:i<l.length
 ·have cY:=ha (lo aL);have aF:=(hc i _ (Ed l aL)).2;have iP:=Zj aL;have Uh:=hM _ iP;have IC:(cU l).getD i Tk.zero=l[i].tk:=by unfold cU;rw [Zk,ZG,Zc aL];rfl
  have Ve:=hT.lv l[i].tk (Zaa iP);have Ru:=hT.de l[i].tk (Zaa iP);have gl:l[i].tk.de≠⟨#[]⟩:=YX.ne (.inr (.inl Ru));have ke:i<(cU l).length:=by omega
  have Vg:(cU l)[i]=l[i].tk:=Z1 _;have LJ:=fun k hk q h1=>K9 dP hT ke (k:=k) (q0:=L) (q:=q) hk hL h1
  have LQ:=fun k=>vu dP hT (Zj ke) (k:=k)
  rw [Vg] at LJ LQ;have TN:iJ r (cU l) (oR r (cU l)) (i+1)=mB r l[i].tk l[i].tk.so.length L:=by rw [iJ,hL,IC];rfl
  have hrf:=fun h2=>F1 (r:=r) (l:=cU l) (po:=oR r (cU l)) ke hL h2
  generalize hti:l[i]=ti at *;obtain ⟨tk,tv⟩:=ti;dsimp only at *;obtain ⟨sa,Ir,sb,Ol,rfl,Gm,sA,Pz,HK⟩:=Uh;rw [bG] at *;unfold maxLen at sA;have c0:w.cell? ⟨b,o+i*2,none⟩=some (.string tk.de):=aF 0 _ I;have c1:w.cell? ⟨b,o+i*2+1,none⟩=some (.slice sa tk.so.length Ir):=aF 1 _ I;refine Jq<|Jr<|Jv I<|Jv I<|JI I<|JA I<|Jn<|Jd I fun aA=>Jk<|Jq<|J0<|Jr<|Ja I<|Jn<|J0 ?_;refine aV (ι:=Nat×List Po×(Option Addr×Nat)×(Option Addr×Nat)×(Option Addr×Nat)×(Option Addr×Nat)) (fun y=>y.1<=tk.so.length/\mB r tk y.1 L=some y.2.1) (fun y=>[(13,.int .i64 (y.1:Nat)),(12,.int .i64 (i:Nat)),(8,.pointer (some ⟨b8,0,none⟩)),(1,.slice a l.length cp),(2,.pointer (some ⟨b2,0,none⟩)),(4,.pointer (some ⟨b4,0,none⟩))]) (fun y=>[row 118 2 (.slice y.2.2.1.1 r.sr.length y.2.2.1.2) r.sr.length (il r.sr),row 88 3 (.slice y.2.2.2.1.1 r.de.length y.2.2.2.1.2) r.de.length (gm r.de),row 122 3 (.slice y.2.2.2.2.1.1 r.ti.length y.2.2.2.2.1.2) r.ti.length (iC r.ti),row 180 3 (.slice y.2.2.2.2.2.1 (y.2.1).length y.2.2.2.2.2.2) (y.2.1).length (eF (y.2.1)),JQ b8 r (.slice y.2.2.1.1 r.sr.length y.2.2.1.2) (.slice y.2.2.2.1.1 r.de.length y.2.2.2.1.2) (.slice y.2.2.2.2.1.1 r.ti.length y.2.2.2.2.1.2) (.slice y.2.2.2.2.2.1 (y.2.1).length y.2.2.2.2.2.2),JQ b2 r s (.slice a2 r.de.length c8) t p,bu b4 (.cells #[.int .i64 0,.int .i64 0,.slice none 0 0,.slice none 0 0,.slice none 0 0,.slice none 0 0] 27 (0,0))]) (fun y=>tk.so.length-y.1) ?_ ?_
  ·with_reducible apply aH (0,L,(Ox,Oo),(Qk,Qj),(N9,N5),(OT,OR)) ⟨Zi _,I⟩
   case hs1=>exact bT
   case ht=>exact jv
  rintro ⟨k,L2,⟨Iu,It⟩,⟨IG,IF⟩,⟨Iq,Ip⟩,⟨Iw,Iv⟩⟩ ⟨hk,qB⟩;dsimp only at hk qB ⊢;obtain ⟨Ny,fA⟩:=LJ k hk L2 qB;have hfw:=j5 dP Ny;by_cases nu:k<tk.so.length
  ·have Bb:=Pz (iU nu);have Ba:w.cell? ⟨sb,Ol+k*1,none⟩=some (.string tk.so[k]):=(HK k _ (fH nu)).2 0 _ I;have fZ:tk.at k=tk.so[k]:=by unfold Tk.at;rw [Zk,Zc nu];rfl
   have hs2:mB r tk (k+1) L=if mC r tk k then (ln (r.wp L2) (k:Nat) tk.so[k] tk.de).map (fun p=>kV r L2 (k:Nat) tk.so[k] p tk.de) else some L2:=by rw [mB,qB,Option.bind_some,fZ]
   have WW:mC r tk k=true↔¬ ((tk.so[k]=⟨#[]⟩\/tk.so[k]=⟨#[45]⟩)\/tk.so[k]=jY r (k:Nat) tk.de):=by
    rw [k9,fZ];constructor
    ·rintro ⟨x1,x2,x3⟩ ((e | e) | e)
     ·exact x1 e
     ·exact x3 e
     ·exact x2 e
    ·intro e;exact ⟨fun c=>e (.inl (.inl c)),fun c=>e (.inr c),fun c=>e (.inl (.inr c))⟩
   have WV:=LQ k nu;rw [fZ] at WV;have yy:mC r tk k=true->lL r tk k=true:=fun c=>by
    obtain ⟨x1,x2,_⟩:=k9.1 c;exact lh.2 ⟨x1,x2⟩
   have te:∀ {w'},aI [] w w'->an T_ 131 [.agg #[.q r.lv,.q r.ma,s,.slice a2 r.de.length c8,t,p],.q (k:Nat),.string tk.de] w' (.string (jY r (k:Nat) tk.de)):=fun hk=>HR _ _ gl hk
   generalize jY r (k:Nat) tk.de=ck at *;generalize tk.so[k]=sk at *
   (refine Jq<|Jr<|Jv I<|bD I I ae<|JL I ek I<|JA I<|Jn<|Jd I fun aA=>Jk<|Jq<|J0<|Jr<|Jv I<|Jv I<|ab (ao (.of I) (.of I) cY (by omega) (by assumption) aW) I<|bD I I ae<|ab (ag (.of I) (At.base c1 I)) I<|Jv I<|ab (ao (.of I) (.of I) Bb (by omega) (by omega) aW) I<|ab (ag (.of I) (At.base Ba I)) I<|Ja I<|Jn<|Jq<|Jq ?_)
   with_reducible refine cz 18 (by kernel_rfl) ?_
   (refine fw I I<|aq (dD (.of I) (.of I)) I<|fw I I<|bM I I (fun hg bH=>(aQ (.of I))) I<|bM I I (fun hg bH=>(dD (.bW hg I) (.of I))) I<|aq (bV (.of I) I) I<|fw I I<|bM I I (fun hg bH=>(aQ (.of I))) I<|bM I I (fun hg bH=>(bQ (.of I) ek ai (by rfl))) I<|bM I I (fun hg bH=>(aQ (.of I))) I<|bM I I (fun hg bH=>(aQ (.of I))) I<|bM I I (fun hg bH=>(aQ (.of I))) I<|bM I I (fun hg bH=>(ao (.bW hg I) (.bW hg I) cY (by omega) (by assumption) aW)) I<|bM I I (fun hg bH=>(ar (.bW hg I) ae)) I<|bM I I (fun hg bH=>(ag (.bW hg I) (At.base c0 I))) I<|oM I I (fun hg=>(a7 (.of I) (.cons (.bW hg I) (.cons (.bW hg I) (.cons (.bW hg I) .nil))) inferInstance gF)) I (fun hg w' aB=>(te (Mem.keeps aB)))<|bM I I (fun hg bH=>(dD (.bW hg I) (.bW hg I))) I<|aq (bV (.of I) I) I ?_)
   with_reducible refine cC ?_
   (refine Jn<|oK I (fun aA=>?_) fun aA=>?_;refine Jp<|Jo<|Jt<|Jg<|Jv I<|JB I (by omega)<|Ja I<|Jn ?_;rotate_left;refine Jk<|Jq ?_;rotate_right)
   ·have hj:mC r tk k=false:=by
     rw [<- Zar];exact fun c=>WW.1 c aA
    rw [hj,if_neg (by decide)] at hs2
    with_reducible apply aG (k+1,L2,(Iu,It),(IG,IF),(Iq,Ip),(Iw,Iv)) ⟨Z6 nu,hs2⟩ (show tk.so.length-(k+1)<tk.so.length-k by omega)
    case hs1=>exact bT
    case ht=>exact jv
   have hj:mC r tk k=true:=WW.2 (fun c=>c.elim (fun c=>c.elim aA.1.1 aA.1.2) aA.2)
   obtain ⟨⟨j1,j2⟩,rp,W9,_⟩:=WV hj;have Bg:=fA k (Zv _) nu (yy hj);rw [hj,if_pos I] at hs2;have Xd:=MA fP Ny;have iB:=dP.nd;obtain ⟨E,hE⟩:∃ E,E=OI (r.wp L2) (k:Nat) sk tk.de:=⟨_,rfl⟩;obtain ⟨W,hW⟩:∃ W,W=SU (r.wp L2) (k:Nat) sk tk.de:=⟨_,rfl⟩
   with_reducible refine dL 14 (by kernel_rfl) ?_
   (refine au (fun β=>(bQ (.of I) c7 ai (by rfl))) ba I<|au (fun β=>(aQ (.of I))) ba I<|au (fun β=>(aQ (.of I))) ba I<|au (fun β=>(aQ (.of I))) ba I<|au (fun β=>(aQ (.of I))) ba I<|au (fun β=>(ao (.of I) (.of I) cY (by omega) (by assumption) aW)) ba I<|au (fun β=>(ar (.of I) ae)) ba I<|au (fun β=>(ag (.of I) (At.base c0 I))) ba I ?_)
   dsimp only [Nat.zero_add,Nat.reduceAdd]
   with_reducible apply dZ (ι:=Ig W) (Φ:=fun _=>True) (val:=fun x=>.tuple #[x.1.1,.q E]) (own:=fun x=>[iM 9 x.1.2.1 x.1.2.2]) (g:=HV W) (B:=[]) (args:=fun _=>[.agg #[.q r.lv,.q r.ma,.slice Iu r.sr.length It,.slice IG r.de.length IF,.slice Iq r.ti.length Ip,.slice Iw (L2).length Iv],.q (k:Nat),.string sk,.string tk.de])
   case hg=>exact P1 W
   case hB=>rfl
   case hr=>exact fun β=>a7 (.of I) (.o I (.o I (.o I (.o I .nil)))) inferInstance I
   case hd=>rfl
   case hc=>
    intro β w' hb;rw [hE,hW];exact a8.sub (VE (r:=r.wp L2) (k:Nat) sk tk.de (RR.wp (r:=r) (po:=L2) (cF hb.mem (by exact .here) I) (cH hb.mem (by exact Take.there .here) I) (cE hb.mem bE I) (cq hb.mem cI I)) Xd rp W9 iB)
   dsimp only [Nat.reduceAdd]
   with_reducible apply au (F:=fun β=>.tuple #[(HV W (β 8)).1.1,.q E])
   case hr=>(intro β;exact aQ (.of I))
   case hi=>exact fun β β' h=>by simp only [h 8 (by kernel_rfl)]
   case hd=>rfl
   dsimp only [Nat.reduceAdd]
   with_reducible apply au (F:=fun β=>(HV W (β 8)).1.1)
   case hr=>(intro β;exact dG (.of I) I)
   case hi=>exact fun β β' h=>by simp only [h 8 (by kernel_rfl)]
   case hd=>rfl
   dsimp only [Nat.reduceAdd]
   with_reducible apply au (F:=fun β=>.q E)
   case hr=>(intro β;exact dG (.of I) I)
   case hi=>exact ba
   case hd=>rfl
   dsimp only [Nat.reduceAdd]
   with_reducible apply au (F:=fun β=>(HV W (β 8)).1.1)
   case hr=>(intro β;exact cX (.of I))
   case hi=>exact fun β β' h=>by simp only [h 8 (by kernel_rfl)]
   case hd=>rfl
   dsimp only [Nat.reduceAdd]
   with_reducible apply au (F:=fun β=>.q E)
   case hr=>(intro β;exact cX (.of I))
   case hi=>exact ba
   case hd=>rfl
   dsimp only [Nat.reduceAdd];refine eN fun β=>?_;dsimp only [dW,Za,Zb,List.append_eq,Nat.reduceAdd];generalize HV W (β 8)=y;obtain ⟨⟨wv,vs,xs⟩,mT⟩:=y;clear β;dsimp only at mT ⊢
   with_reducible refine cn (by kernel_rfl) ?_
   refine FL (fun w' aB=>Sa.shape (Mem.F2 aB (by exact .here) mT)) fun U8=>?_;obtain ⟨wa,wc,rfl,TA⟩:=U8
   (refine Jt<|Jq<|Jr<|Jv I<|JD I<|Jn<|gL I (fun aA=>?_) fun aA=>?_;refine Jr<|ab (aU .nil ai) I<|Jv I<|Jv I<|ak (.of I) (.of I) tV I I (dO I I I I I I) (br I) ai<|Ja I<|Ja I<|Jn<|Ju<|Jm<|Jh<|Jh<|Jm<|Jm<|Jh<|Jh<|Jm<|Jh ?_;rotate_left;refine Jk<|Jr<|Jv I<|Ja I<|Jn<|Jq<|Jr<|Ja I<|Jn<|J0 ?_;rotate_right)
   ·have hP:ln (r.wp L2) (k:Nat) sk tk.de=none:=by
     cases e:ln (r.wp L2) (k:Nat) sk tk.de with
     | none=>rfl
     | some p=>exact absurd (by rw [hE];unfold OI;rw [e];rfl) aA
    have acb:E=18:=by rw [hE];unfold OI;rw [hP];rfl
    have e1:mB r tk (k+1) L=none:=by rw [hs2,hP];rfl
    have e2:iJ r (cU l) (oR r (cU l)) (i+1)=none:=by rw [TN];exact y9 e1 (by omega)
    have e3:=tt e2 (m:=(cU l).length) (by omega);have e4:fX r (cU l)=(Ro.nil,((i:Nat):Int),18):=by
     unfold fX;rw [if_neg Xu];show (match iJ r (cU l) (oR r (cU l)) (cU l).length with | none=>(Ro.nil,((Ev r (cU l) (oR r (cU l)):Nat):Int),(18:Int)) | some po=>(r.wp po,0,0))=_
     rw [e3,hrf e2]
    clear hE;subst acb;rw [e4];dsimp only;refine aJ 118 2 ?_;refine aJ 88 3 ?_;refine aJ 122 3 ?_;refine aJ 180 3 ?_
    with_reducible first|apply aO|apply aP
    case he=>exact ki I inferInstance I c7 ai (by rfl) (by rfl) (by rfl)
    case hR=>
     intro w' aB;exact aC (.z,.z,.z,.z) trivial (by exact .cons cI (.cons bE (.cons (.there .here) (.h1 .nil)))) aB I
   have Xv:E=0:=Zq.1 aA;clear aA;obtain ⟨xp,hP⟩:∃ xp,ln (r.wp L2) (k:Nat) sk tk.de=some xp:=by
    cases e:ln (r.wp L2) (k:Nat) sk tk.de with
    | none=>rw [hE] at Xv;unfold OI at Xv;rw [e] at Xv;cases Xv
    | some p=>exact ⟨p,rfl⟩
   have hWm:W=xp.map (dq r):=by rw [hW];unfold SU;rw [hP];rfl
   clear hW hE Xv;have hle:(dJ r L2 (k:Nat) sk).least (ll r tk.de) xp:=FA hP;have gS:mB r tk (k+1) L=some (kV r L2 (k:Nat) sk xp tk.de):=by rw [hs2,hP];rfl
   have hVn:=Cy dP ⟨j1,j2⟩ Ny rp W9 Bg hle;have hxp:∀ i∈xp,i<r.ti.length:=Wn.sq hle.1;have Pu:xp.length<=6:=by have:=Wn.ri hle.1;have h6:(dJ r L2 (k:Nat) sk).n=r.ti.length:=rfl;omega
   have Ry:W.length=xp.length:=by rw [hWm,Zd]
   have U6:=fun j=>zZ (r:=r) (v:=(k:Nat)) (fun x hx=>YX.ne (.inr (.inr hx))) (xp.take j) L2 sk (fun i hi=>hxp i (Zax hi)) (fun q hq=>Lp Xd q hq) (YX.ne (.inl rp))
   skip
   refine aV (ι:=Nat×ByteArray×List Po×(Option Addr×Nat)×(Option Addr×Nat)×(Option Addr×Nat)×(Option Addr×Nat)) (fun y=>y.1<=W.length/\gY r (k:Nat) L2 sk (xp.take y.1)=(y.2.2.1,y.2.1)) (fun y=>[(18,.q (y.1:Nat)),(17,.string y.2.1),(15,.slice wa W.length wc),(14,.string sk),(13,.q (k:Nat)),(12,.q (i:Nat)),(8,.p b8),(1,.slice a l.length cp),(2,.p b2),(4,.p b4)]) (fun y=>[row 118 2 (.slice y.2.2.2.1.1 r.sr.length y.2.2.2.1.2) r.sr.length (il r.sr),row 88 3 (.slice y.2.2.2.2.1.1 r.de.length y.2.2.2.2.1.2) r.de.length (gm r.de),row 122 3 (.slice y.2.2.2.2.2.1.1 r.ti.length y.2.2.2.2.2.1.2) r.ti.length (iC r.ti),row 180 3 (.slice y.2.2.2.2.2.2.1 (y.2.2.1).length y.2.2.2.2.2.2.2) (y.2.2.1).length (eF (y.2.2.1)),JQ b8 r (.slice y.2.2.2.1.1 r.sr.length y.2.2.2.1.2) (.slice y.2.2.2.2.1.1 r.de.length y.2.2.2.2.1.2) (.slice y.2.2.2.2.2.1.1 r.ti.length y.2.2.2.2.2.1.2) (.slice y.2.2.2.2.2.2.1 (y.2.2.1).length y.2.2.2.2.2.2.2),iM 9 vs xs,JQ b2 r s (.slice a2 r.de.length c8) t p,bu b4 (.cells #[.q 0,.q 0,.z,.z,.z,.z] 27 (0,0))]) (fun y=>W.length-y.1) ?_ ?_
   ·with_reducible apply aH (0,sk,L2,(Iu,It),(IG,IF),(Iq,Ip),(Iw,Iv)) ⟨Zi _,I⟩
    case hs1=>exact bT
    case ht=>exact jv
   rintro ⟨j,fr,q,⟨SJ,SH⟩,⟨UD,UC⟩,⟨Sx,Sv⟩,⟨S6,S5⟩⟩ ⟨hj6,U5⟩;dsimp only at hj6 U5 ⊢;obtain ⟨o8,my,uw⟩:=U6 j;rw [U5] at o8 my uw;dsimp only at o8 my uw;have ahz:q.length<=100:=by
                   have:(xp.take j).length<=xp.length:=by rw [Zs];omega
                   omega
   have YQ:gU (r.wp q):=⟨hf.1,hf.2.1,hf.2.2.1,(show q.length<=1000000 by omega)⟩;by_cases IB:j<W.length
   ·have hjx:j<xp.length:=by omega
    have bb:=GY (r:=r) (v:=(k:Nat)) (po:=L2) (x:=sk) hjx;rw [U5] at bb;dsimp only at bb;obtain ⟨wb,wo,rfl⟩:=TA (by intro e;rw [e] at IB;exact absurd IB (ZV _));have zx:W[j]=dq r xp[j]:=by simp only [hWm,Z1]
    have Ub:=XX o8 (k:Nat) W[j];rw [<- zx] at bb;have Vf:∀ w',RR w' (r.wp q) (.slice SJ r.sr.length SH) (.slice UD r.de.length UC) (.slice Sx r.ti.length Sv) (.slice S6 (q).length S5)->an T_ 133 [.agg #[.q r.lv,.q r.ma,.slice SJ r.sr.length SH,.slice UD r.de.length UC,.slice Sx r.ti.length Sv,.slice S6 (q).length S5],.q (k:Nat),.string W[j]] w' (.string ((eD q (k:Nat) W[j]).getD ⟨#[]⟩)):=fun w' hR=>qz _ _ hR
    have Xt:∀ hs hs',Take hs (iM 9 vs xs) hs'->At ⟨w,[],f50.ntmps⟩ hs wb (wo+j*1) (.string W[j]):=fun hs hs' ht=>At.yp ht mT IB I
    generalize W[j]=nm at bb Ub Vf Xt;refine Jq<|Jr<|Jv I<|Jv I<|JI I<|JA I<|Jn<|Jd I fun aA=>Jk<|Jq<|J0<|Jq<|Jq ?_
    with_reducible refine cz 8 (by kernel_rfl) ?_
    (refine aq (bU c7) I<|fw I I<|fw I I<|fw I I<|aq (ao (.of I) (.of I) I (by omega) aA aW) I ?_)
    refine aq (ag (.of I) (Xt _ _ ek)) I ?_
    (refine cW dU I (fun w' aB=>(Vf w' (RR.wp (cF aB .here I) (cH aB (.there .here) I) (cE aB bE I) (cq aB cI I))))<|aq (dD (.of I) (.of I)) I ?_)
    with_reducible refine cC ?_
    (refine Jn<|gL I (fun aA=>?_) fun aA=>?_;rotate_left;refine Jk<|Jg<|Jv I<|Jv I<|ab (ao (.of I) (.of I) I (by omega) (by assumption) aW) I ?_;rotate_right)
    ·have hb:=Ub.1 aA;rw [hb,if_neg (by decide)] at bb
     with_reducible refine dL 9 (by kernel_rfl) ?_
     refine au (fun β=>(bQ (.of I) c7 ai (by rfl))) ba I ?_;refine au (fun β=>(aQ (.of I))) ba I ?_;refine au (fun β=>(aQ (.of I))) ba I ?_;refine au (fun β=>(aQ (.of I))) ba I ?_;refine au (fun β=>(ao (.of I) (.of I) I (by omega) (by assumption) aW)) ba I ?_;refine au (fun β=>(ag (.of I) (Xt _ _ ek))) ba I ?_;refine au (fun β=>(aQ (.of I))) ba I ?_;refine au (fun β=>(aU (.o I (.o I (.o I .nil))) ai)) ba I ?_;dsimp only [Nat.zero_add,Nat.reduceAdd]
     with_reducible apply dZ (ι:=Value×Value×Value×Value) (Φ:=fun _=>True) (val:=fun x=>.agg #[.q r.lv,.q r.ma,x.1,x.2.1,x.2.2.1,x.2.2.2]) (own:=fun x=>oZ (r.wp (eJ r ⟨(k:Nat),nm,fr⟩ q)) x) (g:=g4) (B:=[]) (args:=fun _=>[.agg #[.q r.lv,.q r.ma,.slice SJ r.sr.length SH,.slice UD r.de.length UC,.slice Sx r.ti.length Sv,.slice S6 (q).length S5],.agg #[.q (k:Nat),.string nm,.string fr]])
     case hg=>exact mh
     case hB=>rfl
     case hr=>exact fun β=>a7 (.of I) ((.o I (.o I .nil))) inferInstance I
     case hd=>rfl
     case hc=>exact fun β w' hb=>QS (r:=r) (q:=q) (x:=⟨(k:Nat),nm,fr⟩) (RR.wp (r:=r) (po:=q) (cF hb.mem (by exact .here) I) (cH hb.mem (by exact Take.there .here) I) (cE hb.mem bE I) (cq hb.mem cI I)) YQ
     refine eN fun β=>?_;unfold oZ Ro.wp;dsimp only [dW,Za,Zb,List.append_eq,Nat.reduceAdd];generalize g4 (β 8)=y;obtain ⟨s5,d5,t5,p5⟩:=y;clear β;dsimp only;generalize eJ r ⟨(k:Nat),nm,fr⟩ q=z at bb ⊢;refine aK (E:=118) (sz:=2) (v:=s5) (by exact .here) fun QU QT e3=>?_;subst e3;refine aK (E:=88) (sz:=3) (v:=d5) (by exact Take.there .here) fun RT RS e3=>?_;subst e3;refine aK (E:=122) (sz:=3) (v:=t5) bE fun QP QO e3=>?_;subst e3;refine aK (E:=180) (sz:=3) (v:=p5) cI fun QY QX e3=>?_;subst e3;refine dS [row 118 2 (.slice QU r.sr.length QT) r.sr.length (il r.sr),row 88 3 (.slice RT r.de.length RS) r.de.length (gm r.de),row 122 3 (.slice QP r.ti.length QO) r.ti.length (iC r.ti),row 180 3 (.slice QY (z).length QX) (z).length (eF (z)),JQ b8 r (.slice SJ r.sr.length SH) (.slice UD r.de.length UC) (.slice Sx r.ti.length Sv) (.slice S6 (q).length S5),iM 9 vs xs,JQ b2 r s (.slice a2 r.de.length c8) t p,bu b4 (.cells #[.int .i64 0,.int .i64 0,.slice none 0 0,.slice none 0 0,.slice none 0 0,.slice none 0 0] 27 (0,0))] (by exact .h4 (.cons c7 (.cons c7 (.cons c7 (.cons c7 .nil))))) ?_;refine bF (rs:=[9]) (by kernel_rfl) (by simp) (Zp.2 ⟨?_,fun _ h=>absurd h Zo⟩);refine bK I ?_
     (refine ak (.of I) (.of I) c7 I I (dO I I I I I I) (br I) ai<|Jn ?_)
     with_reducible refine cn (by kernel_rfl) ?_
     refine Jt<|Jg<|Jv I<|Jv I<|ab (ao (.of I) (.of I) I (by omega) (by assumption) aW) I ?_;refine ab (ag (.of I) (Xt _ _ ek)) I ?_;refine Ja I<|Jx<|Jj<|Jt<|Jg<|Jv I<|JB I (by omega)<|Ja I<|Jn ?_
     with_reducible apply aG (j+1,nm,z,(QU,QT),(RT,RS),(QP,QO),(QY,QX)) ⟨Z6 IB,bb⟩ (show W.length-(j+1)<W.length-j by omega)
     case hs1=>exact bT
     case ht=>exact jv
    ·have hb:gI q (k:Nat) nm=true:=by
      cases e:gI q (k:Nat) nm with
      | false=>exact absurd (Ub.2 e) aA
      | true=>rfl
     rw [hb,if_pos I] at bb;refine ab (ag (.of I) (Xt _ _ ek)) I ?_;refine Ja I<|Jx<|Jj<|Jt<|Jg<|Jv I<|JB I (by omega)<|Ja I<|Jn ?_
     with_reducible apply aG (j+1,nm,q,(SJ,SH),(UD,UC),(Sx,Sv),(S6,S5)) ⟨Z6 IB,bb⟩ (show W.length-(j+1)<W.length-j by omega)
     case hs1=>exact bT
     case ht=>exact jv
   ·have hjx:j=xp.length:=by omega
    rw [hjx,ZL] at U5;have bb:kV r L2 (k:Nat) sk xp tk.de=eJ r ⟨(k:Nat),tk.de,fr⟩ q:=by unfold kV;rw [U5]
    rw [bb] at gS;clear bb IB hj6 U5;refine Jq<|Jr<|Jv I<|Jv I<|JI I<|JA I<|Jn<|Jc I fun aA=>Jp<|Jl<|Jo<|Jt ?_
    with_reducible refine dL 10 (by kernel_rfl) ?_
    (refine au (fun β=>(bQ (.of I) c7 ai (by rfl))) ba I<|au (fun β=>(aQ (.of I))) ba I<|au (fun β=>(aQ (.of I))) ba I<|au (fun β=>(aQ (.of I))) ba I<|au (fun β=>(ao (.of I) (.of I) cY (by omega) (by assumption) aW)) ba I<|au (fun β=>(ar (.of I) ae)) ba I<|au (fun β=>(ag (.of I) (At.base c0 I))) ba I<|au (fun β=>(aQ (.of I))) ba I<|au (fun β=>(aU (.o I (.o I (.o I .nil))) ai)) ba I ?_)
    dsimp only [Nat.zero_add,Nat.reduceAdd]
    with_reducible apply dZ (ι:=Value×Value×Value×Value) (Φ:=fun _=>True) (val:=fun x=>.agg #[.q r.lv,.q r.ma,x.1,x.2.1,x.2.2.1,x.2.2.2]) (own:=fun x=>oZ (r.wp (eJ r ⟨(k:Nat),tk.de,fr⟩ q)) x) (g:=g4) (B:=[]) (args:=fun _=>[.agg #[.q r.lv,.q r.ma,.slice SJ r.sr.length SH,.slice UD r.de.length UC,.slice Sx r.ti.length Sv,.slice S6 (q).length S5],.agg #[.q (k:Nat),.string tk.de,.string fr]])
    case hg=>exact mh
    case hB=>rfl
    case hr=>exact fun β=>a7 (.of I) ((.o I (.o I .nil))) inferInstance I
    case hd=>rfl
    case hc=>exact fun β w' hb=>QS (r:=r) (q:=q) (x:=⟨(k:Nat),tk.de,fr⟩) (RR.wp (r:=r) (po:=q) (cF hb.mem (by exact .here) I) (cH hb.mem (by exact Take.there .here) I) (cE hb.mem bE I) (cq hb.mem cI I)) YQ
    refine eN fun β=>?_;unfold oZ Ro.wp;dsimp only [dW,Za,Zb,List.append_eq,Nat.reduceAdd];generalize g4 (β 9)=y;obtain ⟨s5,d5,t5,p5⟩:=y;clear β;dsimp only;generalize eJ r ⟨(k:Nat),tk.de,fr⟩ q=z at gS ⊢;refine aK (E:=118) (sz:=2) (v:=s5) (by exact .here) fun QU QT e3=>?_;subst e3;refine aK (E:=88) (sz:=3) (v:=d5) (by exact Take.there .here) fun RT RS e3=>?_;subst e3;refine aK (E:=122) (sz:=3) (v:=t5) bE fun QP QO e3=>?_;subst e3;refine aK (E:=180) (sz:=3) (v:=p5) cI fun QY QX e3=>?_;subst e3;refine dS [row 118 2 (.slice QU r.sr.length QT) r.sr.length (il r.sr),row 88 3 (.slice RT r.de.length RS) r.de.length (gm r.de),row 122 3 (.slice QP r.ti.length QO) r.ti.length (iC r.ti),row 180 3 (.slice QY (z).length QX) (z).length (eF (z)),JQ b8 r (.slice SJ r.sr.length SH) (.slice UD r.de.length UC) (.slice Sx r.ti.length Sv) (.slice S6 (q).length S5),JQ b2 r s (.slice a2 r.de.length c8) t p,bu b4 (.cells #[.int .i64 0,.int .i64 0,.slice none 0 0,.slice none 0 0,.slice none 0 0,.slice none 0 0] 27 (0,0))] (by exact .h4 (.cons c7 (.cons ek (.cons ek .nil)))) ?_;refine bF (rs:=[10]) (by kernel_rfl) (by simp) (Zp.2 ⟨?_,fun _ h=>absurd h Zo⟩);refine bK I ?_
    (refine ak (.of I) (.of I) c7 I I (dO I I I I I I) (br I) ai<|Jn ?_)
    with_reducible refine cn (by kernel_rfl) ?_
    refine Jj<|Jt<|Jg<|Jv I<|JB I (by omega)<|Ja I<|Jn ?_
    with_reducible apply aG (k+1,z,(QU,QT),(RT,RS),(QP,QO),(QY,QX)) ⟨Z6 nu,gS⟩ (show tk.so.length-(k+1)<tk.so.length-k by omega)
    case hs1=>exact bT
    case ht=>exact jv
  ·have e:k=tk.so.length:=by omega
   subst e;have hne:iJ r (cU l) (oR r (cU l)) (i+1)=some L2:=by rw [TN,qB]
   (refine Jq<|Jr<|Jv I<|bD I I ae<|JL I ek I<|JA I<|Jn<|Jc I fun aA=>Jp<|Jl<|Jo<|Jj<|Jt<|Jg<|Jv I<|JB I (by omega)<|Ja I<|Jn ?_)
   with_reducible apply aG (i+1,L2,(Iu,It),(IG,IF),(Iq,Ip),(Iw,Iv)) ⟨Z6 aL,hne,Ny⟩ (show l.length-(i+1)<l.length-i by omega)
   case hs1=>exact bT
   case ht=>exact jv
 ·have e:i=l.length:=by omega
  subst e;have e4:fX r (cU l)=(r.wp L,0,0):=by
   unfold fX;rw [if_neg Xu];show (match iJ r (cU l) (oR r (cU l)) (cU l).length with | none=>(Ro.nil,((Ev r (cU l) (oR r (cU l)):Nat):Int),(18:Int)) | some po=>(r.wp po,0,0))=_
   rw [uu,hL]
  rw [e4];dsimp only
  (refine Jq<|Jr<|Jv I<|Jv I<|JI I<|JA I<|Jn<|Jc I fun aA=>Jp<|Jl<|Jo<|Jt<|Jr<|ab (bU c7) I<|ak (.of I) (.of I) nR I I (dO I I I I I I) (br I) ai<|Ja I<|Ja I<|Jn<|Je ?_)
  with_reducible first|apply aO|apply aP
  case he=>exact ki I inferInstance I .here ai (by rfl) (by rfl) (by rfl)
  case hR=>
   intro w' aB;exact aC (.slice Ox r.sr.length Oo,.slice Qk r.de.length Qj,.slice N9 r.ti.length N5,.slice OT (L).length OR) trivial (by exact .cons (.there .here) (.cons (.there .here) (.cons (.there .here) (.cons (.there .here) .nil)))) aB I


theorem jj {r' q:Ro} {s d t p s' d' t' p':Value} {e bad:Int} (h:RR w r' s d t p) (hf:gU r') (h':RR w q s' d' t' p') (e1:e=bad) (e2:bad≠0->r'=Ro.nil) (e3:bad=0->r'=q):an T_ 52 [RA r' s d t p,.q e,.q bad,RA q s' d' t' p'] w (.bool true):=by
 obtain ⟨h1,h2,h3,h4⟩:=h.one;have h5:=Rd.one h'.sr;have h6:=Rd.one h'.de;have h7:=Rd.one h'.ti;have h8:=Rd.one h'.po;subst e1;unfold RA;refine aj func52 I I ?_
 (refine Jr<|Jy I I fun _ _=>Jy I I fun _ _=>Ja I<|Jn<|Jq<|Jr<|Jv I<|JD I<|Jn<|gL I (fun aA=>?_) fun aA=>?_;refine Jr<|Jv I<|Jv I<|ab (vh (.of I) (.of I) I) I<|Jv I<|JK I I<|ab (bU (.there .here)) I<|JK I I ?_;rotate_left;refine Jk<|Jq ?_;rotate_right)
 ·have er:=e2 aA;subst er;refine JN bJ I (fun w1 aT=>Al (h.keeps aT.keeps) hf) ?_;rintro ⟨s1,d1,t1,p1⟩ _;dsimp only;unfold RA;refine gO (r:=Ro.nil) (s:=s1) (d:=d1) (t:=t1) (p:=p1) (bo _ _) fun k1 k2 k3 k4=>?_
  (refine JK I I<|ab (aU .nil ai) I<|JK I I ?_)
  with_reducible apply ah
  case hr=>exact bn
  case hd=>rfl
  case hc=>
   intro w1 aT;have hR1:RR w1 Ro.nil s1 d1 t1 p1:=⟨cF aT (by exact .here) I,cH aT (by exact Take.there .here) I,cE aT bE I,cq aT cI I⟩;have hR2:RR w1 Ro.nil (.z) (.z) (.z) (.z):=⟨Rd.nil _ 2,Rd.nil _ 3,Rd.nil _ 3,Rd.nil _ 3⟩;have:=Fp hR1 hR2;rwa [decide_eq_true I] at this
  (refine ab (fQ (.of I) (.of I) (.of I) I) I<|Ja I<|Jn<|Ju<|JT ?_)
  rfl
 ·have e0:e=0:=Zq.1 aA;have er:=e3 e0;subst er;subst e0;clear aA e2 e3
  with_reducible refine dL 9 (by kernel_rfl) ?_
  refine au (fun β=>(aQ (.of I))) ba I ?_;refine au (fun β=>(vh (.of I) (.of I) I)) ba I ?_;refine au (fun β=>(aQ (.of I))) ba I ?_;refine dp I (fun _=>rfl) ?_;refine au (fun β=>(bQ (.of I) (.there .here) ai (by rfl))) ba I ?_;refine dp I (fun _=>rfl) ?_;dsimp only [Nat.zero_add,Nat.reduceAdd]
  with_reducible apply dZ (ι:=Value×Value×Value×Value) (Φ:=fun _=>True) (val:=fun x=>.agg #[.q r'.lv,.q r'.ma,x.1,x.2.1,x.2.2.1,x.2.2.2]) (own:=fun x=>oZ r' x) (g:=g4) (B:=[]) (args:=fun _=>[.agg #[.q r'.lv,.q r'.ma,s,d,t,p]])
  case hg=>exact mh
  case hB=>rfl
  case hr=>exact fun β=>a7 (.of I) (.o I .nil) inferInstance I
  case hd=>rfl
  case hc=>exact fun β w' hb=>Al (h.keeps hb.mem.keeps) hf
  dsimp only [Nat.reduceAdd];refine dp I (fun _=>rfl) ?_;refine au (fun β=>(bQ (.of I) .here ai (by rfl))) ba I ?_;refine dp I (fun _=>rfl) ?_;dsimp only [Nat.reduceAdd]
  with_reducible apply cj (B:=[4]) (F:=fun _=>.bool true) (args:=fun β=>[.agg #[.q r'.lv,.q r'.ma,(g4 (β 4)).1,(g4 (β 4)).2.1,(g4 (β 4)).2.2.1,(g4 (β 4)).2.2.2],.agg #[.q r'.lv,.q r'.ma,s',d',t',p']])
  case hB=>kernel_rfl
  case hr=>exact fun β=>a7 (.of I) (.o I (.o I .nil)) inferInstance I
  case hi=>exact ba
  case hd=>rfl
  case hc=>
   intro β w' hb;have m1:=hb.at 4 Zr (s:=⟨fun β=>.agg #[.q r'.lv,.q r'.ma,(g4 (β 4)).1,(g4 (β 4)).2.1,(g4 (β 4)).2.2.1,(g4 (β 4)).2.2.2],fun β=>oZ r' (g4 (β 4))⟩) I
   dsimp only at m1;have:=Fp (QW m1 (bo _ _)) (h'.keeps hb.mem.keeps);rwa [decide_eq_true I] at this
  dsimp only [Nat.reduceAdd]
  with_reducible apply au (F:=fun _=>.bool true)
  case hr=>
   intro β
   with_reducible apply fQ
   case hx=>exact Is.of I
   case hy=>exact Is.of I
   case hz=>exact Is.of I
   case e=>rfl
  case hi=>exact ba
  case hd=>rfl
  refine au (fun β=>(cX (.of I))) ba I ?_;refine eN fun β=>?_;unfold oZ;dsimp only [dW,Za,Zb,List.append_eq,Nat.reduceAdd];generalize g4 (β 4)=ya;clear β
  with_reducible refine cn (by kernel_rfl) ?_
  refine Jt<|Je<|JT ?_
  rfl
theorem Hh (L:List ByteArray) (x:ByteArray):aR (L++[x])=aR L++[.string x]:=eU _ _
theorem Ow {r q:Ro} {i e_:Int} {s d t p kv:Value} {k:List Tk} (hk:cU l=k) (e:fX r k=(q,i,e_)) (h:RR w r s d t p) (fP:fm r=0) (hw:Rd w kv 2 (jP l)) (hM:vK w l) (hT:GV r k) :
  a8 T_ 50 [.agg #[.q r.lv,.q r.ma,s,d,t,p],kv] w [] (fun _:Value×Value×Value×Value=>True) (fun x=>.tuple #[.agg #[.q q.lv,.q q.ma,x.1,x.2.1,x.2.2.1,x.2.2.2],.q i,.q e_]) (fun x=>oZ q x):=by
 subst hk;have:=Ov h fP hw hM hT;rw [e] at this;exact this
theorem VS {c:Cx} {hs hs':List bd} (hm:Mem c hs w) {b:Nat} {x y:Value} {E:TypeId} {fz:Nat×Nat} (ht:Take hs (bu b (.cells #[x,y] E fz)) hs'):Rd w (.w b 1 1) 2 [[x,y]]:=by
 refine ⟨_,1,b,0,I,Zv _,by unfold maxLen;decide,fun _=>rfl,fun i r hr=>?_⟩;cases i with
 | succ i=>simp at hr
 | zero =>
  obtain rfl:[x,y]=r:=by simpa using hr
  refine ⟨I,fun j u hu=>?_⟩;rw [cell_of_block (hm.bu ht)]
  match j,hu with
  | 0,hu=>simpa using hu
  | 1,hu=>simpa using hu


end Go.Proofs.A1
namespace Go.Proofs.A1
open Go Go.SL
end Go.Proofs.A1
namespace Go.Proofs.A1
open Go Go.SL
end Go.Proofs.A1
namespace Go.Proofs.A1
open Go Go.SL

end Go.Proofs.A1
namespace Go.Proofs.A1
open Go Go.SL
open Tryz
open Tryz renaming prog->T_
theorem vX (w:World):RR w Ro.nil (.z) (.z) (.z) (.z):=⟨Rd.nil w 2,Rd.nil w 3,Rd.nil w 3,Rd.nil w 3⟩
set_option maxHeartbeats 1000000 in
theorem CQ {r:Ro} {s d t p:Value} (o:ByteArray) (q:Bool) (Dm:o∈cu r) {w:World} (h:RR w r s d t p) (Bo:gU r) :
  a8 T_ 82 [RA r s d t p,.string o,.bool q] w [] (fun _:Value×Value×Value×Value=>True) (fun x=>RA (r.uL o q) x.1 x.2.1 x.2.2.1 x.2.2.2) (fun x=>oZ (r.uL o q) x):=by
 obtain ⟨h1,h2,h3,h4⟩:=h.one;obtain ⟨j0,rO⟩:∃ i:Nat,bB (cu r) o=(i:Nat):=⟨(bB (cu r) o).toNat,by have:=dK Dm;omega⟩;have Bf:j0<r.de.length:=by
  obtain ⟨hl,_⟩:=fk (l:=cu r) (s:=o) (by omega);rw [rO,ZE] at hl;unfold cu at hl;rwa [Zd] at hl
 have hdd:∀ w',aI [] w w'->an T_ 56 [.agg #[.q r.lv,.q r.ma,s,d,t,p],.string o] w' (.q (j0:Nat)):=fun w' hk=>rO ▸ qE o (h.keeps hk)
 unfold RA;refine aS func82 I I ?_;refine Jr<|Jy I I fun _ _=>Jz I I fun _ _=>Ji<|ab (bU (.there .here)) I ?_;rename_i b3 rz b6 Vk;refine JN bJ I (fun w1 aT=>CT (h.keeps aT.keeps) Bo) ?_;rintro ⟨s1,d1,t1,p1⟩ _
 try dsimp only [id_eq,Zb,Za]
 refine gO (r:=r) (s:=s1) (d:=d1) (t:=t1) (p:=p1) (bo _ _) fun k1 k2 k3 k4=>?_;unfold RA
 (refine Jz I I fun _ _=>ak (.of I) (.of I) .here I I (dO I I k1 k2 k3 k4) (br I) ai<|Jn<|Jq ?_)
 rename_i b7 Ud;refine cm (E:=88) (sz:=3) (v:=d1) bE (by omega) fun gd cap cur e yw sF ru Nx=>?_;subst e;have p0:=Mq r.de cur Bf q;have hle:j0*3+2+1<=(gm r.de++cur).length:=by rw [Zg,oI];omega
 with_reducible refine cz 8 (by kernel_rfl) ?_
 (refine jH I I ae<|aq (gn (.there .here)) I<|aq (bU nR) I<|fw I I<|cW bn I (fun w' aB=>(hdd w' (Mem.keeps aB)))<|fw I I<|aq (ao (.of I) (.of I) I (by omega) (by omega) aW) I<|jH I I ae ?_)
 with_reducible refine cC ?_
 (refine ak (.of I) (.of I) .here I I (dE I) hle p0<|Ji<|ab (bU (.there .here)) I<|ak (.of I) (.of I) ek I I (dO I I k1 I k3 k4) (br I) ai<|Jn<|Je ?_)
 have hpr:r.uL o q=⟨r.lv,r.ma,r.sr,r.de.modify j0 fun x=>⟨x.nm,x.mx,q⟩,r.ti,r.po⟩:=by unfold Ro.uL;rw [rO,ZE]
 have mS:(r.de.modify j0 fun x=>(⟨x.nm,x.mx,q⟩:De)).length=r.de.length:=List.length_modify _ _ _
 rw [hpr];generalize (r.de.modify j0 fun x=>(⟨x.nm,x.mx,q⟩:De))=D' at *
 have oE:(gm D'++cur).length=cap*3:=by rw [Zg,oI] at ru ⊢;rw [mS];exact ru
 refine ct (n:=r.de.length) (xs:=gm D') (cap:=cap) (g:=gd) (E:=88) (sz:=3) (by exact Take.there .here) yw sF oE (by rw [oI,mS]) ?_
 with_reducible first|apply aO|apply aP
 case he=>exact ig I inferInstance I (.there .here) ai (by rfl)
 case hR=>
  intro w' aB;exact aC (s1,.w gd r.de.length cap,t1,p1) trivial (show bj _ [row 118 2 s1 r.sr.length (il r.sr),row 88 3 (.w gd r.de.length cap) D'.length (gm D'),row 122 3 t1 r.ti.length (iC r.ti),row 180 3 p1 r.po.length (eF r.po)] _ by rw [mS];exact .cons cI (.h1 (.cons bE (.cons bE .nil)))) aB I
set_option maxHeartbeats 1000000 in
theorem Ia {r q:Ro} {i_ e_:Int} {s d t p:Value} {o:ByteArray} (ho:o∈cu r) {w:World} (e:fX r [nK r o]=(q,i_,e_)) (h:RR w r s d t p) (fP:fm r=0) :
  a8 T_ 83 [.agg #[.q r.lv,.q r.ma,s,d,t,p],.string o] w [] (fun _:Value×Value×Value×Value=>True) (fun x=>.tuple #[.agg #[.q q.lv,.q q.ma,x.1,x.2.1,x.2.2.1,x.2.2.2],.q e_]) (fun x=>oZ q x):=by
 obtain ⟨h1,h2,h3,h4⟩:=h.one;have tb:=(yn fP).lim;refine aS func83 I I ?_
 (refine Jr<|Jy I I fun _ _=>Jz I I fun _ _=>Ja I<|Ji<|Jv I<|ab (aU (.o I .nil) ai) I<|Jz I I fun _ _=>ak (.of I) (.of I) .here I I (ix I I) (br I) ai<|Jn<|Jq<|Jr<|Ja I<|Jn<|J0 ?_)
 rename_i b2 sJ b4 sH b6 Vk;refine aJ 9 1 ?_;refine aV (ι:=Nat×Option Addr×Nat×List ByteArray) (fun y=>y.1<=r.lv.toNat/\y.2.2.2=List.replicate y.1 dash) (fun y=>[(7,.q (y.1:Nat)),(6,.p b6),(1,.string o),(2,.p b2),(4,.p b4)]) (fun y=>[row 9 1 (.slice y.2.1 (y.2.2.2).length y.2.2.1) (y.2.2.2).length (aR (y.2.2.2)),bu b6 (.cells #[.string o,.slice y.2.1 (y.2.2.2).length y.2.2.1] 69 (0,0)),JQ b2 r s d t p,bu b4 (.cells #[.q 0,.q 0,.z,.z,.z,.z] 27 (0,0))]) (fun y=>r.lv.toNat-y.1) ?_ ?_
 ·apply aH (0,none,0,[]) ⟨Zi _,I⟩
  case hs1=>exact bT
  case ht=>
   exact .h2 (.cons (.there .here) (.h1 .nil))
 rintro ⟨k,g1,oX,L⟩ ⟨hk,hL⟩;dsimp only at hk hL ⊢;have Dr:L.length=k:=by rw [hL,Zae]
 by_cases nu:k<r.lv.toNat
 ·have gS:L++[dash]=List.replicate (k+1) dash:=by rw [hL,List.replicate_succ']
  have hlen:(aR L).length=L.length*1:=by rw [dx];omega
  (refine Jq<|Jr<|Jv I<|bD I I ae<|JL I bE I<|JA I<|Jn<|Jd I fun aA=>Jk<|Jq<|J0<|Jg<|bD I I ae<|JL I (.there .here) I<|bh (aD (.o I .nil) I I I I) I fun _ _=>?_)
  refine bA (.of I) (.of I) (.there .here) .here ai (by rfl) (dE I) (by rfl) (by rfl) (by rfl) eC (by rfl) ?_;intro z;refine aK (v:=z) (by exact .here) fun gx cx e0=>?_;subst e0;rw [<- Hh,nG L ⟨#[45]⟩]
  (refine bD I I ae<|ak (.of I) (.of I) bE I I (dE I) (br I) ai<|Jx<|Jj<|Jt<|Jg<|Jv I<|JB I (by omega)<|Ja I<|Jn ?_)
  apply aG (k+1,gx,cx,L++[⟨#[45]⟩]) ⟨Z6 nu,gS⟩ (show r.lv.toNat-(k+1)<r.lv.toNat-k by omega)
  case hs1=>exact bT
  case ht=>
   dsimp only;exact .cons (.there .here) (.h1 (.cons (.there .here) (.cons (.there .here) .nil)))
 obtain rfl:k=r.lv.toNat:=by omega
 subst hL
 (refine Jq<|Jr<|Jv I<|bD I I ae<|JL I bE I<|JA I<|Jn<|Jc I fun aA=>Jp<|Jl<|Jo<|Jt<|Jr<|ab (bU bE) I<|ab (bU (.there .here)) I<|bh (bz (.o I .nil) I I bI bI ai) I fun _ _=>?_)
 rename_i bs Ub
 with_reducible apply jd
 case hr=>exact bn
 case hd=>rfl
 case ht=>exact bj.nil
 case hc=>
  intro w1 fp aT _ hs1;obtain rfl:fp=[]:=hs1;have hr1:=VS aT (by exact .here);have hr2:Rd w1 (.slice g1 (List.replicate r.lv.toNat dash).length oX) 1 (fN (List.replicate r.lv.toNat dash)):=ez (E:=9) aT (by exact Take.there .here) I;have hr3:=Ow (l:=[⟨⟨o,List.replicate r.lv.toNat dash⟩,.slice g1 (List.replicate r.lv.toNat dash).length oX⟩]) I e (h.keeps aT.keeps) fP hr1 (fun x hx=>by rw [ZD.1 hx];exact hr2) (BB (by omega) ho)
  exact hr3
 rintro ⟨s9,d9,t9,p9⟩ _
 try dsimp only [id_eq,Zb,Za]
 refine gO (r:=q) (s:=s9) (d:=d9) (t:=t9) (p:=p9) (bo _ _) fun ma9 mb9 mc9 md9=>?_
 (refine Jv I<|JJ I I<|JJ I I<|JJ I I<|Jz I I fun _ _=>ak (.of I) (.of I) .here I I (dO I I ma9 mb9 mc9 md9) (br I) ai<|Ja I<|Ja I<|Ji<|ab (bU .here) I<|Jv I<|ak (.of I) (.of I) jl I I (dO I I ma9 mb9 mc9 md9) (br I) ai<|Ja I<|Jn<|Je ?_)
 with_reducible first|apply aO|apply aP
 case he=>exact kl I inferInstance I .here ai (by rfl) (by rfl)
 case hR=>
  intro w' aB;exact aC (s9,d9,t9,p9) trivial (by exact .cons bE (.cons bE (.cons bE (.cons bE .nil)))) aB I
end Go.Proofs.A1
