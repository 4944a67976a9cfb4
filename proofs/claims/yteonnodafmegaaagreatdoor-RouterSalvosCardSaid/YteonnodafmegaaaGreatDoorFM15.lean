/- Parts of the proof: P6h GkPoolK MJ MK MP PW MQ MR. -/
import Derived.Test.YteonnodafmegaaaGreatDoorFM14
import Derived.Test.YteonnodafmegaaaGreatDoorFM10
import Derived.Test.YteonnodafmegaaaGreatDoorFM04
import Derived.Test.YteonnodafmegaaaGreatDoorFM08
import Derived.Test.YteonnodafmegaaaGreatDoorFM06
set_option linter.unusedSectionVars false
set_option linter.unusedVariables false
set_option linter.unusedSimpArgs false
namespace Go.Proofs.A1
open Go Go.SL
theorem JX (r:Ro) (q:List Po) (v:Int) (po:List Po):∀ i,xY (r.wp q) v i po=xY r v i po
 | 0=>rfl
 | i+1=>by rw [xY,xY,JX r q v po i];rfl
theorem JR (r:Ro) (q:List Po) (po:List Po):∀ k,B8 (r.wp q) k po=B8 r k po
 | 0=>rfl
 | k+1=>by rw [B8,B8,JR r q po k,JX];rfl
theorem Kg (r:Ro) (q:List Po) (po:List Po):∀ n,ym (r.wp q) n po=ym r n po
 | 0=>rfl
 | n+1=>by rw [ym,ym,Kg r q po n,JR];rfl
variable {po:List Po} {r:Ro}
theorem MG (h:sg r) (l:List Tk):ym r 6 (jC r l l.length)=oS r l:=by
 unfold oS;have e:=jr r l l.length;refine N4 h.wJ (by rw [e];exact h.val.acy.sub _) fun p hp=>?_;rw [e] at hp;exact h.val.Lx p (Zr.1 hp).1
theorem X8 (h:∀ p∈po,p.ip≠⟨#[]⟩) (v:Int) (x:ByteArray):(eB po v x).getD ⟨#[]⟩=⟨#[]⟩↔gM po v x=false:=by
 unfold gM;cases e:eB po v x with
 | none=>simp
 | some i =>
  obtain ⟨p,hp,_,_,rfl⟩:=fF e;simpa using h p hp
theorem yU (r:Ro) (v:Int):∀ (p:List Nat) (po:List Po) (x:ByteArray) (i:Nat),ib r v po x (p++[i])=(if gM (ib r v po x p).1 v (dw r i) then (ib r v po x p).1 else eG r ⟨v,dw r i,(ib r v po x p).2⟩ (ib r v po x p).1,dw r i)
 | [],po,x,i=>rfl
 | j::p,po,x,i=>by rw [Zb,ib,ib,yU r v p]
theorem Hb {v:Int} {p:List Nat} {x:ByteArray} {k:Nat} (h:k<p.length):ib r v po x (p.take (k+1))=(if gM (ib r v po x (p.take k)).1 v (dw r p[k]) then (ib r v po x (p.take k)).1 else eG r ⟨v,dw r p[k],(ib r v po x (p.take k)).2⟩ (ib r v po x (p.take k)).1,dw r p[k]):=by
 rw [Zm h,yU]
theorem Pn {x p:Po} {l:List Po}:p∈eG r x l↔p=x\/p∈l:=by rw [(lZ r x l).mem_iff,ZT]
theorem Pp (r:Ro) (x:Po) (l:List Po):(eG r x l).length=l.length+1:=by rw [(lZ r x l).length_eq,ZE]
theorem Al {r:Ro} {v:Int} (hT:∀ x∈cR r,x≠⟨#[]⟩):∀ (p:List Nat) (po:List Po) (x:ByteArray),(∀ i∈p,i<r.ti.length)->(∀ q∈po,q.ip≠⟨#[]⟩)->x≠⟨#[]⟩->(∀ q∈(ib r v po x p).1,q.ip≠⟨#[]⟩)/\(ib r v po x p).2≠⟨#[]⟩/\(ib r v po x p).1.length<=po.length+p.length
 | [],po,x,_,h1,h2=>⟨h1,h2,Zz _⟩
 | i :: p, po, x, hi, h1, h2 => by
  have hx:=hT _ (mP (hi i Zs));rw [ib];have hr:=fun j hj=>hi j (ZP _ hj)
  by_cases hb:gM po v (dw r i)=true
  ·rw [if_pos hb];obtain ⟨g1,g2,g3⟩:=Al hT p po (dw r i) hr h1 hx;exact ⟨g1,g2,by rw [ZE];omega⟩
  ·rw [if_neg hb];obtain ⟨g1,g2,g3⟩:=Al hT p (eG r ⟨v,dw r i,x⟩ po) (dw r i) hr (fun q hq=>by
    rcases Pn.1 hq with e | hq
    ·rw [e];exact h2
    ·exact h1 q hq) hx
   exact ⟨g1,g2,by rw [Pp] at g3;rw [ZE];omega⟩
theorem bh.sub {P:Program} {f:FuncId} {args:List Value} {w:World} {fp:List Nat} {ι:Type} {Φ:ι->Prop} {val:ι->Value} {own:ι->List bd} (h:bh P f args w fp Φ val own):bh P f args w fp (fun _:{x:ι // Φ x}=>True) (fun x=>val x.1) (fun x=>own x.1):=
 Calls.mono h fun e w' ⟨x,he,hx,r⟩=>⟨⟨x,hx⟩,he,trivial,r⟩
end Go.Proofs.A1
namespace Go.SL
open Go
theorem zA {E:TypeId} {ws:List Value} {ys:List (List Value)}:∀ {vs:List Value} {xs:List (List Value)},vs.length=xs.length->fS E (vs++ws) (xs++ys)=fS E vs xs++fS E ws ys
 | [],[],_=>rfl
 | [],_::_,h=>by simp at h
 | _::_,[],h=>by simp at h
 | v' :: vs, x' :: xs, h => by
  simp only [ZE,Nat.add_right_cancel_iff] at h;simp only [Zb,fS,zA h]
section
variable {P:Program} {c:Cx} {D:List Nat} {sl:aL} {hs:List bd} {X:Act->World->Prop}
theorem Cj {E:TypeId} {vs ws:List Value} {xs ys:List (List Value)} {h1 h2:List bd} (ht:Take hs (gY E vs xs) h1) (ht2:Take h1 (gY E ws ys) h2) (hl:vs.length=xs.length)
  (k:Tr c D sl (gY E (vs++ws) (xs++ys)::h2) X):Tr c D sl hs X:=fun a w a7=>by
 have hT:bC hs [gY E vs xs,gY E ws ys] h2:=.cons ht (.cons ht2 .nil);have hm:=a7.mem.jR (hT.append (nE D));obtain ⟨kk,fp,uR,⟨f1,f2',rfl,g1,⟨f2,f3,rfl,g2,g3⟩⟩,hb⟩:=hm;refine k a w (a7.heap ⟨kk,(f1++f2)++f3,by rw [Zh];exact uR,⟨f1++f2,f3,I,?_,g3⟩,by rw [Zh];exact hb⟩);show cr (hp w) (fS E (vs++ws) (xs++ys)) (f1++f2);rw [zA hl];exact cr.append_iff.2 ⟨f1,f2,I,g1,g2⟩
end
end Go.SL
namespace Go.Proofs.A1
open Go Go.SL
open Tryz
open Tryz renaming prog->T_
structure mw (gp:List Value) (W:List (List ByteArray)) (bv:Value) (B:List ByteArray) (vs:List Value) (xs:List (List Value)):Prop where
 len:gp.length=W.length
 pl:vs.length=xs.length
 rd:∀ (i:Nat) (x:Value) (L:List ByteArray),gp[i]? = some x->W[i]? = some L->(x=bv/\L=B)\/∃ j:Nat,vs[j]? = some x/\xs[j]? = some (aP L)
theorem mw.one (bv:Value) (B:List ByteArray):mw [bv] [B] bv B [] []:=⟨I,I,fun i x L hx hL=>by
 cases i with
 | zero=>simp at hx hL;exact .inl ⟨hx.symm,hL.symm⟩
 | succ i=>simp at hx⟩
theorem mw.nil (bv:Value) (B:List ByteArray):mw [] [] bv B [] []:=⟨I,I,fun i x L hx _=>by simp at hx⟩
variable {L:List ByteArray} {de:ByteArray} {k:Nat} {l:List Tk} {r:Ro} {so:ByteArray} {v:Int} {vs:List Value} {w:World} {x:Value} {xs:List (List Value)}
theorem UZ {p:List Nat} (hp:(dJ r r.po v so).ok p) {j:Nat} (hl:p.getLast? = some j):(dJ r r.po v so).fin p=(ig r j).to:=by
 unfold Wn.fin;rw [hl];rfl
theorem FU {c:Cx} {D:List Nat} {sl:aL} {hs:List bd} {X:Act->World->Prop} {p:Prop} (h:∀ w,Mem c hs w->p) (k:p->Tr c D sl hs X):Tr c D sl hs X:=fun a w a7=>k (h w a7.qS) a w a7
theorem HG {c:Cx} {hs hs':List bd} {E:TypeId} (hm:Mem c hs w) (ht:Take hs (gY E vs xs) hs') {j:Nat} {x:Value} {X:List Value} (h:vs[j]? = some x) (h2:xs[j]? = some X):x.oneCell'=true:=Rd.one (hm.wA ht h h2)
theorem zC:∀ l:List Value,(l.map fun u=>[u]).flatten=l
 | []=>rfl
 | x::l=>by rw [Z9,ZaE,zC l];rfl
theorem pZ {α β:Type} {f:α->List β} {m:Nat}:∀ l:List α,(∀ j∈l,(f j).length<=m)->(l.flatMap f).length<=l.length*m
 | [],_=>by simp
 | x :: l, h => by
  have h1:=h x Zs;have h2:=pZ l fun j hj=>h j (ZP _ hj)
  rw [List.flatMap_cons,Zg,ZE,Zaj];omega
theorem Wn.G5 {N:Wn} {d:Int} (hn:N.n<=6):∀ (k:Nat) (p:List Nat),(N.all d k p).length<=7 ^ k
 | 0,_=>Zi _
 | k + 1, p => by
  have h1:=pZ (f:=fun j=>N.all d k (p++[j])) (m:=7 ^ k) ((List.range N.n).filter (N.step p)) fun j _=>Wn.G5 hn k (p++[j])
  have h2:((List.range N.n).filter (N.step p)).length<=6:=ZS (ZY _ _) (by rw [ZaF];exact hn);have h3:=Zaa (7 ^ k) h2;have h4:0<7 ^ k:=Nat.pow_pos (by decide);rw [Wn.all,Zg,Nat.pow_succ];have h5:(if N.fin p=d then [p] else []).length<=1:=by split <;> simp
  omega
theorem FF (hn:r.ti.length<=6) (k:Nat) (p:List Nat):(I8 r v so de k p).length<=7 ^ k:=by
 unfold I8;rw [Zd];exact Wn.G5 hn k p
theorem NZ (hn:r.ti.length<=6) (k:Nat) (p:List Nat) (i:Nat):(Si r v so de k p i).length<=i*7 ^ k:=by
 refine ZS (pZ (m:=7 ^ k) _ fun j _=>FF hn k _) (Zaa _ ?_);exact ZS (ZY _ _) (by rw [ZaF];exact Zz _)
theorem aav (h:k<=6):7 ^ k<=117649:=ZS (Nat.pow_le_pow_right (by decide) h) (by decide)
theorem mw.app {gp pe:List Value} {W W2:List (List ByteArray)} {bv mv:Value} {B M:List ByteArray} {vs Sn:List Value} {xs U5:List (List Value)} (h:mw gp W bv B vs xs) (h2:mw pe W2 mv M Sn U5):mw (gp++pe) (W++W2) bv B (vs++[mv]++Sn) (xs++[aP M]++U5):=by
 have xg:=h.pl;refine ⟨by rw [Zg,Zg,h.len,h2.len],by simp only [Zg,h.pl,h2.pl,Z8],fun i x L hx hL=>?_⟩;by_cases hi:i<gp.length
 ·rw [ZD hi] at hx;rw [ZD (by rw [<- h.len];exact hi)] at hL;rcases h.rd i x L hx hL with e | ⟨j,e1,e2⟩
  ·exact .inl e
  ·have hj:=(Zl.1 e1).1;refine .inr ⟨j,?_,?_⟩
   ·rw [Zh,ZD hj];exact e1
   ·rw [Zh,ZD (by omega)];exact e2
 ·rw [ZH (by omega)] at hx;rw [ZH (by rw [<- h.len];omega),<- h.len] at hL;rcases h2.rd _ x L hx hL with ⟨e1,e2⟩ | ⟨j,e1,e2⟩
  ·subst e1 e2;refine .inr ⟨vs.length,?_,?_⟩
   ·rw [Zh,ZH (Zz _),Nat.sub_self];rfl
   ·rw [Zh,xg,ZH (Zz _),Nat.sub_self];rfl
  ·refine .inr ⟨vs.length+1+j,?_,?_⟩
   ·rw [ZH (by rw [Zg,Z8];omega),Zg,Z8,Zbx];exact e1
   ·rw [ZH (by rw [Zg,Z8];omega),Zg,Z8,<- xg,Zbx];exact e2
set_option maxHeartbeats 2000000 in
theorem Js {r:Ro} {s d t p':Value} (v:Int) (so de:ByteArray) (hb:fZ r=0) (hs:so∈cK r) (hd:de∈cy r) (jq:(cR r).Nodup):∀ (k:Nat) {p:List Nat} {bv:Value} {w:World},RR w r s d t p'->(dJ r r.po v so).ok p->k+p.length=r.ti.length+1->Rd w bv 1 (gT (p.map (dw r))) ->
  bh T_ 182 [RA r s d t p',.q v,.string so,.string de,bv] w [] (fun y:Value×List Value×List Value×List (List Value)=>mw y.2.1 (I8 r v so de k p) bv (p.map (dw r)) y.2.2.1 y.2.2.2) (fun y=>y.1) (fun y=>[row 32 1 y.1 y.2.1.length y.2.1,gY 9 y.2.2.1 y.2.2.2])
 | 0, p, bv, w, h, hp, hk, hl => by
  have:=Wn.rG hp;have e:(dJ r r.po v so).n=r.ti.length:=rfl;omega
 | k + 1, p, bv, w, h, hp, hk, hl => by
  have ih:=@Js r s d t p' v so de hb hs hd jq k;have dU:=BY hb;have aM:∀ i∈p,i<r.ti.length:=Wn.sL hp;have hL:∀ x∈p.map (dw r),x∈cR r:=fun x hx=>by
   obtain ⟨i,hi,rfl⟩:=Zy.1 hx;exact mP (aM i hi)
  obtain ⟨h1,h2,h3,h4⟩:=h.one;have h5:=Rd.one hl;obtain ⟨i0,r7,ei0,em0⟩:=QQ hs;have Mg:∀ {w'},aJ [] w w'->ak T_ 130 [.agg #[.int .i64 r.lv,.int .i64 r.ma,s,d,t,p'],.string so] w' (.int .i64 (i0:Nat)):=fun hk=>by rw [<- ei0];exact sZ so (h.keeps hk)
  have hiw:∀ {w'},aJ [] w w'->ak T_ 75 [.agg #[.q r.lv,.q r.ma,s,d,t,p'],.q v,.string so,.string de,bv] w' (.bool (decide ((dJ r r.po v so).fin p=lo r de))):=fun hk=>by rw [<- Tu dU jq hs hp];exact Pj v so de (h.keeps hk) hb hs hd (Rd.keeps hl hk) hL
  have yB:∀ (o:ByteArray) {w'},aJ [] w w'->ak T_ 133 [.agg #[.q r.lv,.q r.ma,s,d,t,p'],.q v,.string o] w' (.string ((eB r.po v o).getD ⟨#[]⟩)):=fun o _ hk=>qF v o (h.keeps hk)
  have Dl:∀ (o:ByteArray),o≠⟨#[]⟩->∀ {w'},aJ [] w w'->ak T_ 131 [.agg #[.q r.lv,.q r.ma,s,d,t,p'],.q v,.string o] w' (.string (jD r v o)):=fun o ho _ hk=>by rw [<- vM hb v ho];exact qO v o ho (h.keeps hk)
  have C9:=h.sr;have yy:=h.ti;have mX:=hl;obtain ⟨a1,ei,IW,IL,rfl,oP,iI,lF,kS⟩:=C9;obtain ⟨a3,dV,G1,Gj,rfl,nb,gC,se,o9⟩:=yy;obtain ⟨a4,eV,NN,IJ,rfl,re,jV,zS,ud⟩:=mX;rw [ct] at *;rw [bQ] at *;rw [bF,Zd] at *;unfold maxLen at iI gC jV;have xr:=lF (iK r7);have cS:w.cell? ⟨IW,IL+i0*2+1,none⟩=some (.int .i64 (oV r so)):=by rw [em0];exact (kS i0 _ (fV r7)).2 1 _ I
  unfold RA;refine aR func182 I I ?_;refine j6 ?_;refine gj ?_;refine a8 (Ex (.of I) I) I (fun _ _=>?_);refine R7 I I ?_;refine kJ ?_;refine iM ?_;refine j6 ?_;refine gj ?_;refine R7 I I ?_;refine kJ ?_;refine iM ?_;rename_i b5 H7;refine ru (ι:=Value×List Value) (fun y=>mw y.2 (if (dJ r r.po v so).fin p=lo r de then [p.map (dw r)] else []) (.slice a4 p.length eV) (p.map (dw r)) [] []) (fun y=>[(11,y.1),(1,.q v),(2,.string so),(3,.string de),(4,.slice a4 p.length eV),(5,.p b5)]) (fun y=>[row 32 1 y.1 y.2.length y.2,JQ b5 r (.slice a1 r.sr.length ei) d (.slice a3 r.ti.length dV) p']) ?_ ?_
  ·(refine Jr<|ab (cm .here) I<|Jv I<|Jv I<|Jv I<|Jv I<|aj DT I (fun w' aB=>(hiw (Mem.keeps aB)))<|Jn<|gG I (fun au=>?_) fun au=>?_;refine Jg<|Jv I<|Jv I<|a8 (aD (.o I .nil) I I I I) I fun _ _=>?_;rotate_left;refine Jk ?_;rotate_right)
   ·refine aN 32 1 ?_;refine bn (.of I) (.of I) .here (.there .here) ai (by rfl) (dG I) (by rfl) (by rfl) (by rfl) dW (by rfl) ?_;intro q;refine Ja I<|Jn ?_;dsimp only [Za,Nat.zero_add]
    with_reducible apply iN (q,[.slice a4 p.length eV]) (by rw [if_pos au];exact mw.one _ _)
    case h1=>exact .cons I (.cons I (.cons I (.cons I (.cons I (.cons I .nil)))))
    case ht=>
     exact .h1 (.cons (.there .here) .nil)
   ·refine aN 32 1 ?_
    with_reducible apply iN (.z,[]) (by rw [if_neg au];exact mw.nil _ _)
    case h1=>exact .cons I (.cons I (.cons I (.cons I (.cons I (.cons I .nil)))))
    case ht=>
     exact .h2 .nil
  rintro ⟨ov,gp⟩ hW;dsimp only at hW ⊢;refine j6 ?_
  with_reducible refine cJ 9 (by kernel_rfl) ?_
  (refine lU I I ae<|ar (iB (.there .here)) I<|ar (cm (.there .here)) I<|fW I I<|dp bb I (fun w' aB=>(Mg (Mem.keeps aB)))<|ar (an (.of I) (.of I) xr (by omega) (by omega) aW) I<|lU I I ae<|ar (ag (.of I) (At.base cS I)) I<|ar (cC (.of I)) I ?_)
  with_reducible refine cN ?_
  refine kJ ?_;refine iM ?_;refine ru (ι:=Unit) (fun _=>True) (fun _=>[(11,ov),(12,.q ((dJ r r.po v so).fin p)),(1,.q v),(2,.string so),(3,.string de),(4,.slice a4 p.length eV),(5,.p b5)]) (fun _=>[row 32 1 ov gp.length gp,JQ b5 r (.slice a1 r.sr.length ei) d (.slice a3 r.ti.length dV) p']) ?_ ?_
  ·by_cases hne:p=[]
   ·have hz:p.length=0:=by rw [hne];rfl
    have e:(dJ r r.po v so).fin p=oV r so:=by rw [hne];exact py hs
    rw [e];refine Jr<|Jv I<|JI I<|JE I<|Jn<|Jc I fun au=>Jk ?_
    with_reducible apply iN () trivial
    case h1=>exact .cons I (.cons I (.cons I (.cons I (.cons I (.cons I (.cons I .nil))))))
    case ht=>exact iQ
   have hlp:0<p.length:=List.length_pos_iff.2 hne;have hj:=aM _ (List.getLast_mem hne);have Uc:=UZ hp (List.getLast?_eq_some_getLast hne);have NJ:p[p.length-1]'(by omega)=p.getLast hne:=(List.getLast_eq_getElem hne).symm;generalize p.getLast hne=j at hj Uc NJ;have DW:p.length-1<(p.map (dw r)).length:=by rw [Zd];omega
   have acj:=zS (ij DW);have c4:w.cell? ⟨NN,IJ+((p.length:Int)-1).toNat*1,none⟩=some (.string (dw r j)):=by
    rw [show ((p.length:Int)-1).toNat=p.length-1 by omega];have:=(ud _ _ (fw DW)).2 0 _ I;rw [Z2,NJ] at this;exact this
   have Vn:∀ {w'},aJ [] w w'->ak T_ 60 [.agg #[.q r.lv,.q r.ma,.slice a1 r.sr.length ei,d,.slice a3 r.ti.length dV,p'],.string (dw r j)] w' (.q (j:Nat)):=fun hk=>by rw [<- sW jq hj];exact qJ _ (h.keeps hk)
   have yH:=se (fm hj);have c3:w.cell? ⟨G1,Gj+j*3+2,none⟩=some (.q (ig r j).to):=by rw [nk hj];exact (o9 j _ (ef hj)).2 2 _ I
   rw [<- Uc] at c3;refine Jr<|Jv I<|JI I<|JE I<|Jn<|Jd I fun au=>?_
   with_reducible refine cJ 14 (by kernel_rfl) ?_
   (refine lU I I ae<|ar (iB (.there .here)) I<|ar (cm (.there .here)) I<|fW I I<|fW I I<|ar (cq (.of I)) I<|ar (tK (.of I) (.of I) (Tx (by omega))) I<|ar (an (.of I) (.of I) acj (by omega) (by omega) aW) I<|ar (ag (.of I) (At.base c4 I)) I<|dp bb I (fun w' aB=>(Vn (Mem.keeps aB)))<|ar (an (.of I) (.of I) yH (by omega) (by omega) aW) I<|lU I I ae<|ar (ag (.of I) (At.base c3 I)) I<|ar (cC (.of I)) I ?_)
   with_reducible refine cN ?_
   refine Jn ?_
   with_reducible apply iN () trivial
   case h1=>exact .cons I (.cons I (.cons I (.cons I (.cons I (.cons I (.cons I .nil))))))
   case ht=>exact iQ
  rintro ⟨⟩ _;refine Jq<|Jr<|Ja I<|Jn<|J0 ?_;refine ie 9 ?_;refine aV (ι:=Nat×Value×List Value×List Value×List (List Value)) (fun y=>y.1<=r.ti.length/\mw y.2.2.1 ((if (dJ r r.po v so).fin p=lo r de then [p.map (dw r)] else [])++Si r v so de k p y.1) (.slice a4 p.length eV) (p.map (dw r)) y.2.2.2.1 y.2.2.2.2) (fun y=>[(13,.int .i64 (y.1:Nat)),(11,y.2.1),(12,.int .i64 ((dJ r r.po v so).fin p)),(1,.int .i64 v),(2,.string so),(3,.string de),(4,.slice a4 p.length eV),(5,.pointer (some ⟨b5,0,none⟩))]) (fun y=>[row 32 1 y.2.1 y.2.2.1.length y.2.2.1,gY 9 y.2.2.2.1 y.2.2.2.2,JQ b5 r (.slice a1 r.sr.length ei) d (.slice a3 r.ti.length dV) p']) (fun y=>r.ti.length-y.1) ?_ ?_
  ·with_reducible apply aI (0,ov,gp,[],[]) ⟨Zi _,by rw [show Si r v so de k p 0=[] from I,ZN];exact hW⟩
   case hs1=>exact bS
   case ht=>exact iQ
  clear hW;rintro ⟨i,ov,gp,vs,xs⟩ ⟨hi,hW⟩;dsimp only at hi hW ⊢;by_cases jg:i<r.ti.length
  ·have cu:=se (fm jg);obtain ⟨gi,aC⟩:=o9 i _ (ef jg);unfold Ti.cells at aC;have r8:=fun {w'}=>Dl r.ti[i].nm (QL hb jg) (w':=w')
   have hhw:∀ {w'},aJ [] w w'->ak T_ 59 [.slice a4 p.length eV,.string r.ti[i].nm] w' (.bool (p.contains i)):=fun hk=>by
    rw [<- Mq jq aM jg,show dw r i=r.ti[i].nm by unfold dw;rw [nk jg]];exact Mo _ (Rd.keeps hl hk)
   have g1:=Fp hb v r.ti[i].nm;have g2:=Fo hb v r.ti[i].nm;have a7:=SE dU (v:=v) (so:=so) (p:=p) jg;have hzn:dw r i=r.ti[i].nm:=by unfold dw;rw [nk jg]
   have Vd:=I6 r v so de k p i;rw [show dw r i=r.ti[i].nm by unfold dw;rw [nk jg],nk jg] at a7;generalize r.ti[i]=z at aC r8 hhw g1 g2 a7 hzn
   (refine Jq<|Jr<|Jv I<|bG I I ae<|JL I bI I<|JI I<|JA I<|Jn<|Jd I fun au=>Jk<|Jq<|J0<|Jr<|bG I I ae<|JL I bI I<|Jv I<|ab (fY cu au) I<|ab (iU (eR.base aC I)) I<|Jz I I fun _ _=>ao (.of I) (.of I) .here I I (fv I I I) (bu I) ai<|Ji<|ab (cm cZ) I<|Jv I<|bG I I ae<|JL I .here I<|aj eo I (fun w' aB=>(yB _ (Mem.keeps aB)))<|ab (fy (.of I) (.of I)) I<|Ja I<|Ji<|Jv I<|JI I<|JC I<|Jv I<|jz I I I I<|ab (ch (.of I) I) I<|Jv I<|aH I I inferInstance (fun hg bE=>(bK (.of I) cZ ai (by rfl))) I<|jz I I I I<|aH I I inferInstance (fun hg bE=>(aq (.of I) ae)) I<|aH I I inferInstance (fun hg bE=>(ag (.bM hg I) (At.lit .here I))) I<|fQ I I (fun hg=>(bj (.of I) (.cons (.bM hg I) (.cons (.bM hg I) (.cons (.bM hg I) .nil))) inferInstance eY)) I (fun hg w' aB=>(r8 (Mem.keeps aB)))<|jz I I I I<|aH I I inferInstance (fun hg bE=>(dB (.bM hg I) (.bM hg I))) I<|ab (ch (.of I) I) I<|Ja I<|Ji<|Jv I<|bG I I ae<|JL I .here I<|aj bb I (fun w' aB=>(hhw (Mem.keeps aB)))<|JH I<|Jv I<|jz I I I I<|aH I I inferInstance (fun hg bE=>(aS (.bM hg I))) I<|gZ I I inferInstance (fun hg bE=>(aS (.of I))) I<|gZ I I inferInstance (fun hg bE=>(eF (.bM hg I))) I<|gZ I I inferInstance (fun hg bE=>(aS (.bM hg I))) I<|gZ I I inferInstance (fun hg bE=>(aq (.of I) ae)) I<|gZ I I inferInstance (fun hg bE=>(ag (.bM hg I) (At.lit .here I))) I<|gZ I I inferInstance (fun hg bE=>(aS (.of I))) I<|gZ I I inferInstance (fun hg bE=>(oo (.bM hg I) (.bM hg I))) I<|gZ I I inferInstance (fun hg bE=>(jn hg (.bM hg I) I)) I<|aH I I inferInstance (fun hg bE=>(kY hg (.bM hg I) I)) I<|ab (ch (.of I) I) I<|Jn<|nW I (fun au=>?_) fun au=>?_;refine Jq ?_;rotate_left;refine Jw<|Jj<|Jt<|Jg<|Jv I<|JB I (by omega)<|Ja I<|Jn ?_;rotate_right)
   ·have hz:(dJ r r.po v so).step p i=true:=by
     rw [a7];obtain ⟨q0,hq⟩:=au;rw [q0];rcases hq with ⟨⟨q1,q2⟩,q3⟩ | ⟨q1,q2⟩
     ·have:p.isEmpty=true:=by rw [List.isEmpty_iff_length_eq_zero];omega
      rw [this,g1.1 q2,decide_eq_true q3];rfl
     ·rw [g2.1 (Zo.1 q1),decide_eq_true q2];simp
    rw [hz,if_pos I] at Vd;have hlen:(gT (p.map (dw r))).length=p.length:=by rw [bF,Zd]
    have YQ:r.ti.length<=6:=dU.len.2.2;have pV:=Wn.j4.2 ⟨hp,hz⟩;have IQ:=FF (v:=v) (so:=so) (de:=de) YQ k (p++[i]);have H4:=NZ (v:=v) (so:=so) (de:=de) YQ k p i;have Xk:=aav (k:=k) (by omega);have hf4:i*7 ^ k<=6*117649:=Nat.mul_le_mul (by omega) Xk;have hf5:(if (dJ r r.po v so).fin p=lo r de then [p.map (dw r)] else []).length<=1:=by split <;> simp
    have Ve:gp.length<=1000000:=by have:=hW.len;rw [Zg] at this;omega
    have tx:dw r i=z.nm:=hzn
    with_reducible refine vS 8 (iC [(0,2),(2,6)]) (by kernel_rfl) ?_
    refine tq (fun β=>(aD .nil I I I I)) (fun _ _ _=>rfl) I I ?_;refine ju (fun β=>(aS (.of I))) q9 I I ?_;dsimp only [Nat.zero_add,Nat.reduceAdd]
    with_reducible apply Ae (jx:=0) (n0:=0) (xs:=[]) (news:=gT (p.map (dw r))) (Vx:=fun β=>.slice (some ⟨ed (β 0),0,none⟩) 0 0) (Vy:=fun _=>.slice a4 p.length eV) (Ax:=fun β=>[bz (ed (β 0)) (.cells #[] 9 (0,0))]) (B:=[])
    case hB=>rfl
    case hS=>rfl
    case hrow=>
     rintro β w' fp ⟨f1,f2,e,⟨h,h'⟩,h0⟩;obtain rfl:f2=[]:=h0;rw [e,h];exact ⟨I,I,.inr ⟨ed (β 0),0,#[],I,h',Zz _,Zi _,I,I⟩⟩
    case htk=>exact qv I I
    case hti=>rfl
    case h0=>rfl
    case hwx=>kernel_rfl
    case hx=>exact fun β=>.of I
    case hy=>exact fun β=>.of I
    case hsrc=>exact fun β w' hb=>Rd.keeps hl hb.mem.keeps
    case h1=>exact vn _
    case hz=>rfl
    case hsz=>rfl
    case hb0=>rfl
    case hb=>rw [hlen];omega
    case hd=>rfl
    rw [<- pj,hlen,Zx,Za];dsimp only [Nat.reduceAdd];refine ju (fun β=>(aq (.of I) ae)) q9 I I ?_;refine ju (fun β=>(ag (.of I) (At.lit .here I))) q9 I I ?_;refine tq (fun β=>(aD (.o I .nil) I I I I)) (fun _ _ _=>rfl) I I ?_;dsimp only [Nat.reduceAdd]
    with_reducible apply Ae (jx:=2) (n0:=p.length) (xs:=aP (p.map (dw r))) (news:=[[.string z.nm]]) (Vx:=fun β=>β 2) (Vy:=fun β=>.slice (some ⟨ed (β 5),0,none⟩) 1 1) (Ax:=fun β=>[row 9 1 (β 2) p.length (aP (p.map (dw r)))]) (B:=[5])
    case hB=>kernel_rfl
    case hS=>rfl
    case hrow=>exact fun β w' fp ⟨f1,f2,e,h,h0⟩=>by obtain rfl:f2=[]:=h0;rw [e,ZN];exact h
    case htk=>exact qv I I
    case hti=>rfl
    case h0=>rfl
    case hwx=>kernel_rfl
    case hx=>exact fun β=>.of I
    case hy=>exact fun β=>.of I
    case hsrc=>
     intro β w' hb;have m6:=hb.at 5 (by simp) (s:=⟨fun β=>.slice (some ⟨ed (β 5),0,none⟩) 1 1,fun β=>[bz (ed (β 5)) (.cells #[.string z.nm] 9 (0,0))]⟩) (by kernel_rfl)
     dsimp only [Zb,Za] at m6;exact Mem.dH m6 (by exact .here) I I
    case h1=>
     intro r' NC u hu;simp only [ZG] at NC;subst NC;simp only [ZG] at hu;subst hu;rfl
    case hz=>rfl
    case hsz=>rfl
    case hb0=>rfl
    case hb=>simp only [Z8];omega
    case hd=>rfl
    rw [show ([[Value.string z.nm]]:List (List Value)).flatten=[.string z.nm] from I,show ([[Value.string z.nm]]:List (List Value)).length=1 from I];dsimp only [Nat.reduceAdd];have YM:aP (p.map (dw r))++[.string z.nm]=aP ((p++[i]).map (dw r)):=by rw [Zt,eT,List.map_singleton,tx];rfl
    rw [YM]
    with_reducible apply ju (F:=fun β=>β 6)
    case hr=>(intro β;exact cC (.of I))
    case hi=>exact fun β β' h=>by simp only [h 6 (by kernel_rfl)]
    case hd=>rfl
    case hn=>rfl
    refine Fw fun β=>?_;have xg:p.length+1=(p++[i]).length:=by rw [Zg];rfl
    rw [xg];change Tr _ _ _ [bz (ed (β 5)) (.cells #[.string z.nm] 9 (0,0)),row 9 1 (β 6) (p++[i]).length (aP ((p++[i]).map (dw r))),bz _ (.cells #[.string z.nm,.q z.fr,.q z.to] 122 (0,0)),row 32 1 ov gp.length gp,gY 9 vs xs,JQ b5 r (.slice a1 r.sr.length ei) d (.slice a3 r.ti.length dV) p'] _;generalize β 6=mv;generalize ed (β 5)=b6
    with_reducible refine cE (by kernel_rfl) ?_
    refine aK (E:=9) (sz:=1) (v:=mv) (by exact Take.there .here) fun ma mc e=>?_;subst e
    (refine Jt<|Jg<|Jv I<|ab (cm eD) I<|Jv I<|Jv I<|Jv I<|Jv I ?_)
    with_reducible apply jZ
    case hr=>exact DT
    case hd=>rfl
    case ht=>exact bC.nil
    case hc=>
     intro w1 fp aT _ hs1;obtain rfl:fp=[]:=hs1;have hrd:Rd w1 (.slice ma (p++[i]).length mc) 1 (gT ((p++[i]).map (dw r))):=eM (E:=9) aT (by exact Take.there .here) (by rw [Zd]);exact ih (p:=p++[i]) (h.keeps aT.keeps) pV (by rw [Zg,Z8];omega) hrd
    rintro ⟨Q0,pe,Sn,U5⟩ Rz
    try dsimp only [id_eq,Zb,Za] at Rz ⊢
    have hv2:pe.length<=117649:=by have:=Rz.len;omega
    refine FU (p:=∀ u∈pe,u.oneCell'=true) (fun w' aB u hu=>by
     obtain ⟨j,hj,rfl⟩:=ZA hu;have NL:=Rz.len;rcases Rz.rd j _ _ (Zc hj) (Zc (by omega)) with ⟨e,_⟩ | ⟨m,e1,e2⟩
     ·rw [e];rfl
     ·exact HG (E:=9) (vs:=Sn) (xs:=U5) aB (by exact Take.there .here) e1 e2) fun gi=>?_
    refine j7 (E:=9) (vs:=vs) (xs:=xs) mN (v:=.slice ma (p++[i]).length mc) (x:=aP ((p++[i]).map (dw r))) (n:=(p++[i]).length) cZ (by rw [c6,Zd]) hW.pl ?_;refine Cj (E:=9) (vs:=vs++[.slice ma (p++[i]).length mc]) (ws:=Sn) (by exact .here) (by exact Take.there .here) (by simp only [Zg,Z8,hW.pl]) ?_;have hWn:=mw.app hW Rz;rw [Zh,<- Vd] at hWn
    with_reducible apply eX (n:=gp.length) (xs:=gp) (news:=pe.map fun u=>[u])
    case hx=>exact Is.of I
    case hy=>exact Is.of I
    case ht=>exact dL
    case hsrc=>exact fun w' aB=>aB.KS (E:=32) (n:=pe.length) (ys:=pe) (v:=Q0) (by exact Take.there .here) I
    case h1=>
     intro r' NC u hu;obtain ⟨y,hy,rfl⟩:=Zy.1 NC;simp only [ZG] at hu;subst hu;exact gi _ hy
    case hz=>rfl
    case hsz=>rfl
    case hb0=>rfl
    case hb=>rw [Zd];omega
    case hd=>rfl
    intro v';rw [zC,Zd];refine Ja I<|Jx<|Jj<|Jt<|Jg<|Jv I<|JB I (by omega)<|Ja I<|Jn ?_;have IM:gp.length+pe.length=(gp++pe).length:=(Zg).symm;rw [IM]
    with_reducible apply aG (i+1,v',gp++pe,vs++[.slice ma (p++[i]).length mc]++Sn,xs++[aP ((p++[i]).map (dw r))]++U5) ⟨ZZ jg,hWn⟩ (show r.ti.length-(i+1)<r.ti.length-i by omega)
    case hs1=>exact bS
    case ht=>exact iQ
   have hz:(dJ r r.po v so).step p i=false:=by
    rw [a7];rcases au with q | ⟨q1,q2⟩
    ·rw [q];rfl
    ·cases eb:gM r.po v z.nm
     ·have q3:¬ z.fr=(dJ r r.po v so).fin p:=q2.resolve_left fun q=>by rw [g1.1 q] at eb;cases eb
      rw [decide_eq_false q3];simp
     ·have q4:¬ p=[]\/¬ jD r v z.nm=so:=q1.imp (fun q=>q.elim (fun q0 e=>by rw [e] at q0;exact q0 I) (fun q0=>absurd (g1.2 eb) q0)) id
      rcases q4 with q | q
      ·have:p.isEmpty=false:=by cases p with | nil=>exact absurd I q | cons=>rfl
       rw [this];simp
      ·rw [decide_eq_false q];simp
   rw [hz,if_neg (by decide),ZN] at Vd
   with_reducible apply aG (i+1,ov,gp,vs,xs) ⟨ZZ jg,(show mw gp (_++Si r v so de k p (i+1)) _ _ vs xs by rw [Vd];exact hW)⟩ (show r.ti.length-(i+1)<r.ti.length-i by omega)
   case hs1=>exact bS
   case ht=>exact iQ
  obtain rfl:i=r.ti.length:=by omega
  (refine Jq<|Jr<|Jv I<|bG I I ae<|JL I bI I<|JI I<|JA I<|Jn<|Jc I fun au=>Jp<|Jl<|Jo<|Jt<|Jr<|Jv I<|Ja I<|Jn<|Je ?_)
  first | with_reducible apply aO | with_reducible apply aQ
  case he=>exact dI I I
  case hR=>
   intro w' aB;exact aF (ov,gp,vs,xs) (by rw [I7];exact hW) (by exact .h2 .nil) aB I
theorem xM {α:Type} (lt:α->α->Bool):∀ (l:List α) (b x:α),kA lt b (l++[x])=if lt x (kA lt b l) then x else kA lt b l
 | [],_,_=>rfl
 | y::l,b,x=>by rw [Zb,kA,kA,xM lt l]
def S1 (r:Ro) (v:Int) (so de:ByteArray):List ByteArray:=((lp r v so de).getD []).map (dw r)
def OP (r:Ro) (v:Int) (so de:ByteArray):Int:=if (lp r v so de).isNone then 18 else 0
def Sd (x:Value) (L:List ByteArray) (vs:List Value) (xs:List (List Value)):Prop:=(x=.z/\L=[])\/∃ j:Nat,vs[j]? = some x/\xs[j]? = some (aP L)
theorem Mem.Ge {c:Cx} {hs hs':List bd} (hm:Mem c hs w) (ht:Take hs (gY 9 vs xs) hs') (h:Sd x L vs xs):Rd w x 1 (gT L):=by
 rcases h with ⟨e,e2⟩ | ⟨j,h1,h2⟩
 ·subst e e2;exact Rd.nil w 1
 ·have:=hm.wA ht h1 h2;rwa [show (aP L).map (fun u=>[u])=gT L by unfold aP gT;rw [ZaI];rfl] at this
set_option maxHeartbeats 2000000 in
theorem VL {s d t p':Value} (v:Int) (so de:ByteArray) {w:World} (h:RR w r s d t p') (hb:fZ r=0) (hs:so∈cK r) (hd:de∈cy r) (jq:(cR r).Nodup) :
  bh T_ 73 [RA r s d t p',.q v,.string so,.string de] w [] (fun y:Value×List Value×List (List Value)=>Sd y.1 (S1 r v so de) y.2.1 y.2.2) (fun y=>.tuple #[y.1,.q (OP r v so de)]) (fun y=>[gY 9 y.2.1 y.2.2]):=by
 obtain ⟨h1,h2,h3,h4⟩:=h.one;have dU:=BY hb;unfold RA;refine aR func73 I I ?_
 (refine Jr<|Jy I I fun _ _=>Ja I<|Ja I<|Ji<|ab (cm .here) I<|Jv I<|Jv I<|Jv I ?_)
 rename_i b4 uT;refine JN DT I (fun w1 aT=>Js (s:=s) (d:=d) (t:=t) (p':=p') v so de hb hs hd jq (r.ti.length+1) (p:=[]) (h.keeps aT.keeps) (Wn.oz _) I (show Rd w1 (.z) 1 (gT []) from Rd.nil w1 1)) ?_;rintro ⟨ov,gp,vs,xs⟩ hW
 try dsimp only [id_eq,Zb,Za] at hW ⊢
 cases e:(dJ r r.po v so).all (lo r de) (r.ti.length+1) [] with
 | nil =>
  have eP:lp r v so de=none:=by unfold lp;rw [show (dJ r r.po v so).all (lo r de) ((dJ r r.po v so).n+1) []=[] from e]
  have hz:gp.length=0:=by rw [hW.len];unfold I8;rw [e];rfl
  have e1:OP r v so de=18:=by unfold OP;rw [eP];rfl
  have e2:S1 r v so de=[]:=by unfold S1;rw [eP];rfl
  refine aK (v:=ov) (by exact .here) fun oa oc e0=>?_;subst e0;refine Ja I<|Jn<|Jq<|Jr<|Jv I<|JI I<|JC I<|Jn<|Jd I fun au=>Jr<|Ja I<|Ja I<|Jn<|Ju ?_
  first | with_reducible apply aO | with_reducible apply aQ
  case he=>exact gF I I I
  case hR=>
   intro w' aB;exact aF (.z,vs,xs) (.inl ⟨I,e2⟩) (by exact .cons (.there .here) .nil) aB (by rw [e1])
 | cons a l =>
  have hN:I8 r v so de (r.ti.length+1) []=(a::l).map fun q=>q.map (dw r):=by unfold I8;rw [e]
  have IM:gp.length=l.length+1:=by rw [hW.len,hN];simp
  have dK:∀ q∈a::l,∀ i∈q,i<r.ti.length:=fun q hq=>Wn.sL (Wn.vB (Wn.oz _) (e ▸ hq)).1
  have eP:lp r v so de=some (kA (dJ r r.po v so).lt a l):=by unfold lp;rw [show (dJ r r.po v so).all (lo r de) ((dJ r r.po v so).n+1) []=a::l from e]
  have e1:OP r v so de=0:=by unfold OP;rw [eP];rfl
  have e2:S1 r v so de=(kA (dJ r r.po v so).lt a l).map (dw r):=by unfold S1;rw [eP];rfl
  have hIn:∀ (i:Nat) (hi:i<gp.length),Sd gp[i] (((a::l)[i]'(by rw [ZE];omega)).map (dw r)) vs xs:=fun i hi=>by
   have hq:=hW.rd i gp[i] (((a::l)[i]'(by rw [ZE];omega)).map (dw r)) (Zc hi) (by rw [hN,ZI,Zc (by rw [ZE];omega)];rfl);rcases hq with ⟨q1,q2⟩ | q
   ·exact .inl ⟨q1,q2⟩
   ·exact .inr q
  rw [e1,e2];clear hW e1 e2 eP hN;refine dA (E:=32) (sz:=1) (v:=ov) (by exact .here) (by omega) fun ga ca cur e1 oQ Da C7 yA=>?_;subst e1;unfold maxLen at Da;have jA:∀ (i:Nat) (hi:i<gp.length),(gp++cur)[i*1]? = some gp[i]:=fun i hi=>by rw [Zav,ZD hi];exact Zc hi
  have hI0:=hIn 0 (by omega);rw [List.getElem_cons_zero] at hI0;have c0:(gp++cur)[0]? = some gp[0]:=jA 0 (by omega)
  (refine Ja I<|Jn<|Jq<|Jr<|Jv I<|JI I<|JC I<|Jn<|Jc I fun au=>Jk<|Jr<|Jv I<|ab (an (.of I) (.of I) I (by omega) (by omega) aW) I<|ab (ag (.of I) (At.mJ .here c0)) I<|Ja I<|Jn<|Jq<|Jr<|Ja I<|Jn<|J0 ?_)
  refine aV (ι:=Nat×Value×List Nat) (fun y=>1<=y.1/\y.1<=gp.length/\y.2.2=kA (dJ r r.po v so).lt a (l.take (y.1-1))/\Sd y.2.1 (y.2.2.map (dw r)) vs xs) (fun y=>[(12,.q (y.1:Nat)),(11,y.2.1),(10,.w ga gp.length ca),(1,.q v),(4,.p b4)]) (fun y=>[bz ga (.cells (gp++cur).toArray 32 (0,0)),gY 9 vs xs,JQ b4 r s d t p']) (fun y=>gp.length-y.1) ?_ ?_
  ·with_reducible apply aI (1,gp[0],a) ⟨Zz _,by omega,I,hI0⟩
   case hs1=>exact bS
   case ht=>exact iQ
  rintro ⟨i,bv,q⟩ ⟨E6,hi,hq,YY⟩;dsimp only at E6 hi hq YY ⊢;by_cases aM:i<gp.length
  ·have c1:=jA i aM;have Xg:=hIn i aM;have PI:i-1<l.length:=by omega
   have Xv:(a::l)[i]'(by rw [ZE];omega)=l[i-1]:=by
    obtain ⟨j,rfl⟩:∃ j,i=j+1:=⟨i-1,by omega⟩
    rfl
   have WR:q∈a::l:=by
    rw [hq];have:=(ng (lt:=(dJ r r.po v so).lt) (fun {_ _ _}=>Wn.lt_trans) (fun {_ _}=>Wn.wN) (Wn.lt_irrefl _) (l.take (i-1)) a).1
    rcases ZT.1 this with h | h
    ·rw [h];exact Zs
    ·exact ZP _ (ZaR h)
   have T6:=Pe hb jq (v:=v) so (dK (l[i-1]) (ZP _ (Zj PI))) (dK q WR);rw [Xv] at Xg;have gn:kA (dJ r r.po v so).lt a (l.take i)=if (dJ r r.po v so).lt l[i-1] q=true then l[i-1] else q:=by
    obtain ⟨j,rfl⟩:∃ j,i=j+1:=⟨i-1,by omega⟩;rw [Zm (by omega),xM,hq];rfl
   rw [<- T6] at gn;generalize l[i-1]=x at Xg T6 gn;generalize gp[i]=xv at c1 Xg;refine Jq<|Jr<|Jv I<|Jv I<|JI I<|JA I<|Jn<|Jd I fun au=>Jk<|Jq<|J0<|Jq ?_
   with_reducible refine cJ 8 (by kernel_rfl) ?_
   (refine ar (cm bI) I ?_;refine fW I I ?_;refine fW I I ?_;refine fW I I ?_;refine ar (an (.of I) (.of I) I (by omega) au aW) I ?_;refine ar (ag (.of I) (At.mJ .here c1)) I ?_;refine fW I I ?_;refine dp rZ I (fun w' aB=>(Ly v (RR.keeps h (Mem.keeps aB)) (Mem.Ge aB (.there .here) Xg) (Mem.Ge aB (.there .here) YY))) ?_)
   with_reducible refine cN ?_
   (refine Jn<|nW I (fun au=>?_) fun au=>?_;refine Jg<|Jv I<|Jv I<|ab (an (.of I) (.of I) I (by omega) (by assumption) aW) I ?_;refine ab (ag (.of I) (At.mJ .here c1)) I ?_;refine Ja I<|Jx<|Jj<|Jt<|Jg<|Jv I<|JB I (by omega)<|Ja I<|Jn ?_;rotate_left;refine Jw<|Jj<|Jt<|Jg<|Jv I<|JB I (by omega)<|Ja I<|Jn ?_;rotate_right)
   ·rw [au,if_pos I] at gn
    with_reducible apply aG (i+1,xv,x) ⟨Nat.le_succ_of_le E6,ZZ aM,(show x=kA (dJ r r.po v so).lt a (l.take (i+1-1)) by rw [ZaA];exact gn.symm),Xg⟩ (show gp.length-(i+1)<gp.length-i by omega)
    case hs1=>exact bS
    case ht=>exact iQ
   ·rw [au,if_neg (by decide)] at gn
    with_reducible apply aG (i+1,bv,q) ⟨Nat.le_succ_of_le E6,ZZ aM,(show q=kA (dJ r r.po v so).lt a (l.take (i+1-1)) by rw [ZaA];exact gn.symm),YY⟩ (show gp.length-(i+1)<gp.length-i by omega)
    case hs1=>exact bS
    case ht=>exact iQ
  ·have iw:l.length<=i-1:=by omega
   rw [Zab iw] at hq;subst hq;refine Jq<|Jr<|Jv I<|Jv I<|JI I<|JA I<|Jn<|Jc I fun au=>Jp<|Jl<|Jo<|Jt<|Jr<|Jv I<|Ja I<|Ja I<|Jn<|Je ?_
   first | with_reducible apply aO | with_reducible apply aQ
   case he=>exact gF I I I
   case hR=>
    intro w' aB;exact aF (bv,vs,xs) YY (by exact .cons (.there .here) .nil) aB I
theorem ph (l:List fc) {i:Nat} (h:i<l.length):(gP l)[i]? = some [.string l[i].tk.de,l[i].v]:=kh h
theorem Sy {L D:List Po} (e:ym r 6 L=D) {s d t p:Value} {w:World} {fp:List Nat} (jq:fp.Nodup) (hs:cr (hp w) (qt (r.wp L) (s,d,t,p)) fp) (hf:kE (r.wp L)) (tW:0<=r.lv/\r.lv<=1000000):bh T_ 169 [.agg #[.q r.lv,.q r.ma,s,d,t,p]] w fp (fun _:Value×Value×Value×Value=>True) (fun x=>.agg #[.q r.lv,.q r.ma,x.1,x.2.1,x.2.2.1,x.2.2.2]) (fun x=>qt (r.wp D) x):=by
 have:=Sz jq hs hf tW;rw [Kg] at this;subst e;exact this
theorem Ts (r:Ro) (q:List Po) (a b:Po):nF (r.wp q) a b=nF r a b:=rfl
theorem Gx (r:Ro) (q:List Po) (x:Po):∀ l,eG (r.wp q) x l=eG r x l
 | []=>rfl
 | b::l=>by rw [eG,eG,Gx r q x l,Ts]
theorem QR {q:List Po} {s d t p:Value} {x:Po} (h:RR w (r.wp q) s d t p) (hf:kE (r.wp q)):bh T_ 170 [.agg #[.q r.lv,.q r.ma,s,d,t,p],.agg #[.q x.lv,.string x.ou,.string x.ip]] w [] (fun _:Value×Value×Value×Value=>True) (fun y=>.agg #[.q r.lv,.q r.ma,y.1,y.2.1,y.2.2.1,y.2.2.2]) (fun y=>qt (r.wp (eG r x q)) y):=by
 have:=VW (x:=x) h hf;rw [Gx] at this;exact this
noncomputable def gOf {ι:Type} (f:ι->Value) (d:ι) (v:Value):ι:=open Classical in if h:∃ x,f x=v then h.choose else d
theorem Mw {ι:Type} {f:ι->Value} (hi:∀ x y,f x=f y->x=y) (d x:ι):∃ v,gOf f d v=x:=⟨f x,by
 have h:∃ y,f y=f x:=⟨x,I⟩;unfold gOf;rw [dif_pos h];exact hi _ _ h.choose_spec⟩
def Qc (y:Value×List Value×List (List Value)):Value:=.agg #[y.1,.agg y.2.1.toArray,.agg (y.2.2.map fun l=>Value.agg l.toArray).toArray]
theorem uY:∀ {a b:List (List Value)},(a.map fun l=>Value.agg l.toArray)=(b.map fun l=>Value.agg l.toArray)->a=b
 | [],[],_=>rfl
 | [],_::_,h=>by simp at h
 | _::_,[],h=>by simp at h
 | x :: a, y :: b, h => by
  simp only [Z9,List.cons.injEq,Value.agg.injEq] at h;rw [uY h.2,show x=y from by have:=congrArg Array.toList h.1;simpa using this]
theorem MD (x y:Value×List Value×List (List Value)) (h:Qc x=Qc y):x=y:=by
 obtain ⟨a,b,c⟩:=x;obtain ⟨a',b',c'⟩:=y;unfold Qc at h;injection h with h
 have h:=congrArg Array.toList h;simp only [List.cons.injEq,Value.agg.injEq] at h;obtain ⟨h1,h2,h3,_⟩:=h;have h2:=congrArg Array.toList h2;have h3:=congrArg Array.toList h3;simp only at h2 h3;rw [h1,h2,uY h3]
abbrev Iu (L:List ByteArray):Type:={y:Value×List Value×List (List Value) // Sd y.1 L y.2.1 y.2.2}
def Iu.some_ (L:List ByteArray):Iu L:=⟨(.z,[.z],[aP L]),.inr ⟨0,I,I⟩⟩
noncomputable def Ia (L:List ByteArray):Value->Iu L:=gOf (fun y=>Qc y.1) (Iu.some_ L)
theorem P2 (L:List ByteArray) (x:Iu L):∃ v,Ia L v=x:=Mw (fun x y h=>Subtype.ext (MD _ _ h)) _ x
theorem At.yx {c:Cx} {hs hs':List bd} {b o n cap j k:Nat} (ht:Take hs (gY 9 vs xs) hs') (mY:Sd (.slice (some ⟨b,o,none⟩) n cap) L vs xs) (hj:j<L.length) (hk:k=o+j*1):At c hs b k (.string L[j]):=fun w hm=>by
 obtain ⟨a,iz,b',o',e,_,_,ha,hc⟩:=Mem.Ge hm ht mY;injection e with e1 e2 e3
 rw [ha (ij hj)] at e1;injection e1 with e1
 injection e1 with e4 e5
 have:=(hc j _ (fw hj)).2 0 _ I;rw [<- e4,<- e5] at this;subst hk;exact this
theorem Sd.shape (h:Rd w x 1 (gT L)):∃ a cap,x=.slice a L.length cap/\(L≠[]->∃ b o,a=some ⟨b,o,none⟩):=by
 obtain ⟨a,cap,b,o,rfl,_,_,ha,_⟩:=h;rw [bF];exact ⟨a,cap,I,fun hl=>⟨b,o,ha (by cases L with | nil=>exact absurd I hl | cons x l=>simp [gT])⟩⟩
set_option maxHeartbeats 4000000 in
theorem OE {s d t p kv:Value} {l:List fc} (h:RR w r s d t p) (gD:fZ r=0) (hw:Rd w kv 2 (gP l)) (hM:rp w l) (hT:D3 r (bJ l)) :
  bh T_ 50 [RA r s d t p,kv] w [] (fun _:Value×Value×Value×Value=>True) (fun x=>.tuple #[RA (iY r (bJ l)).1 x.1 x.2.1 x.2.2.1 x.2.2.2,.q (iY r (bJ l)).2.1,.q (iY r (bJ l)).2.2]) (fun x=>qt (iY r (bJ l)).1 x):=by
 have dU:=BY gD;have Vv:=vK gD;have tW:=dU.lim;have vG:=dU.len;have YP:=lG dU dU.val;have hf:kE r:=⟨by omega,by omega,by omega,by omega⟩;have tx:(bJ l).length=l.length:=by unfold bJ;rw [Zd]
 have PK:=hT.Bz;rw [tx] at PK;obtain ⟨h1,h2,h3,h4⟩:=h.one;have Dk:=h.de;obtain ⟨a2,db,IV,IK,rfl,kq,eU,jB,kr⟩:=Dk;rw [bY] at *;obtain ⟨a,cp,b,o,rfl,dy,bT,ha,hc⟩:=hw;rw [dx] at *;unfold maxLen at bT eU;have abR:∀ (o:ByteArray) {w'},aJ [] w w'->ak T_ 56 [.agg #[.int .i64 r.lv,.int .i64 r.ma,s,.slice a2 r.de.length db,t,p],.string o] w' (.int .i64 (bA (cy r) o)):=fun o _ hk=>tb o (h.keeps hk)
 have Dl:∀ (v:Int) (o:ByteArray),o≠⟨#[]⟩->∀ {w'},aJ [] w w'->ak T_ 131 [.agg #[.q r.lv,.q r.ma,s,.slice a2 r.de.length db,t,p],.q v,.string o] w' (.string (jD r v o)):=fun v o ho _ hk=>by rw [<- vM gD v ho];exact qO v o ho (h.keeps hk)
 have mW:=C0 r l;unfold RA;refine aR func50 I I ?_;refine Jr<|Jy I I fun _ _=>Jz I I fun _ _=>Ja I<|Ja I<|Jn<|Jq<|Jr<|Ja I<|Jn<|J0 ?_;rename_i b2 rf b4 uT;refine aV (ι:=Nat) (fun i=>i<=l.length/\∀ j (hj:j<l.length),j<i->tU r l[j].tk=false) (fun i=>[(7,.q (i:Nat)),(1,.slice a l.length cp),(2,.p b2),(4,.p b4),(5,.q 0),(6,.q 0)]) (fun _=>[JQ b2 r s (.slice a2 r.de.length db) t p,bz b4 (.cells #[.q 0,.q 0,.z,.z,.z,.z] 27 (0,0))]) (fun i=>l.length-i) ?_ ?_
 ·with_reducible apply aI (0:Nat) ⟨Zi _,fun j _ h=>absurd h (ZU j)⟩
  case hs1=>exact bS
  case ht=>exact iQ
 rintro i ⟨hi,oN⟩;by_cases aM:i<l.length
 ·have cu:=ha (iW aM);have aC:=(hc i _ (ph l aM)).2;have NK:=hT.de l[i].tk (Z0 (Zj aM));obtain ⟨j0,uS,ej0,en0⟩:=RX NK;have PQ:∀ {w'},aJ [] w w'->ak T_ 56 [.agg #[.int .i64 r.lv,.int .i64 r.ma,s,.slice a2 r.de.length db,t,p],.string l[i].tk.de] w' (.int .i64 (j0:Nat)):=fun hk=>by rw [<- ej0];exact abR _ hk
  have hlB:tU r l[i].tk=r.de[j0].pr:=by unfold tU;rw [ej0,ZL,Zk,Zc uS];rfl
  have qU:=jB (iy uS);have cP:w.cell? ⟨IV,IK+j0*3+2,none⟩=some (.bool (tU r l[i].tk)):=by rw [hlB];exact (kr j0 _ (fN uS)).2 2 _ I
  have hfo:tU r l[i].tk=true->q8 r (bJ l)=(i:Nat):=fun q=>by
   rw [mW];refine gQ (fun j hj=>?_) aM q;rw [Zc (by omega)];exact oN j (by omega) hj
  have gn:tU r l[i].tk=false->∀ j (hj:j<l.length),j<i+1->tU r l[j].tk=false:=fun q j hj lE=>by
   by_cases e:j=i
   ·subst e;exact q
   ·exact oN j hj (by omega)
  generalize tU r l[i].tk=bl at cP hfo gn;generalize l[i].tk.de=de at aC PQ;have c0:w.cell? ⟨b,o+i*2,none⟩=some (.string de):=aC 0 _ I;refine Jq<|Jr<|Jv I<|Jv I<|JI I<|JA I<|Jn<|Jd I fun au=>Jk<|Jq<|J0<|Jq ?_
  with_reducible refine cJ 12 (by kernel_rfl) ?_
  (refine lU I I ae<|ar (iB .here) I<|ar (cm .here) I<|fW I I<|fW I I<|ar (fY cu au) I<|lU I I ae<|ar (ag (.of I) (At.base c0 I)) I<|dp bb I (fun w' aB=>(PQ (Mem.keeps aB)))<|ar (an (.of I) (.of I) qU (by omega) (by omega) aW) I<|lU I I ae<|ar (ag (.of I) (At.base cP I)) I ?_)
  with_reducible refine cN ?_
  (refine Jn<|nW I (fun au=>?_) fun au=>?_;refine Jr<|ab (aU .nil ai) I<|Jv I<|ao (.of I) (.of I) (.there .here) I I (fk I I I I I I) (bu I) ai<|Ja I<|Ja I<|Jn<|Je<|Jm<|Jh<|Jh<|Jm<|Jh ?_;rotate_left;refine Jw<|Jj<|Jt<|Jg<|Jv I<|JB I (by omega)<|Ja I<|Jn ?_;rotate_right)
  ·have e0:=hfo au;have e1:iY r (bJ l)=(Ro.nil,((i:Nat):Int),31):=by unfold iY;rw [if_pos (by omega),e0]
   rw [e1];dsimp only;refine aN 118 2 ?_;refine aN 88 3 ?_;refine aN 122 3 ?_;refine aN 180 3 ?_
   first | with_reducible apply aO | with_reducible apply aQ
   case he=>exact kz I inferInstance I dL ai (by rfl) (by rfl) (by rfl)
   case hR=>
    intro w' aB;exact aF (.z,.z,.z,.z) trivial (by exact .cons cZ (.cons bI (.cons (.there .here) (.h1 .nil)))) aB I
  ·with_reducible apply aG (i+1) ⟨ZZ aM,gn (by simpa using au)⟩ (show l.length-(i+1)<l.length-i by omega)
   case hs1=>exact bS
   case ht=>exact iQ
 have e:i=l.length:=by omega
 subst e;have XG:¬ 0<=q8 r (bJ l):=by
  rw [mW,fP fun j hj=>by rw [Zc hj];exact oN j hj hj]
  omega
 clear oN aM hi mW;refine Jq<|Jr<|Jv I<|Jv I<|JI I<|JA I<|Jn<|Jc I fun au=>Jp<|Jl<|Jo<|Jt<|Jr<|ab (cm .here) I ?_;refine JN bN I (fun w1 aT=>K6 (h.keeps aT.keeps) hf) ?_;rintro ⟨s1,d1,t1,p1⟩ _;unfold qt;dsimp only [Zb,Za];unfold RA;refine aK (E:=118) (sz:=2) (v:=s1) (by exact .here) fun QV QT e3=>?_;subst e3;refine aK (E:=88) (sz:=3) (v:=d1) (by exact Take.there .here) fun da1 dc1 e3=>?_;subst e3;refine aK (E:=122) (sz:=3) (v:=t1) bI fun Yv Yu e3=>?_;subst e3;refine aK (E:=180) (sz:=3) (v:=p1) cZ fun Yy Yx e3=>?_;subst e3
 (refine Jz I I fun _ _=>ao (.of I) (.of I) .here I I (fk I I I I I I) (bu I) ai<|Jn<|Jq<|Jr<|Ja I<|Jn<|J0 ?_)
 rename_i b8 Xu;have Vo:∀ i,(jC r (bJ l) i).length<=r.po.length:=fun i=>by rw [jr];exact ZY _ _
 refine aV (ι:=Nat×List Po×(Option Addr×Nat)×(Option Addr×Nat)×(Option Addr×Nat)×(Option Addr×Nat)) (fun y=>y.1<=l.length/\y.2.1=jC r (bJ l) y.1) (fun y=>[(9,.q (y.1:Nat)),(8,.p b8),(1,.slice a l.length cp),(2,.p b2),(4,.p b4)]) (fun y=>[row 118 2 (.slice y.2.2.1.1 r.sr.length y.2.2.1.2) r.sr.length (kG r.sr),row 88 3 (.slice y.2.2.2.1.1 r.de.length y.2.2.2.1.2) r.de.length (jX r.de),row 122 3 (.slice y.2.2.2.2.1.1 r.ti.length y.2.2.2.2.1.2) r.ti.length (kU r.ti),row 180 3 (.slice y.2.2.2.2.2.1 (y.2.1).length y.2.2.2.2.2.2) (y.2.1).length (gA (y.2.1)),JQ b8 r (.slice y.2.2.1.1 r.sr.length y.2.2.1.2) (.slice y.2.2.2.1.1 r.de.length y.2.2.2.1.2) (.slice y.2.2.2.2.1.1 r.ti.length y.2.2.2.2.1.2) (.slice y.2.2.2.2.2.1 (y.2.1).length y.2.2.2.2.2.2),JQ b2 r s (.slice a2 r.de.length db) t p,bz b4 (.cells #[.q 0,.q 0,.z,.z,.z,.z] 27 (0,0))]) (fun y=>l.length-y.1) ?_ ?_
 ·with_reducible apply aI (0,r.po,(QV,QT),(da1,dc1),(Yv,Yu),(Yy,Yx)) ⟨Zi _,I⟩
  case hs1=>exact bS
  case ht=>exact iQ
 rintro ⟨i,L,⟨Hw,Hv⟩,⟨Ql,Qk⟩,⟨On,Oi⟩,⟨OZ,OX⟩⟩ ⟨hi,hL⟩;dsimp only at hi hL ⊢;by_cases aM:i<l.length
 ·have cu:=ha (iW aM);have aC:=(hc i _ (ph l aM)).2;have gJ:=Zj aM;have B5:=hM _ gJ;have IP:(bJ l).getD i Tk.zero=l[i].tk:=by unfold bJ;rw [Zk,ZI,Zc aM];rfl
  have T6:=hT.lv l[i].tk (Z0 gJ);have NK:=hT.de l[i].tk (Z0 gJ);have fO:l[i].tk.de≠⟨#[]⟩:=Vv.ne (.inr (.inl NK));have ub:jC r (bJ l) (i+1)=ll r l[i].tk l[i].tk.so.length L:=by rw [jC,IP,hL]
  have hdi:L.length<=r.po.length:=by rw [hL];exact Vo i
  have Uh:∀ k,(ll r l[i].tk k L).length<=r.po.length:=fun k=>ZS (by rw [lR];exact ZY _ _) hdi
  generalize hti:l[i]=ti at *;obtain ⟨tk,tv⟩:=ti;dsimp only at *;obtain ⟨sa,F6,sb,KB,rfl,C8,pR,LY,LV⟩:=B5;rw [bF] at *;unfold maxLen at pR;have c0:w.cell? ⟨b,o+i*2,none⟩=some (.string tk.de):=aC 0 _ I;have c1:w.cell? ⟨b,o+i*2+1,none⟩=some (.slice sa tk.so.length F6):=aC 1 _ I;refine Jq<|Jr<|Jv I<|Jv I<|JI I<|JA I<|Jn<|Jd I fun au=>Jk<|Jq<|J0<|Jr<|Ja I<|Jn<|J0 ?_;refine aV (ι:=Nat×List Po×(Option Addr×Nat)×(Option Addr×Nat)×(Option Addr×Nat)×(Option Addr×Nat)) (fun y=>y.1<=tk.so.length/\y.2.1=ll r tk y.1 L) (fun y=>[(10,.int .i64 (y.1:Nat)),(9,.int .i64 (i:Nat)),(8,.pointer (some ⟨b8,0,none⟩)),(1,.slice a l.length cp),(2,.pointer (some ⟨b2,0,none⟩)),(4,.pointer (some ⟨b4,0,none⟩))]) (fun y=>[row 118 2 (.slice y.2.2.1.1 r.sr.length y.2.2.1.2) r.sr.length (kG r.sr),row 88 3 (.slice y.2.2.2.1.1 r.de.length y.2.2.2.1.2) r.de.length (jX r.de),row 122 3 (.slice y.2.2.2.2.1.1 r.ti.length y.2.2.2.2.1.2) r.ti.length (kU r.ti),row 180 3 (.slice y.2.2.2.2.2.1 (y.2.1).length y.2.2.2.2.2.2) (y.2.1).length (gA (y.2.1)),JQ b8 r (.slice y.2.2.1.1 r.sr.length y.2.2.1.2) (.slice y.2.2.2.1.1 r.de.length y.2.2.2.1.2) (.slice y.2.2.2.2.1.1 r.ti.length y.2.2.2.2.1.2) (.slice y.2.2.2.2.2.1 (y.2.1).length y.2.2.2.2.2.2),JQ b2 r s (.slice a2 r.de.length db) t p,bz b4 (.cells #[.int .i64 0,.int .i64 0,.slice none 0 0,.slice none 0 0,.slice none 0 0,.slice none 0 0] 27 (0,0))]) (fun y=>tk.so.length-y.1) ?_ ?_
  ·with_reducible apply aI (0,L,(Hw,Hv),(Ql,Qk),(On,Oi),(OZ,OX)) ⟨Zi _,I⟩
   case hs1=>exact bS
   case ht=>exact iQ
  rintro ⟨k,L2,⟨IG,IF⟩,⟨IU,IT⟩,⟨IE,ID⟩,⟨II,IH⟩⟩ ⟨hk,qI⟩;dsimp only at hk qI ⊢;by_cases mW:k<tk.so.length
  ·have xb:=LY (ij mW);have w9:w.cell? ⟨sb,KB+k*1,none⟩=some (.string tk.so[k]):=(LV k _ (fw mW)).2 0 _ I;have jA:tk.at k=tk.so[k]:=by unfold Tk.at;rw [Zk,Zc mW];rfl
   have hdk:=Uh k;rw [<- qI] at hdk;have hs2:ll r tk (k+1) L=if lQ r tk k then He r (k:Nat) tk.de L2 else L2:=by rw [ll,<- qI];rfl
   have Xo:lQ r tk k=(!decide (tk.so[k]=⟨#[]⟩)&&!decide (tk.so[k]=jD r (k:Nat) tk.de)):=by unfold lQ;rw [jA]
   have r8:∀ {w'},aJ [] w w'->ak T_ 131 [.agg #[.q r.lv,.q r.ma,s,.slice a2 r.de.length db,t,p],.q (k:Nat),.string tk.de] w' (.string (jD r (k:Nat) tk.de)):=fun hk=>Dl _ _ fO hk
   generalize jD r (k:Nat) tk.de=ck at *;generalize tk.so[k]=sk at *
   (refine Jq<|Jr<|Jv I<|bG I I ae<|JL I eD I<|JA I<|Jn<|Jd I fun au=>Jk<|Jq<|J0<|Jr<|Jv I<|Jv I<|ab (an (.of I) (.of I) cu (by omega) (by assumption) aW) I<|bG I I ae<|ab (ag (.of I) (At.base c1 I)) I<|Jv I<|ab (an (.of I) (.of I) xb (by omega) (by omega) aW) I<|ab (ag (.of I) (At.base w9 I)) I<|Ja I<|Jn<|Jq ?_)
   with_reducible refine cJ 14 (by kernel_rfl) ?_
   (refine fW I I<|ar (fy (.of I) (.of I)) I<|fW I I<|bL I I inferInstance (fun hg bE=>(aS (.of I))) I<|bL I I inferInstance (fun hg bE=>(bK (.of I) eD ai (by rfl))) I<|bL I I inferInstance (fun hg bE=>(aS (.of I))) I<|bL I I inferInstance (fun hg bE=>(aS (.of I))) I<|bL I I inferInstance (fun hg bE=>(aS (.of I))) I<|bL I I inferInstance (fun hg bE=>(an (.bM hg I) (.bM hg I) cu (by omega) (by assumption) aW)) I<|bL I I inferInstance (fun hg bE=>(aq (.bM hg I) ae)) I<|bL I I inferInstance (fun hg bE=>(ag (.bM hg I) (At.base c0 I))) I<|oK I I (fun hg=>(bj (.of I) (.cons (.bM hg I) (.cons (.bM hg I) (.cons (.bM hg I) .nil))) inferInstance eY)) I (fun hg w' aB=>(r8 (Mem.keeps aB)))<|bL I I inferInstance (fun hg bE=>(fy (.bM hg I) (.bM hg I))) I<|ar (ch (.of I) I) I ?_)
   with_reducible refine cN ?_
   (refine Jn<|nW I (fun au=>?_) fun au=>?_;rotate_left;refine Jw<|Jj<|Jt<|Jg<|Jv I<|JB I (by omega)<|Ja I<|Jn ?_;rotate_right)
   ·obtain ⟨q1,q2⟩:sk≠⟨#[]⟩/\sk≠ck:=by simpa using au
    have yF:lQ r tk k=true:=by rw [Xo,decide_eq_false q1,decide_eq_false q2];rfl
    rw [yF,if_pos I] at hs2
    with_reducible refine dO 8 (by kernel_rfl) ?_
    (refine aA (fun β=>(bK (.of I) dL ai (by rfl))) bo I<|aA (fun β=>(aS (.of I))) bo I<|aA (fun β=>(aS (.of I))) bo I<|aA (fun β=>(aS (.of I))) bo I<|aA (fun β=>(an (.of I) (.of I) cu (by omega) (by assumption) aW)) bo I<|aA (fun β=>(aq (.of I) ae)) bo I<|aA (fun β=>(ag (.of I) (At.base c0 I))) bo I ?_)
    dsimp only [Nat.zero_add,Nat.reduceAdd]
    with_reducible apply fC (ι:=Value×Value×Value×Value) (Φ:=fun _=>True) (val:=fun x=>.agg #[.q r.lv,.q r.ma,x.1,x.2.1,x.2.2.1,x.2.2.2]) (own:=fun x=>qt (r.wp (He r (k:Nat) tk.de L2)) x) (g:=g4) (B:=[]) (args:=fun _=>[.agg #[.q r.lv,.q r.ma,.slice IG r.sr.length IF,.slice IU r.de.length IT,.slice IE r.ti.length ID,.slice II (L2).length IH],.q (k:Nat),.string tk.de])
    case hg=>exact ri
    case hB=>rfl
    case hr=>exact fun β=>bj (.of I) ((.o I (.o I (.o I .nil)))) inferInstance I
    case hd=>rfl
    case hc=>exact fun β w' hb=>FM (r:=r.wp L2) (k:Nat) tk.de (RR.wp (r:=r) (po:=L2) (cV hb.mem (by exact .here) I) (cW hb.mem (by exact Take.there .here) I) (cU hb.mem bI I) (cH hb.mem cZ I)) ⟨hf.1,hf.2.1,hf.2.2.1,(show L2.length<=1000000 by omega)⟩
    refine fq fun β=>?_;unfold qt Ro.wp;dsimp only [ez,Za,Zb,List.append_eq,Nat.reduceAdd];generalize g4 (β 7)=y;obtain ⟨s5,d5,t5,p5⟩:=y;clear β;dsimp only;generalize He r (k:Nat) tk.de L2=L3 at hs2 ⊢;refine aK (E:=118) (sz:=2) (v:=s5) (by exact .here) fun QU QS e3=>?_;subst e3;refine aK (E:=88) (sz:=3) (v:=d5) (by exact Take.there .here) fun RZ RY e3=>?_;subst e3;refine aK (E:=122) (sz:=3) (v:=t5) bI fun QO QN e3=>?_;subst e3;refine aK (E:=180) (sz:=3) (v:=p5) cZ fun QZ QY e3=>?_;subst e3;refine eu [row 118 2 (.slice QU r.sr.length QS) r.sr.length (kG r.sr),row 88 3 (.slice RZ r.de.length RY) r.de.length (jX r.de),row 122 3 (.slice QO r.ti.length QN) r.ti.length (kU r.ti),row 180 3 (.slice QZ (L3).length QY) (L3).length (gA (L3)),JQ b8 r (.slice IG r.sr.length IF) (.slice IU r.de.length IT) (.slice IE r.ti.length ID) (.slice II (L2).length IH),JQ b2 r s (.slice a2 r.de.length db) t p,bz b4 (.cells #[.int .i64 0,.int .i64 0,.slice none 0 0,.slice none 0 0,.slice none 0 0,.slice none 0 0] 27 (0,0))] (by exact .h4 (.cons dL (.cons dL (.cons dL .nil)))) ?_;refine bR (rs:=[8]) (by kernel_rfl) (by simp) (Zw.2 ⟨?_,fun _ h=>absurd h Zp⟩);refine cd I ?_
    (refine ao (.of I) (.of I) dL I I (fk I I I I I I) (bu I) ai<|Jn ?_)
    with_reducible refine cE (by kernel_rfl) ?_
    refine Jj<|Jt<|Jg<|Jv I<|JB I (by omega)<|Ja I<|Jn ?_
    with_reducible apply aG (k+1,L3,(QU,QS),(RZ,RY),(QO,QN),(QZ,QY)) ⟨ZZ mW,hs2.symm⟩ (show tk.so.length-(k+1)<tk.so.length-k by omega)
    case hs1=>exact bS
    case ht=>exact iQ
   ·have yF:lQ r tk k=false:=by
     rw [Xo];simp only [ne_eq,Zo,decide_eq_true_eq,Classical.not_and_iff_not_or_not] at au;rcases au with e | e
     ·rw [decide_eq_true e];rfl
     ·rw [decide_eq_true e];simp
    rw [yF,if_neg (by decide)] at hs2
    with_reducible apply aG (k+1,L2,(IG,IF),(IU,IT),(IE,ID),(II,IH)) ⟨ZZ mW,hs2.symm⟩ (show tk.so.length-(k+1)<tk.so.length-k by omega)
    case hs1=>exact bS
    case ht=>exact iQ
  ·have e:k=tk.so.length:=by omega
   subst e
   (refine Jq<|Jr<|Jv I<|bG I I ae<|JL I eD I<|JA I<|Jn<|Jc I fun au=>Jp<|Jl<|Jo<|Jj<|Jt<|Jg<|Jv I<|JB I (by omega)<|Ja I<|Jn ?_)
   with_reducible apply aG (i+1,L2,(IG,IF),(IU,IT),(IE,ID),(II,IH)) ⟨ZZ aM,(qI.trans ub.symm)⟩ (show l.length-(i+1)<l.length-i by omega)
   case hs1=>exact bS
   case ht=>exact iQ
 have e:i=l.length:=by omega
 subst e;have hLd:ym r 6 L=oS r (bJ l):=by rw [hL,<- tx];exact MG dU _
 have Dq:=Vo l.length;rw [<- hL] at Dq;clear Vo hL aM hi;refine Jq<|Jr<|Jv I<|Jv I<|JI I<|JA I<|Jn<|Jc I fun au=>Jp<|Jl<|Jo<|Jt<|Jr<|ab (cm dL) I ?_
 with_reducible apply gq (As:=[row 118 2 (.slice Hw r.sr.length Hv) r.sr.length (kG r.sr),row 88 3 (.slice Ql r.de.length Qk) r.de.length (jX r.de),row 122 3 (.slice On r.ti.length Oi) r.ti.length (kU r.ti),row 180 3 (.slice OZ (L).length OX) (L).length (gA (L))])
 case hr=>exact bN
 case hd=>rfl
 case ht=>exact iQ
 case hc=>
  intro w1 Bv aT u7 hs1 Dr lz;exact Sy (r:=r) (L:=L) hLd (s:=.slice Hw r.sr.length Hv) (d:=.slice Ql r.de.length Qk) (t:=.slice On r.ti.length Oi) (p:=.slice OZ (L).length OX) u7 hs1 ⟨hf.1,hf.2.1,hf.2.2.1,(show L.length<=1000000 by omega)⟩ ⟨by omega,by omega⟩
 rintro ⟨s1,d1,t1,p1⟩ _;unfold qt Ro.wp;dsimp only [Zb,Za];obtain ⟨D0,Y8⟩:∃ D0,D0=oS r (bJ l):=⟨_,rfl⟩;rw [<- Y8];have WQ:iR r (bJ l) (oS r (bJ l)) 0=some D0:=by rw [iR,Y8]
 have hV0:=(qf dU hT).1;rw [<- Y8] at hV0;refine aK (E:=118) (sz:=2) (v:=s1) (by exact .here) fun sa6 sc6 e3=>?_;subst e3;refine aK (E:=88) (sz:=3) (v:=d1) (by exact Take.there .here) fun da6 dc6 e3=>?_;subst e3;refine aK (E:=122) (sz:=3) (v:=t1) bI fun ta6 tc6 e3=>?_;subst e3;refine aK (E:=180) (sz:=3) (v:=p1) cZ fun pa6 pc6 e3=>?_;subst e3
 (refine ao (.of I) (.of I) dL I I (fk I I I I I I) (bu I) ai<|Jn<|Jq<|Jr<|Ja I<|Jn<|J0 ?_)
 refine aV (ι:=Nat×List Po×(Option Addr×Nat)×(Option Addr×Nat)×(Option Addr×Nat)×(Option Addr×Nat)) (fun y=>y.1<=l.length/\iR r (bJ l) (oS r (bJ l)) y.1=some y.2.1/\jP r y.2.1) (fun y=>[(12,.q (y.1:Nat)),(8,.p b8),(1,.slice a l.length cp),(2,.p b2),(4,.p b4)]) (fun y=>[row 118 2 (.slice y.2.2.1.1 r.sr.length y.2.2.1.2) r.sr.length (kG r.sr),row 88 3 (.slice y.2.2.2.1.1 r.de.length y.2.2.2.1.2) r.de.length (jX r.de),row 122 3 (.slice y.2.2.2.2.1.1 r.ti.length y.2.2.2.2.1.2) r.ti.length (kU r.ti),row 180 3 (.slice y.2.2.2.2.2.1 (y.2.1).length y.2.2.2.2.2.2) (y.2.1).length (gA (y.2.1)),JQ b8 r (.slice y.2.2.1.1 r.sr.length y.2.2.1.2) (.slice y.2.2.2.1.1 r.de.length y.2.2.2.1.2) (.slice y.2.2.2.2.1.1 r.ti.length y.2.2.2.2.1.2) (.slice y.2.2.2.2.2.1 (y.2.1).length y.2.2.2.2.2.2),JQ b2 r s (.slice a2 r.de.length db) t p,bz b4 (.cells #[.q 0,.q 0,.z,.z,.z,.z] 27 (0,0))]) (fun y=>l.length-y.1) ?_ ?_
 ·with_reducible apply aI (0,D0,(sa6,sc6),(da6,dc6),(ta6,tc6),(pa6,pc6)) ⟨Zi _,WQ,hV0⟩
  case hs1=>exact bS
  case ht=>exact iQ
 clear WQ hV0 Y8 Dq hLd;rintro ⟨i,L,⟨Hw,Hv⟩,⟨Ql,Qk⟩,⟨On,Oi⟩,⟨OZ,OX⟩⟩ ⟨hi,hL,hLV⟩;dsimp only at hi hL hLV ⊢;by_cases aM:i<l.length
 ·have cu:=ha (iW aM);have aC:=(hc i _ (ph l aM)).2;have gJ:=Zj aM;have B5:=hM _ gJ;have IP:(bJ l).getD i Tk.zero=l[i].tk:=by unfold bJ;rw [Zk,ZI,Zc aM];rfl
  have T6:=hT.lv l[i].tk (Z0 gJ);have NK:=hT.de l[i].tk (Z0 gJ);have fO:l[i].tk.de≠⟨#[]⟩:=Vv.ne (.inr (.inl NK));have jg:i<(bJ l).length:=by omega
  have PO:(bJ l)[i]=l[i].tk:=Z2 _;have L7:=fun k hk q h1=>Ln dU hT jg (k:=k) (q0:=L) (q:=q) hk hL h1
  have Mc:=fun k=>vE dU hT (Zj jg) (k:=k)
  rw [PO] at L7 Mc;have TT:iR r (bJ l) (oS r (bJ l)) (i+1)=mC r l[i].tk l[i].tk.so.length L:=by rw [iR,hL,IP];rfl
  have hrf:=fun h2=>Gd (r:=r) (l:=bJ l) (po:=oS r (bJ l)) jg hL h2
  generalize hti:l[i]=ti at *;obtain ⟨tk,tv⟩:=ti;dsimp only at *;obtain ⟨sa,F6,sb,KB,rfl,C8,pR,LY,LV⟩:=B5;rw [bF] at *;unfold maxLen at pR;have c0:w.cell? ⟨b,o+i*2,none⟩=some (.string tk.de):=aC 0 _ I;have c1:w.cell? ⟨b,o+i*2+1,none⟩=some (.slice sa tk.so.length F6):=aC 1 _ I;refine Jq<|Jr<|Jv I<|Jv I<|JI I<|JA I<|Jn<|Jd I fun au=>Jk<|Jq<|J0<|Jr<|Ja I<|Jn<|J0 ?_;refine aV (ι:=Nat×List Po×(Option Addr×Nat)×(Option Addr×Nat)×(Option Addr×Nat)×(Option Addr×Nat)) (fun y=>y.1<=tk.so.length/\mC r tk y.1 L=some y.2.1) (fun y=>[(13,.int .i64 (y.1:Nat)),(12,.int .i64 (i:Nat)),(8,.pointer (some ⟨b8,0,none⟩)),(1,.slice a l.length cp),(2,.pointer (some ⟨b2,0,none⟩)),(4,.pointer (some ⟨b4,0,none⟩))]) (fun y=>[row 118 2 (.slice y.2.2.1.1 r.sr.length y.2.2.1.2) r.sr.length (kG r.sr),row 88 3 (.slice y.2.2.2.1.1 r.de.length y.2.2.2.1.2) r.de.length (jX r.de),row 122 3 (.slice y.2.2.2.2.1.1 r.ti.length y.2.2.2.2.1.2) r.ti.length (kU r.ti),row 180 3 (.slice y.2.2.2.2.2.1 (y.2.1).length y.2.2.2.2.2.2) (y.2.1).length (gA (y.2.1)),JQ b8 r (.slice y.2.2.1.1 r.sr.length y.2.2.1.2) (.slice y.2.2.2.1.1 r.de.length y.2.2.2.1.2) (.slice y.2.2.2.2.1.1 r.ti.length y.2.2.2.2.1.2) (.slice y.2.2.2.2.2.1 (y.2.1).length y.2.2.2.2.2.2),JQ b2 r s (.slice a2 r.de.length db) t p,bz b4 (.cells #[.int .i64 0,.int .i64 0,.slice none 0 0,.slice none 0 0,.slice none 0 0,.slice none 0 0] 27 (0,0))]) (fun y=>tk.so.length-y.1) ?_ ?_
  ·with_reducible apply aI (0,L,(Hw,Hv),(Ql,Qk),(On,Oi),(OZ,OX)) ⟨Zi _,I⟩
   case hs1=>exact bS
   case ht=>exact iQ
  rintro ⟨k,L2,⟨IG,IF⟩,⟨IU,IT⟩,⟨IE,ID⟩,⟨II,IH⟩⟩ ⟨hk,qI⟩;dsimp only at hk qI ⊢;obtain ⟨GF,eK⟩:=L7 k hk L2 qI;have hfw:=lG dU GF;by_cases mW:k<tk.so.length
  ·have xb:=LY (ij mW);have w9:w.cell? ⟨sb,KB+k*1,none⟩=some (.string tk.so[k]):=(LV k _ (fw mW)).2 0 _ I;have jA:tk.at k=tk.so[k]:=by unfold Tk.at;rw [Zk,Zc mW];rfl
   have hs2:mC r tk (k+1) L=if mE r tk k then (lp (r.wp L2) (k:Nat) tk.so[k] tk.de).map (fun p=>kV r L2 (k:Nat) tk.so[k] p tk.de) else some L2:=by rw [mC,qI,Option.bind_some,jA]
   have Xd:mE r tk k=true↔¬ ((tk.so[k]=⟨#[]⟩\/tk.so[k]=⟨#[45]⟩)\/tk.so[k]=jD r (k:Nat) tk.de):=by
    rw [k9,jA];constructor
    ·rintro ⟨x1,x2,x3⟩ ((e | e) | e)
     ·exact x1 e
     ·exact x3 e
     ·exact x2 e
    ·intro e;exact ⟨fun c=>e (.inl (.inl c)),fun c=>e (.inr c),fun c=>e (.inl (.inr c))⟩
   have Xc:=Mc k mW;rw [jA] at Xc;have yF:mE r tk k=true->lQ r tk k=true:=fun c=>by
    obtain ⟨x1,x2,_⟩:=k9.1 c;exact lk.2 ⟨x1,x2⟩
   have r8:∀ {w'},aJ [] w w'->ak T_ 131 [.agg #[.q r.lv,.q r.ma,s,.slice a2 r.de.length db,t,p],.q (k:Nat),.string tk.de] w' (.string (jD r (k:Nat) tk.de)):=fun hk=>Dl _ _ fO hk
   generalize jD r (k:Nat) tk.de=ck at *;generalize tk.so[k]=sk at *
   (refine Jq<|Jr<|Jv I<|bG I I ae<|JL I eD I<|JA I<|Jn<|Jd I fun au=>Jk<|Jq<|J0<|Jr<|Jv I<|Jv I<|ab (an (.of I) (.of I) cu (by omega) (by assumption) aW) I<|bG I I ae<|ab (ag (.of I) (At.base c1 I)) I<|Jv I<|ab (an (.of I) (.of I) xb (by omega) (by omega) aW) I<|ab (ag (.of I) (At.base w9 I)) I<|Ja I<|Jn<|Jq<|Jq ?_)
   with_reducible refine cJ 18 (by kernel_rfl) ?_
   (refine fW I I<|ar (dB (.of I) (.of I)) I<|fW I I<|bL I I inferInstance (fun hg bE=>(aS (.of I))) I<|bL I I inferInstance (fun hg bE=>(dB (.bM hg I) (.of I))) I<|ar (bH (.of I) I) I<|fW I I<|bL I I inferInstance (fun hg bE=>(aS (.of I))) I<|bL I I inferInstance (fun hg bE=>(bK (.of I) eD ai (by rfl))) I<|bL I I inferInstance (fun hg bE=>(aS (.of I))) I<|bL I I inferInstance (fun hg bE=>(aS (.of I))) I<|bL I I inferInstance (fun hg bE=>(aS (.of I))) I<|bL I I inferInstance (fun hg bE=>(an (.bM hg I) (.bM hg I) cu (by omega) (by assumption) aW)) I<|bL I I inferInstance (fun hg bE=>(aq (.bM hg I) ae)) I<|bL I I inferInstance (fun hg bE=>(ag (.bM hg I) (At.base c0 I))) I<|oK I I (fun hg=>(bj (.of I) (.cons (.bM hg I) (.cons (.bM hg I) (.cons (.bM hg I) .nil))) inferInstance eY)) I (fun hg w' aB=>(r8 (Mem.keeps aB)))<|bL I I inferInstance (fun hg bE=>(dB (.bM hg I) (.bM hg I))) I<|ar (bH (.of I) I) I ?_)
   with_reducible refine cN ?_
   (refine Jn<|nW I (fun au=>?_) fun au=>?_;refine Jp<|Jo<|Jt<|Jg<|Jv I<|JB I (by omega)<|Ja I<|Jn ?_;rotate_left;refine Jk<|Jq ?_;rotate_right)
   ·have hj:mE r tk k=false:=by
     rw [<- Zar];exact fun c=>Xd.1 c au
    rw [hj,if_neg (by decide)] at hs2
    with_reducible apply aG (k+1,L2,(IG,IF),(IU,IT),(IE,ID),(II,IH)) ⟨ZZ mW,hs2⟩ (show tk.so.length-(k+1)<tk.so.length-k by omega)
    case hs1=>exact bS
    case ht=>exact iQ
   have hj:mE r tk k=true:=Xd.2 (fun c=>c.elim (fun c=>c.elim au.1.1 au.1.2) au.2)
   obtain ⟨⟨j1,j2⟩,rM,Xn,_⟩:=Xc hj;have tZ:=eK k (Zz _) mW (yF hj);rw [hj,if_pos I] at hs2;have Xr:=MS gD GF;have jq:=dU.nd;obtain ⟨E,hE⟩:∃ E,E=OP (r.wp L2) (k:Nat) sk tk.de:=⟨_,rfl⟩;obtain ⟨W,hW⟩:∃ W,W=S1 (r.wp L2) (k:Nat) sk tk.de:=⟨_,rfl⟩
   with_reducible refine dO 14 (by kernel_rfl) ?_
   (refine aA (fun β=>(bK (.of I) dL ai (by rfl))) bo I<|aA (fun β=>(aS (.of I))) bo I<|aA (fun β=>(aS (.of I))) bo I<|aA (fun β=>(aS (.of I))) bo I<|aA (fun β=>(aS (.of I))) bo I<|aA (fun β=>(an (.of I) (.of I) cu (by omega) (by assumption) aW)) bo I<|aA (fun β=>(aq (.of I) ae)) bo I<|aA (fun β=>(ag (.of I) (At.base c0 I))) bo I ?_)
   dsimp only [Nat.zero_add,Nat.reduceAdd]
   with_reducible apply fC (ι:=Iu W) (Φ:=fun _=>True) (val:=fun x=>.tuple #[x.1.1,.q E]) (own:=fun x=>[gY 9 x.1.2.1 x.1.2.2]) (g:=Ia W) (B:=[]) (args:=fun _=>[.agg #[.q r.lv,.q r.ma,.slice IG r.sr.length IF,.slice IU r.de.length IT,.slice IE r.ti.length ID,.slice II (L2).length IH],.q (k:Nat),.string sk,.string tk.de])
   case hg=>exact P2 W
   case hB=>rfl
   case hr=>exact fun β=>bj (.of I) (.o I (.o I (.o I (.o I .nil)))) inferInstance I
   case hd=>rfl
   case hc=>
    intro β w' hb;rw [hE,hW];exact bh.sub (VL (r:=r.wp L2) (k:Nat) sk tk.de (RR.wp (r:=r) (po:=L2) (cV hb.mem (by exact .here) I) (cW hb.mem (by exact Take.there .here) I) (cU hb.mem bI I) (cH hb.mem cZ I)) Xr rM Xn jq)
   dsimp only [Nat.reduceAdd]
   with_reducible apply aA (F:=fun β=>.tuple #[(Ia W (β 8)).1.1,.q E])
   case hr=>(intro β;exact aS (.of I))
   case hi=>exact fun β β' h=>by simp only [h 8 (by kernel_rfl)]
   case hd=>rfl
   dsimp only [Nat.reduceAdd]
   with_reducible apply aA (F:=fun β=>(Ia W (β 8)).1.1)
   case hr=>(intro β;exact fR (.of I) I)
   case hi=>exact fun β β' h=>by simp only [h 8 (by kernel_rfl)]
   case hd=>rfl
   dsimp only [Nat.reduceAdd]
   with_reducible apply aA (F:=fun β=>.q E)
   case hr=>(intro β;exact fR (.of I) I)
   case hi=>exact bo
   case hd=>rfl
   dsimp only [Nat.reduceAdd]
   with_reducible apply aA (F:=fun β=>(Ia W (β 8)).1.1)
   case hr=>(intro β;exact cC (.of I))
   case hi=>exact fun β β' h=>by simp only [h 8 (by kernel_rfl)]
   case hd=>rfl
   dsimp only [Nat.reduceAdd]
   with_reducible apply aA (F:=fun β=>.q E)
   case hr=>(intro β;exact cC (.of I))
   case hi=>exact bo
   case hd=>rfl
   dsimp only [Nat.reduceAdd];refine fq fun β=>?_;dsimp only [ez,Za,Zb,List.append_eq,Nat.reduceAdd];generalize Ia W (β 8)=y;obtain ⟨⟨wv,vs,xs⟩,mY⟩:=y;clear β;dsimp only at mY ⊢
   with_reducible refine cE (by kernel_rfl) ?_
   refine FU (fun w' aB=>Sd.shape (Mem.Ge aB (by exact .here) mY)) fun Vi=>?_;obtain ⟨wa,wc,rfl,TE⟩:=Vi
   (refine Jt<|Jq<|Jr<|Jv I<|JD I<|Jn<|gG I (fun au=>?_) fun au=>?_;refine Jr<|ab (aU .nil ai) I<|Jv I<|Jv I<|ao (.of I) (.of I) oL I I (fk I I I I I I) (bu I) ai<|Ja I<|Ja I<|Jn<|Ju<|Jm<|Jh<|Jh<|Jm<|Jm<|Jh<|Jh<|Jm<|Jh ?_;rotate_left;refine Jk<|Jr<|Jv I<|Ja I<|Jn<|Jq<|Jr<|Ja I<|Jn<|J0 ?_;rotate_right)
   ·have hP:lp (r.wp L2) (k:Nat) sk tk.de=none:=by
     cases e:lp (r.wp L2) (k:Nat) sk tk.de with
     | none=>rfl
     | some p=>exact absurd (by rw [hE];unfold OP;rw [e];rfl) au
    have acw:E=18:=by rw [hE];unfold OP;rw [hP];rfl
    have e1:mC r tk (k+1) L=none:=by rw [hs2,hP];rfl
    have e2:iR r (bJ l) (oS r (bJ l)) (i+1)=none:=by rw [TT];exact zn e1 (by omega)
    have e3:=tI e2 (m:=(bJ l).length) (by omega);have e4:iY r (bJ l)=(Ro.nil,((i:Nat):Int),18):=by
     unfold iY;rw [if_neg XG];show (match iR r (bJ l) (oS r (bJ l)) (bJ l).length with | none=>(Ro.nil,((EC r (bJ l) (oS r (bJ l)):Nat):Int),(18:Int)) | some po=>(r.wp po,0,0))=_
     rw [e3,hrf e2]
    clear hE;subst acw;rw [e4];dsimp only;refine aN 118 2 ?_;refine aN 88 3 ?_;refine aN 122 3 ?_;refine aN 180 3 ?_
    first | with_reducible apply aO | with_reducible apply aQ
    case he=>exact kz I inferInstance I dL ai (by rfl) (by rfl) (by rfl)
    case hR=>
     intro w' aB;exact aF (.z,.z,.z,.z) trivial (by exact .cons cZ (.cons bI (.cons (.there .here) (.h1 .nil)))) aB I
   have XH:E=0:=Zo.1 au;clear au;obtain ⟨xp,hP⟩:∃ xp,lp (r.wp L2) (k:Nat) sk tk.de=some xp:=by
    cases e:lp (r.wp L2) (k:Nat) sk tk.de with
    | none=>rw [hE] at XH;unfold OP at XH;rw [e] at XH;cases XH
    | some p=>exact ⟨p,rfl⟩
   have hWm:W=xp.map (dw r):=by rw [hW];unfold S1;rw [hP];rfl
   clear hW hE XH;have hle:(dJ r L2 (k:Nat) sk).least (lo r tk.de) xp:=FJ hP;have gn:mC r tk (k+1) L=some (kV r L2 (k:Nat) sk xp tk.de):=by rw [hs2,hP];rfl
   have hVn:=CB dU ⟨j1,j2⟩ GF rM Xn tZ hle;have hxp:∀ i∈xp,i<r.ti.length:=Wn.sL hle.1;have Py:xp.length<=6:=by have:=Wn.rG hle.1;have h6:(dJ r L2 (k:Nat) sk).n=r.ti.length:=rfl;omega
   have NL:W.length=xp.length:=by rw [hWm,Zd]
   have Vd:=fun j=>Al (r:=r) (v:=(k:Nat)) (fun x hx=>Vv.ne (.inr (.inr hx))) (xp.take j) L2 sk (fun i hi=>hxp i (ZaR hi)) (fun q hq=>LF Xr q hq) (Vv.ne (.inl rM))
   skip
   refine aV (ι:=Nat×ByteArray×List Po×(Option Addr×Nat)×(Option Addr×Nat)×(Option Addr×Nat)×(Option Addr×Nat)) (fun y=>y.1<=W.length/\ib r (k:Nat) L2 sk (xp.take y.1)=(y.2.2.1,y.2.1)) (fun y=>[(18,.q (y.1:Nat)),(17,.string y.2.1),(15,.slice wa W.length wc),(14,.string sk),(13,.q (k:Nat)),(12,.q (i:Nat)),(8,.p b8),(1,.slice a l.length cp),(2,.p b2),(4,.p b4)]) (fun y=>[row 118 2 (.slice y.2.2.2.1.1 r.sr.length y.2.2.2.1.2) r.sr.length (kG r.sr),row 88 3 (.slice y.2.2.2.2.1.1 r.de.length y.2.2.2.2.1.2) r.de.length (jX r.de),row 122 3 (.slice y.2.2.2.2.2.1.1 r.ti.length y.2.2.2.2.2.1.2) r.ti.length (kU r.ti),row 180 3 (.slice y.2.2.2.2.2.2.1 (y.2.2.1).length y.2.2.2.2.2.2.2) (y.2.2.1).length (gA (y.2.2.1)),JQ b8 r (.slice y.2.2.2.1.1 r.sr.length y.2.2.2.1.2) (.slice y.2.2.2.2.1.1 r.de.length y.2.2.2.2.1.2) (.slice y.2.2.2.2.2.1.1 r.ti.length y.2.2.2.2.2.1.2) (.slice y.2.2.2.2.2.2.1 (y.2.2.1).length y.2.2.2.2.2.2.2),gY 9 vs xs,JQ b2 r s (.slice a2 r.de.length db) t p,bz b4 (.cells #[.q 0,.q 0,.z,.z,.z,.z] 27 (0,0))]) (fun y=>W.length-y.1) ?_ ?_
   ·with_reducible apply aI (0,sk,L2,(IG,IF),(IU,IT),(IE,ID),(II,IH)) ⟨Zi _,I⟩
    case hs1=>exact bS
    case ht=>exact iQ
   rintro ⟨j,fr,q,⟨SP,SM⟩,⟨UL,UK⟩,⟨SC,SB⟩,⟨Tb,Ta⟩⟩ ⟨hj6,Vc⟩;dsimp only at hj6 Vc ⊢;obtain ⟨B0,rb,Rl⟩:=Vd j;rw [Vc] at B0 rb Rl;dsimp only at B0 rb Rl;have ahj:q.length<=100:=by
                   have:(xp.take j).length<=xp.length:=by rw [Zq];omega
                   omega
   have Y0:kE (r.wp q):=⟨hf.1,hf.2.1,hf.2.2.1,(show q.length<=1000000 by omega)⟩;by_cases DX:j<W.length
   ·have hjx:j<xp.length:=by omega
    have a7:=Hb (r:=r) (v:=(k:Nat)) (po:=L2) (x:=sk) hjx;rw [Vc] at a7;dsimp only at a7;obtain ⟨wb,wo,rfl⟩:=TE (by intro e;rw [e] at DX;exact absurd DX (ZU _));have zN:W[j]=dw r xp[j]:=by simp only [hWm,Z2]
    have Vr:=X8 B0 (k:Nat) W[j];rw [<- zN] at a7;have NI:∀ w',RR w' (r.wp q) (.slice SP r.sr.length SM) (.slice UL r.de.length UK) (.slice SC r.ti.length SB) (.slice Tb (q).length Ta)->ak T_ 133 [.agg #[.q r.lv,.q r.ma,.slice SP r.sr.length SM,.slice UL r.de.length UK,.slice SC r.ti.length SB,.slice Tb (q).length Ta],.q (k:Nat),.string W[j]] w' (.string ((eB q (k:Nat) W[j]).getD ⟨#[]⟩)):=fun w' hR=>qF _ _ hR
    have XF:∀ hs hs',Take hs (gY 9 vs xs) hs'->At ⟨w,[],f50.ntmps⟩ hs wb (wo+j*1) (.string W[j]):=fun hs hs' ht=>At.yx ht mY DX I
    generalize W[j]=nm at a7 Vr NI XF;refine Jq<|Jr<|Jv I<|Jv I<|JI I<|JA I<|Jn<|Jd I fun au=>Jk<|Jq<|J0<|Jq<|Jq ?_
    with_reducible refine cJ 8 (by kernel_rfl) ?_
    (refine ar (cm dL) I<|fW I I<|fW I I<|fW I I<|ar (an (.of I) (.of I) I (by omega) au aW) I ?_)
    refine ar (ag (.of I) (XF _ _ eD)) I ?_
    (refine dp eo I (fun w' aB=>(NI w' (RR.wp (cV aB .here I) (cW aB (.there .here) I) (cU aB bI I) (cH aB cZ I))))<|ar (dB (.of I) (.of I)) I ?_)
    with_reducible refine cN ?_
    (refine Jn<|gG I (fun au=>?_) fun au=>?_;rotate_left;refine Jk<|Jg<|Jv I<|Jv I<|ab (an (.of I) (.of I) I (by omega) (by assumption) aW) I ?_;rotate_right)
    ·have hb:=Vr.1 au;rw [hb,if_neg (by decide)] at a7
     with_reducible refine dO 9 (by kernel_rfl) ?_
     refine aA (fun β=>(bK (.of I) dL ai (by rfl))) bo I ?_;refine aA (fun β=>(aS (.of I))) bo I ?_;refine aA (fun β=>(aS (.of I))) bo I ?_;refine aA (fun β=>(aS (.of I))) bo I ?_;refine aA (fun β=>(an (.of I) (.of I) I (by omega) (by assumption) aW)) bo I ?_;refine aA (fun β=>(ag (.of I) (XF _ _ eD))) bo I ?_;refine aA (fun β=>(aS (.of I))) bo I ?_;refine aA (fun β=>(aU (.o I (.o I (.o I .nil))) ai)) bo I ?_;dsimp only [Nat.zero_add,Nat.reduceAdd]
     with_reducible apply fC (ι:=Value×Value×Value×Value) (Φ:=fun _=>True) (val:=fun x=>.agg #[.q r.lv,.q r.ma,x.1,x.2.1,x.2.2.1,x.2.2.2]) (own:=fun x=>qt (r.wp (eG r ⟨(k:Nat),nm,fr⟩ q)) x) (g:=g4) (B:=[]) (args:=fun _=>[.agg #[.q r.lv,.q r.ma,.slice SP r.sr.length SM,.slice UL r.de.length UK,.slice SC r.ti.length SB,.slice Tb (q).length Ta],.agg #[.q (k:Nat),.string nm,.string fr]])
     case hg=>exact ri
     case hB=>rfl
     case hr=>exact fun β=>bj (.of I) ((.o I (.o I .nil))) inferInstance I
     case hd=>rfl
     case hc=>exact fun β w' hb=>QR (r:=r) (q:=q) (x:=⟨(k:Nat),nm,fr⟩) (RR.wp (r:=r) (po:=q) (cV hb.mem (by exact .here) I) (cW hb.mem (by exact Take.there .here) I) (cU hb.mem bI I) (cH hb.mem cZ I)) Y0
     refine fq fun β=>?_;unfold qt Ro.wp;dsimp only [ez,Za,Zb,List.append_eq,Nat.reduceAdd];generalize g4 (β 8)=y;obtain ⟨s5,d5,t5,p5⟩:=y;clear β;dsimp only;generalize eG r ⟨(k:Nat),nm,fr⟩ q=z at a7 ⊢;refine aK (E:=118) (sz:=2) (v:=s5) (by exact .here) fun QU QS e3=>?_;subst e3;refine aK (E:=88) (sz:=3) (v:=d5) (by exact Take.there .here) fun RZ RY e3=>?_;subst e3;refine aK (E:=122) (sz:=3) (v:=t5) bI fun QO QN e3=>?_;subst e3;refine aK (E:=180) (sz:=3) (v:=p5) cZ fun QZ QY e3=>?_;subst e3;refine eu [row 118 2 (.slice QU r.sr.length QS) r.sr.length (kG r.sr),row 88 3 (.slice RZ r.de.length RY) r.de.length (jX r.de),row 122 3 (.slice QO r.ti.length QN) r.ti.length (kU r.ti),row 180 3 (.slice QZ (z).length QY) (z).length (gA (z)),JQ b8 r (.slice SP r.sr.length SM) (.slice UL r.de.length UK) (.slice SC r.ti.length SB) (.slice Tb (q).length Ta),gY 9 vs xs,JQ b2 r s (.slice a2 r.de.length db) t p,bz b4 (.cells #[.int .i64 0,.int .i64 0,.slice none 0 0,.slice none 0 0,.slice none 0 0,.slice none 0 0] 27 (0,0))] (by exact .h4 (.cons dL (.cons dL (.cons dL (.cons dL .nil))))) ?_;refine bR (rs:=[9]) (by kernel_rfl) (by simp) (Zw.2 ⟨?_,fun _ h=>absurd h Zp⟩);refine cd I ?_
     (refine ao (.of I) (.of I) dL I I (fk I I I I I I) (bu I) ai<|Jn ?_)
     with_reducible refine cE (by kernel_rfl) ?_
     refine Jt<|Jg<|Jv I<|Jv I<|ab (an (.of I) (.of I) I (by omega) (by assumption) aW) I ?_;refine ab (ag (.of I) (XF _ _ eD)) I ?_;refine Ja I<|Jx<|Jj<|Jt<|Jg<|Jv I<|JB I (by omega)<|Ja I<|Jn ?_
     with_reducible apply aG (j+1,nm,z,(QU,QS),(RZ,RY),(QO,QN),(QZ,QY)) ⟨ZZ DX,a7⟩ (show W.length-(j+1)<W.length-j by omega)
     case hs1=>exact bS
     case ht=>exact iQ
    ·have hb:gM q (k:Nat) nm=true:=by
      cases e:gM q (k:Nat) nm with
      | false=>exact absurd (Vr.2 e) au
      | true=>rfl
     rw [hb,if_pos I] at a7;refine ab (ag (.of I) (XF _ _ eD)) I ?_;refine Ja I<|Jx<|Jj<|Jt<|Jg<|Jv I<|JB I (by omega)<|Ja I<|Jn ?_
     with_reducible apply aG (j+1,nm,q,(SP,SM),(UL,UK),(SC,SB),(Tb,Ta)) ⟨ZZ DX,a7⟩ (show W.length-(j+1)<W.length-j by omega)
     case hs1=>exact bS
     case ht=>exact iQ
   ·have hjx:j=xp.length:=by omega
    rw [hjx,ZO] at Vc;have a7:kV r L2 (k:Nat) sk xp tk.de=eG r ⟨(k:Nat),tk.de,fr⟩ q:=by unfold kV;rw [Vc]
    rw [a7] at gn;clear a7 DX hj6 Vc;refine Jq<|Jr<|Jv I<|Jv I<|JI I<|JA I<|Jn<|Jc I fun au=>Jp<|Jl<|Jo<|Jt ?_
    with_reducible refine dO 10 (by kernel_rfl) ?_
    (refine aA (fun β=>(bK (.of I) dL ai (by rfl))) bo I<|aA (fun β=>(aS (.of I))) bo I<|aA (fun β=>(aS (.of I))) bo I<|aA (fun β=>(aS (.of I))) bo I<|aA (fun β=>(an (.of I) (.of I) cu (by omega) (by assumption) aW)) bo I<|aA (fun β=>(aq (.of I) ae)) bo I<|aA (fun β=>(ag (.of I) (At.base c0 I))) bo I<|aA (fun β=>(aS (.of I))) bo I<|aA (fun β=>(aU (.o I (.o I (.o I .nil))) ai)) bo I ?_)
    dsimp only [Nat.zero_add,Nat.reduceAdd]
    with_reducible apply fC (ι:=Value×Value×Value×Value) (Φ:=fun _=>True) (val:=fun x=>.agg #[.q r.lv,.q r.ma,x.1,x.2.1,x.2.2.1,x.2.2.2]) (own:=fun x=>qt (r.wp (eG r ⟨(k:Nat),tk.de,fr⟩ q)) x) (g:=g4) (B:=[]) (args:=fun _=>[.agg #[.q r.lv,.q r.ma,.slice SP r.sr.length SM,.slice UL r.de.length UK,.slice SC r.ti.length SB,.slice Tb (q).length Ta],.agg #[.q (k:Nat),.string tk.de,.string fr]])
    case hg=>exact ri
    case hB=>rfl
    case hr=>exact fun β=>bj (.of I) ((.o I (.o I .nil))) inferInstance I
    case hd=>rfl
    case hc=>exact fun β w' hb=>QR (r:=r) (q:=q) (x:=⟨(k:Nat),tk.de,fr⟩) (RR.wp (r:=r) (po:=q) (cV hb.mem (by exact .here) I) (cW hb.mem (by exact Take.there .here) I) (cU hb.mem bI I) (cH hb.mem cZ I)) Y0
    refine fq fun β=>?_;unfold qt Ro.wp;dsimp only [ez,Za,Zb,List.append_eq,Nat.reduceAdd];generalize g4 (β 9)=y;obtain ⟨s5,d5,t5,p5⟩:=y;clear β;dsimp only;generalize eG r ⟨(k:Nat),tk.de,fr⟩ q=z at gn ⊢;refine aK (E:=118) (sz:=2) (v:=s5) (by exact .here) fun QU QS e3=>?_;subst e3;refine aK (E:=88) (sz:=3) (v:=d5) (by exact Take.there .here) fun RZ RY e3=>?_;subst e3;refine aK (E:=122) (sz:=3) (v:=t5) bI fun QO QN e3=>?_;subst e3;refine aK (E:=180) (sz:=3) (v:=p5) cZ fun QZ QY e3=>?_;subst e3;refine eu [row 118 2 (.slice QU r.sr.length QS) r.sr.length (kG r.sr),row 88 3 (.slice RZ r.de.length RY) r.de.length (jX r.de),row 122 3 (.slice QO r.ti.length QN) r.ti.length (kU r.ti),row 180 3 (.slice QZ (z).length QY) (z).length (gA (z)),JQ b8 r (.slice SP r.sr.length SM) (.slice UL r.de.length UK) (.slice SC r.ti.length SB) (.slice Tb (q).length Ta),JQ b2 r s (.slice a2 r.de.length db) t p,bz b4 (.cells #[.int .i64 0,.int .i64 0,.slice none 0 0,.slice none 0 0,.slice none 0 0,.slice none 0 0] 27 (0,0))] (by exact .h4 (.cons dL (.cons eD (.cons eD .nil)))) ?_;refine bR (rs:=[10]) (by kernel_rfl) (by simp) (Zw.2 ⟨?_,fun _ h=>absurd h Zp⟩);refine cd I ?_
    (refine ao (.of I) (.of I) dL I I (fk I I I I I I) (bu I) ai<|Jn ?_)
    with_reducible refine cE (by kernel_rfl) ?_
    refine Jj<|Jt<|Jg<|Jv I<|JB I (by omega)<|Ja I<|Jn ?_
    with_reducible apply aG (k+1,z,(QU,QS),(RZ,RY),(QO,QN),(QZ,QY)) ⟨ZZ mW,gn⟩ (show tk.so.length-(k+1)<tk.so.length-k by omega)
    case hs1=>exact bS
    case ht=>exact iQ
  ·have e:k=tk.so.length:=by omega
   subst e;have hne:iR r (bJ l) (oS r (bJ l)) (i+1)=some L2:=by rw [TT,qI]
   (refine Jq<|Jr<|Jv I<|bG I I ae<|JL I eD I<|JA I<|Jn<|Jc I fun au=>Jp<|Jl<|Jo<|Jj<|Jt<|Jg<|Jv I<|JB I (by omega)<|Ja I<|Jn ?_)
   with_reducible apply aG (i+1,L2,(IG,IF),(IU,IT),(IE,ID),(II,IH)) ⟨ZZ aM,hne,GF⟩ (show l.length-(i+1)<l.length-i by omega)
   case hs1=>exact bS
   case ht=>exact iQ
 ·have e:i=l.length:=by omega
  subst e;have e4:iY r (bJ l)=(r.wp L,0,0):=by
   unfold iY;rw [if_neg XG];show (match iR r (bJ l) (oS r (bJ l)) (bJ l).length with | none=>(Ro.nil,((EC r (bJ l) (oS r (bJ l)):Nat):Int),(18:Int)) | some po=>(r.wp po,0,0))=_
   rw [tx,hL]
  rw [e4];dsimp only
  (refine Jq<|Jr<|Jv I<|Jv I<|JI I<|JA I<|Jn<|Jc I fun au=>Jp<|Jl<|Jo<|Jt<|Jr<|ab (cm dL) I<|ao (.of I) (.of I) mN I I (fk I I I I I I) (bu I) ai<|Ja I<|Ja I<|Jn<|Je ?_)
  first | with_reducible apply aO | with_reducible apply aQ
  case he=>exact kz I inferInstance I .here ai (by rfl) (by rfl) (by rfl)
  case hR=>
   intro w' aB;exact aF (.slice Hw r.sr.length Hv,.slice Ql r.de.length Qk,.slice On r.ti.length Oi,.slice OZ (L).length OX) trivial (by exact .cons (.there .here) (.cons (.there .here) (.cons (.there .here) (.cons (.there .here) .nil)))) aB I

theorem VU (h:k<l.length) (e:rm r l[k].de≠0):yo r l k=rm r l[k].de:=by rw [rz h,Fc e]
theorem VT (h:k<l.length) (e:rm r l[k].de=0) {j:Nat} (hj:j<k) (e2:(l[j]'(by omega)).de=l[k].de):yo r l k=9:=by
 rw [rz h,e,oH];have:((l.take k).any fun y=>decide (y.de=l[k].de))=true:=ZQ.2 ⟨l[j]'(by omega),List.mem_take_iff_getElem.2 ⟨j,by omega,I⟩,decide_eq_true e2⟩
 rw [this];exact Fc (by decide)
theorem Eg (hk:k<=l.length) (h:∀ j (hj:j<k),(l[j]'(by omega)).de≠de):((l.take k).any fun y=>decide (y.de=de))=false:=by
 rw [Zas];intro y hy;obtain ⟨j,hj,rfl⟩:=List.mem_take_iff_getElem.1 hy;simpa using h j (by omega)
theorem VS (h:k<l.length) (e:rm r l[k].de=0) (e2:∀ j (hj:j<k),(l[j]'(by omega)).de≠l[k].de) (e3:(l[k].so.length:Int)≠r.lv):yo r l k=2:=by
 rw [rz h,e,oH,Eg (by omega) e2];show aZ (0::_)=2;rw [oH,decide_eq_true e3];exact Fc (by decide)
theorem VR (h:k<l.length) (e:rm r l[k].de=0) (e2:∀ j (hj:j<k),(l[j]'(by omega)).de≠l[k].de) (e3:(l[k].so.length:Int)=r.lv) {j:Nat} (hj:j<l[k].so.length) (e4:jT r l[k].so[j]=true):yo r l k=10:=by
 rw [rz h,e,oH,Eg (by omega) e2];show aZ (0::_)=10;rw [oH,decide_eq_false (not_not_intro e3)];show aZ (0::_)=10;rw [oH,ZQ.2 ⟨_,Zj hj,e4⟩]
 rfl
theorem VQ (h:k<l.length) (e:rm r l[k].de=0) (e2:∀ j (hj:j<k),(l[j]'(by omega)).de≠l[k].de) (e3:(l[k].so.length:Int)=r.lv) (e4:∀ j (hj:j<l[k].so.length),jT r l[k].so[j]=false):yo r l k=0:=by
 rw [rz h,e,oH,Eg (by omega) e2];show aZ (0::_)=0;rw [oH,decide_eq_false (not_not_intro e3)];show aZ (0::_)=0;rw [oH];have:l[k].so.any (jT r)=false:=by
  rw [Zas];intro y hy;obtain ⟨j,hj,rfl⟩:=ZA hy;rw [e4 j hj];decide
 rw [this];rfl
set_option maxHeartbeats 2000000 in
theorem te {s d t p kv:Value} {l:List fc} (h:RR w r s d t p) (hw:Rd w kv 2 (gP l)) (hM:rp w l):ak T_ 49 [RA r s d t p,kv] w (.q (r5 r (bJ l))):=by
 obtain ⟨h1,h2,h3,h4⟩:=h.one;obtain ⟨a,cp,b,o,rfl,dy,bT,ha,hc⟩:=hw;rw [dx] at *;unfold maxLen at bT;have qT:(bJ l).length=l.length:=Zd _;have ab4:∀ (o:ByteArray) {w'},aJ [] w w'->ak T_ 26 [.agg #[.int .i64 r.lv,.int .i64 r.ma,s,d,t,p],.string o] w' (.int .i64 (rm r o)):=fun o _ hk=>Fl o (h.keeps hk)
 have Mg:∀ (o:ByteArray) {w'},aJ [] w w'->ak T_ 130 [.agg #[.q r.lv,.q r.ma,s,d,t,p],.string o] w' (.q (bA (cK r) o)):=fun o _ hk=>sZ o (h.keeps hk)
 unfold RA;refine ah func49 I I ?_
 (refine Jr<|Jy I I fun _ _=>Ja I<|Jn<|Jq<|Jr<|Jv I<|JI I<|JC I<|aj bb I (fun w' aB=>(l8 _ 12 w'))<|Jv I<|JI I<|JE I<|aj bb I (fun w' aB=>(l8 _ 5 w'))<|a8 (aD (.o I (.o I .nil)) I I I I) I fun _ _=>aj bN I (fun w' aB=>(mm (Mem.dH aB .here I I) (cg.cons (cg.cons cg.nil))))<|Ja I<|Ji<|Jv I<|JD I<|Jn<|gG I (fun au=>?_) fun au=>?_;refine Jr<|Jv I<|Ja I<|Jn<|Ju<|JT ?_;rotate_left;refine Jk<|Jq<|Jr<|Ja I<|Jn<|J0 ?_;rotate_right)
 ·have e1:r5 r (bJ l)=Eh (bJ l):=if_pos (by unfold Eh;rw [qT];exact au);rw [e1];unfold Eh;rw [qT]
 have GG:Eh (bJ l)=0:=by unfold Eh;rw [qT];exact Zo.1 au
 have hX:r5 r (bJ l)=ku (yo r (bJ l)) l.length:=by unfold r5;rw [if_neg (by rw [GG];decide),qT]
 clear au;rename_i b2 rf bq nf
 refine aV (fun k:Nat=>k<=l.length/\∀ i,i<k->yo r (bJ l) i=0) (fun k=>[(6,.q (k:Nat)),(1,.slice a l.length cp),(2,.p b2)])
  (fun k=>[JQ b2 r s d t p]) (fun k=>l.length-k) ?_ ?_
 ·with_reducible apply aI (0:Nat) ⟨Zi _,fun i hi=>absurd hi (ZU _)⟩
  case hs1=>exact bS
  case ht=>exact iQ
 rintro k ⟨hk,hf⟩;by_cases aM:k<l.length
 ·have cu:=ha (iW aM);have aC:=(hc k _ (ph l aM)).2;have jg:k<(bJ l).length:=by omega
  have PO:∀ j (hj:j<l.length),(bJ l)[j]'(by omega)=l[j].tk:=fun j hj=>Z2 _
  have g1:=VU (r:=r) jg;have g2:=VT (r:=r) jg;have g3:=VS (r:=r) jg;have g4:=VR (r:=r) jg;have g5:=VQ (r:=r) jg;have hB:yo r (bJ l) k≠0->r5 r (bJ l)=yo r (bJ l) k:=fun e=>hX.trans (fI hf aM e)
  have gn:yo r (bJ l) k=0->∀ i,i<k+1->yo r (bJ l) i=0:=fun e i hi=>by
   by_cases e2:i=k
   ·rw [e2];exact e
   ·exact hf i (by omega)
  have B5:=hM _ (Zj aM);have abX:∀ j (hj:j<k),w.cell? ⟨b,o+j*2,none⟩=some (.string ((bJ l)[j]'(by omega)).de):=fun j hj=>by
   rw [PO j (by omega)];exact (hc j _ (ph l (by omega))).2 0 _ I
  rw [PO k aM] at g1 g2 g3 g4 g5;generalize l[k]=x at aC B5 g1 g2 g3 g4 g5;obtain ⟨⟨xd,xs⟩,xv⟩:=x;dsimp only at aC B5 g1 g2 g3 g4 g5;obtain ⟨ax,cx,bx,ox,rfl,Rv,Db,Xv,hcx⟩:=B5;rw [bF] at *;unfold maxLen at Db;have c0:w.cell? ⟨b,o+k*2,none⟩=some (.string xd):=aC 0 _ I;have c1:w.cell? ⟨b,o+k*2+1,none⟩=some (.slice ax xs.length cx):=aC 1 _ I;have ab3:=fun {w'}=>ab4 xd (w':=w')
  refine Jq<|Jr<|Jv I<|Jv I<|JI I<|JA I<|Jn<|Jd I fun au=>Jk<|Jq<|J0<|Jq<|Jq ?_
  with_reducible refine cJ 8 (by kernel_rfl) ?_
  (refine ar (cm .here) I<|fW I I<|fW I I<|ar (fY cu au) I<|lU I I ae<|ar (ag (.of I) (At.base c0 I)) I<|dp bb I (fun w' aB=>(ab3 (Mem.keeps aB)))<|ar (cC (.of I)) I ?_)
  with_reducible refine cN ?_
  (refine Ji<|Jv I<|JD I<|Jn<|gG I (fun au=>?_) fun au=>?_;refine Jr<|Jv I<|Ja I<|Jn<|Ju<|Jm<|Jh<|Jh<|Jm<|Jh<|JT ?_;rotate_left;refine Jk<|Jq<|Jr<|Ja I<|Jn<|J0 ?_;rotate_right)
  ·rw [hB (by rw [g1 au];exact au),g1 au]
  have e0:rm r xd=0:=Zo.1 au;clear au
  refine aV (fun j:Nat=>j<=k/\∀ i (hi:i<k),i<j->((bJ l)[i]'(by omega)).de≠xd) (fun j=>[(8,.q (j:Nat)),(6,.q (k:Nat)),(1,.slice a l.length cp),(2,.p b2)])
   (fun _=>[JQ b2 r s d t p]) (fun j=>k-j) ?_ ?_
  ·with_reducible apply aI (0:Nat) ⟨Zi _,fun i _ hi=>absurd hi (ZU _)⟩
   case hs1=>exact bS
   case ht=>exact iQ
  rintro j ⟨hj,oN⟩;by_cases NH:j<k
  ·have cj:=abX j NH;have Mm:=g2 e0 NH;have L5:((bJ l)[j]'(by omega)).de≠xd->∀ i (hi:i<k),i<j+1->((bJ l)[i]'(by omega)).de≠xd:=fun q i hi yC=>by
    by_cases e:i=j
    ·subst e;exact q
    ·exact oN i hi (by omega)
   generalize ((bJ l)[j]'(by omega)).de=yd at cj Mm L5;refine Jq<|Jr<|Jv I<|Jv I<|JA I<|Jn<|Jd I fun au=>Jk<|Jq<|J0<|Jq ?_
   with_reducible refine cJ 11 (by kernel_rfl) ?_
   (refine fW I I<|fW I I<|ar (an (.of I) (.of I) cu (by omega) (by omega) aW) I<|lU I I ae<|ar (ag (.of I) (At.base cj I)) I<|fW I I<|fW I I<|ar (an (.of I) (.of I) cu (by omega) (by assumption) aW) I<|lU I I ae<|ar (ag (.of I) (At.base c0 I)) I<|ar (dB (.of I) (.of I)) I ?_)
   with_reducible refine cN ?_
   (refine Jn<|gG I (fun au=>?_) fun au=>?_;refine Jr<|Ja I<|Jn<|Je<|Jm<|Jh<|Jh<|Jm<|Jh<|Jm<|Jh<|Jh<|Jm<|Jh<|JT ?_;rotate_left;refine Jw<|Jj<|Jt<|Jg<|Jv I<|JB I (by omega)<|Ja I<|Jn ?_;rotate_right)
   ·have e9:=Mm au;rw [hB (by rw [e9];decide),e9]
   with_reducible apply aG (j+1) ⟨ZZ NH,L5 au⟩ (show k-(j+1)<k-j by omega)
   case hs1=>exact bS
   case ht=>exact iQ
  have ejk:j=k:=by omega
  subst ejk;have T3:∀ i (hi:i<j),((bJ l)[i]'(by omega)).de≠xd:=fun i hi=>oN i hi hi
  clear oN NH hj;refine Jq<|Jr<|Jv I<|Jv I<|JA I<|Jn<|Jc I fun au=>Jp<|Jl<|Jo<|Jt<|Jq<|Jq ?_
  with_reducible refine cJ 9 (by kernel_rfl) ?_
  (refine fW I I<|fW I I<|ar (an (.of I) (.of I) cu (by omega) (by assumption) aW) I<|lU I I ae<|ar (ag (.of I) (At.base c1 I)) I<|ar (cq (.of I)) I<|lU I I ae<|ar (iB .here) I<|ar (j8 (.of I) (.of I)) I ?_)
  with_reducible refine cN ?_
  (refine Jn<|gG I (fun au=>?_) fun au=>?_;refine Jr<|Ja I<|Jn<|Ju<|Jm<|Jh<|Jh<|Jm<|Jh<|JT ?_;rotate_left;refine Jk<|Jr<|Ja I<|Jn<|J0 ?_;rotate_right)
  ·have e2:=g3 e0 T3 au;rw [hB (by rw [e2];decide),e2]
  have elv:(xs.length:Int)=r.lv:=Zo.1 au;clear au
  refine aV (fun i:Nat=>i<=xs.length/\∀ q (hq:q<xs.length),q<i->jT r xs[q]=false) (fun i=>[(9,.q (i:Nat)),(6,.q (j:Nat)),(1,.slice a l.length cp),(2,.p b2)])
   (fun _=>[JQ b2 r s d t p]) (fun i=>xs.length-i) ?_ ?_
  ·with_reducible apply aI (0:Nat) ⟨Zi _,fun i _ hi=>absurd hi (ZU _)⟩
   case hs1=>exact bS
   case ht=>exact iQ
  rintro i ⟨hi,oN⟩;by_cases iw:i<xs.length
  ·have ach:=Xv (ij iw);have cx0:w.cell? ⟨bx,ox+i*1,none⟩=some (.string xs[i]):=(hcx i _ (fw iw)).2 0 _ I;have Mm:=g4 e0 T3 elv iw;have L5:jT r xs[i]=false->∀ q (hq:q<xs.length),q<i+1->jT r xs[q]=false:=fun e q hq Rk=>by
    by_cases e2:q=i
    ·subst e2;exact e
    ·exact oN q hq (by omega)
   have YV:jT r xs[i]=(decide (xs[i]≠⟨#[]⟩)&&decide (xs[i]≠⟨#[45]⟩)&&decide (bA (cK r) xs[i]<0)):=rfl;generalize jT r xs[i]=lb at Mm L5 YV;generalize xs[i]=y at cx0 YV
   (refine Jq<|Jr<|Jv I<|Jv I<|Jv I<|ab (an (.of I) (.of I) cu (by omega) (by assumption) aW) I<|bG I I ae<|ab (ag (.of I) (At.base c1 I)) I<|JI I<|JA I<|Jn<|Jd I fun au=>Jk<|Jq<|J0<|Jr<|Jv I<|Jv I<|ab (an (.of I) (.of I) cu (by omega) (by assumption) aW) I<|bG I I ae<|ab (ag (.of I) (At.base c1 I)) I<|Jv I<|ab (an (.of I) (.of I) ach (by omega) au aW) I<|ab (ag (.of I) (At.base cx0 I)) I<|Ja I<|Ji<|Jv I<|ab (fy (.of I) (.of I)) I<|Jv I<|jz I I I I<|aH I I inferInstance (fun hg bE=>(fy (.bM hg I) (.of I))) I<|ab (ch (.of I) I) I<|Jv I<|aH I I inferInstance (fun hg bE=>(bK (.of I) .here ai (by rfl))) I<|jz I I I I<|fQ I I (fun hg=>(bj (.of I) (.cons (.bM hg I) (.cons (.bM hg I) .nil)) inferInstance eY)) I (fun hg w' aB=>(Mg y (Mem.keeps aB)))<|aH I I inferInstance (fun hg bE=>(lr (.bM hg I) (.of I))) I<|ab (ch (.of I) I) I<|Jn<|nW I (fun au=>?_) fun au=>?_;refine Jr<|Ja I<|Jn<|Je<|Jm<|Jh<|Jh<|Jm<|Jm<|Jh<|Jh<|Jm<|Jh<|JT ?_;rotate_left;refine Jw<|Jj<|Jt<|Jg<|Jv I<|JB I (by omega)<|Ja I<|Jn ?_;rotate_right)
   ·have e4:=Mm (by rw [YV,decide_eq_true au.1.1,decide_eq_true au.1.2,decide_eq_true au.2];rfl);rw [hB (by rw [e4];decide),e4]
   have e5:lb=false:=by
    rw [YV];rcases au with (q | q) | q
    ·rw [decide_eq_false q];rfl
    ·rw [decide_eq_false q];simp
    ·rw [decide_eq_false q];simp
   with_reducible apply aG (i+1) ⟨ZZ iw,L5 e5⟩ (show xs.length-(i+1)<xs.length-i by omega)
   case hs1=>exact bS
   case ht=>exact iQ
  have e5:=gn (g5 e0 T3 elv fun q hq=>oN q hq (by omega))
  (refine Jq<|Jr<|Jv I<|Jv I<|Jv I<|ab (an (.of I) (.of I) cu (by omega) (by assumption) aW) I<|bG I I ae<|ab (ag (.of I) (At.base c1 I)) I<|JI I<|JA I<|Jn<|Jc I fun au=>Jp<|Jl<|Jo<|Jj<|Jt<|Jg<|Jv I<|JB I (by omega)<|Ja I<|Jn ?_)
  with_reducible apply aG (j+1) ⟨ZZ aM,e5⟩ (show l.length-(j+1)<l.length-j by omega)
  case hs1=>exact bS
  case ht=>exact iQ
 ·obtain rfl:k=l.length:=by omega
  rw [hX,ew.2 hf];refine Jq<|Jr<|Jv I<|Jv I<|JI I<|JA I<|Jn<|Jc I fun au=>Jp<|Jl<|Jo<|Jt<|Jr<|Ja I<|Jn<|Je<|JT ?_
  rfl
def AH (l:List Tk):Bool:=(l.all fun t=>decide (t.de.size<=40)&&decide (t.so.length<=4)&&u4 t.so)&&decide (l.length<=9)
set_option maxHeartbeats 1000000 in
theorem AI {kv:Value} {l:List fc} (hw:Rd w kv 2 (gP l)) (hM:rp w l):ak T_ 44 [kv] w (.bool (AH (bJ l))):=by
 obtain ⟨a,cp,b,o,rfl,dy,bT,ha,hc⟩:=hw;rw [dx] at *;unfold maxLen at bT;have qT:(bJ l).length=l.length:=Zd _;refine ah func44 I I ?_;refine Jr<|Ja I<|Jn<|Jq<|Jr<|Ja I<|Jn<|J0 ?_;refine aV (ι:=Nat) (fun k=>k<=l.length/\∀ j (hj:j<l.length),j<k->(decide (l[j].tk.de.size<=40)&&decide (l[j].tk.so.length<=4)&&u4 l[j].tk.so)=true) (fun k=>[(3,.int .i64 (k:Nat)),(0,.slice a l.length cp)]) (fun _=>[]) (fun k=>l.length-k) ?_ ?_
 ·with_reducible apply aI (0:Nat) ⟨Zi _,fun j _ hj=>absurd hj (ZU _)⟩
  case hs1=>exact bS
  case ht=>exact .nil
 rintro k ⟨hk,hf⟩;by_cases aM:k<l.length
 ·have cu:=ha (iW aM);have aC:=(hc k _ (ph l aM)).2;have gJ:=Zj aM;have B5:=hM _ gJ;have hmt:l[k].tk∈bJ l:=Z0 gJ;have yg:(decide (l[k].tk.de.size<=40)&&decide (l[k].tk.so.length<=4)&&u4 l[k].tk.so)=true->∀ j (hj:j<l.length),j<k+1->(decide (l[j].tk.de.size<=40)&&decide (l[j].tk.so.length<=4)&&u4 l[j].tk.so)=true:=fun q j hj NH=>by
   by_cases e:j=k
   ·subst e;exact q
   ·exact hf j hj (by omega)
  generalize l[k]=x at aC B5 hmt yg;obtain ⟨⟨xd,xs⟩,xv⟩:=x;dsimp only at aC B5 hmt yg;have YL:∀ {w'},aJ [] w w'->ak T_ 69 [xv] w' (.bool (u4 xs)):=fun hk=>Cv (Rd.keeps B5 hk)
  obtain ⟨ax,cx,bx,ox,rfl,Rv,Db,Xv,hcx⟩:=B5;rw [bF] at *;unfold maxLen at Db;have aa0:=fun {w'}=>YL (w':=w')
  have c0:w.cell? ⟨b,o+k*2,none⟩=some (.string xd):=aC 0 _ I;have c1:w.cell? ⟨b,o+k*2+1,none⟩=some (.slice ax xs.length cx):=aC 1 _ I;generalize Rf:u4 xs=sb at *
  (refine Jq<|Jr<|Jv I<|Jv I<|JI I<|JA I<|Jn<|Jd I fun au=>Jk<|Jq<|J0<|Jr<|Jv I<|Jv I<|ab (fY cu au) I<|bG I I ae<|ab (ag (.of I) (At.base c0 I)) I<|ab (gI (.of I)) I<|JE I<|Jv I<|jz I I I I<|jz I I I I<|aH I I inferInstance (fun hg bE=>(an (.bM hg I) (.bM hg I) cu (by omega) au aW)) I<|aH I I inferInstance (fun hg bE=>(aq (.bM hg I) ae)) I<|aH I I inferInstance (fun hg bE=>(ag (.bM hg I) (At.base c1 I))) I<|aH I I inferInstance (fun hg bE=>(cq (.bM hg I))) I<|aH I I inferInstance (fun hg bE=>(nr (.bM hg I) (.of I))) I<|ab (bH (.of I) I) I<|Jv I<|jz I I I I<|jz I I I I<|aH I I inferInstance (fun hg bE=>(an (.bM hg I) (.bM hg I) cu (by omega) au aW)) I<|aH I I inferInstance (fun hg bE=>(aq (.bM hg I) ae)) I<|aH I I inferInstance (fun hg bE=>(ag (.bM hg I) (At.base c1 I))) I<|fQ I I (fun hg=>(bj (.of I) (.cons (.bM hg I) .nil) inferInstance eY)) I (fun hg w' aB=>(aa0 (Mem.keeps aB)))<|aH I I inferInstance (fun hg bE=>(eF (.bM hg I))) I<|ab (bH (.of I) I) I<|Jn<|nW I (fun au=>?_) fun au=>?_;refine Jr<|Ja I<|Jn<|Je<|Jm<|Jh<|Jh<|Jm<|Jh<|JT ?_;rotate_left;refine Jw<|Jj<|Jt<|Jg<|Jv I<|JB I (by omega)<|Ja I<|Jn ?_;rotate_right)
  ·have e:AH (bJ l)=false:=by
    unfold AH;rw [List.all_eq_false.2 ⟨_,hmt,?_⟩]
    ·rfl
    ·dsimp only;rw [Rf];rcases au with (q | q) | q
     ·rw [decide_eq_false (show ¬ xd.size<=40 by omega)];simp
     ·rw [decide_eq_false (show ¬ xs.length<=4 by omega)];simp
     ·rw [q];simp
   rw [e]
  ·have e:(decide (xd.size<=40)&&decide (xs.length<=4)&&sb)=true:=by
    rw [decide_eq_true (show xd.size<=40 by have:=au.1.1;omega),decide_eq_true (show xs.length<=4 by have:=au.1.2;omega),au.2];rfl
   with_reducible apply aG (k+1) ⟨ZZ aM,yg e⟩ (show l.length-(k+1)<l.length-k by omega)
   case hs1=>exact bS
   case ht=>exact .nil
 ·obtain rfl:k=l.length:=by omega
  have e:((bJ l).all fun t=>decide (t.de.size<=40)&&decide (t.so.length<=4)&&u4 t.so)=true:=Zad.2 fun x hx=>by
   unfold bJ at hx;obtain ⟨y,hy,rfl⟩:=Zy.1 hx;obtain ⟨j,hj,rfl⟩:=ZA hy;exact hf j hj hj
  have e2:AH (bJ l)=decide ((l.length:Int)<=9):=by
   unfold AH;rw [e,qT,Zau];exact decide_eq_decide.2 (by omega)
  rw [e2];refine Jq<|Jr<|Jv I<|Jv I<|JI I<|JA I<|Jn<|Jc I fun au=>Jp<|Jl<|Jo<|Jt<|Jr<|Jv I<|JI I<|JF I<|Ja I<|Jn<|Je<|JT ?_
  rfl
theorem z8 {r' q:Ro} {s d t p s' d' t' p':Value} {e bad:Int} (h:RR w r' s d t p) (hf:kE r') (h':RR w q s' d' t' p') (e1:e=bad) (e2:bad≠0->r'=Ro.nil) (e3:bad=0->r'=q):ak T_ 52 [RA r' s d t p,.q e,.q bad,RA q s' d' t' p'] w (.bool true):=by
 obtain ⟨h1,h2,h3,h4⟩:=h.one;have h5:=Rd.one h'.sr;have h6:=Rd.one h'.de;have h7:=Rd.one h'.ti;have h8:=Rd.one h'.po;subst e1;unfold RA;refine ah func52 I I ?_
 (refine Jr<|Jy I I fun _ _=>Jy I I fun _ _=>Ja I<|Jn<|Jq<|Jr<|Jv I<|JD I<|Jn<|gG I (fun au=>?_) fun au=>?_;refine Jr<|Jv I<|Jv I<|ab (qC (.of I) (.of I) I) I<|Jv I<|JK I I<|ab (cm (.there .here)) I<|JK I I ?_;rotate_left;refine Jk<|Jq ?_;rotate_right)
 ·have er:=e2 au;subst er;refine JN bN I (fun w1 aT=>AB (h.keeps aT.keeps) hf) ?_;rintro ⟨s1,d1,t1,p1⟩ _;dsimp only;unfold RA;refine jF (r:=Ro.nil) (s:=s1) (d:=d1) (t:=t1) (p:=p1) (br _ _) fun k1 k2 k3 k4=>?_
  (refine JK I I<|ab (aU .nil ai) I<|JK I I ?_)
  with_reducible apply aj
  case hr=>exact bb
  case hd=>rfl
  case hc=>
   intro w1 aT;have hR1:RR w1 Ro.nil s1 d1 t1 p1:=⟨cV aT (by exact .here) I,cW aT (by exact Take.there .here) I,cU aT bI I,cH aT cZ I⟩;have hR2:RR w1 Ro.nil (.z) (.z) (.z) (.z):=⟨Rd.nil _ 2,Rd.nil _ 3,Rd.nil _ 3,Rd.nil _ 3⟩;have:=Fz hR1 hR2;rwa [decide_eq_true I] at this
  (refine ab (ki (.of I) (.of I) (.of I) I) I<|Ja I<|Jn<|Ju<|JT ?_)
  rfl
 ·have e0:e=0:=Zo.1 au;have er:=e3 e0;subst er;subst e0;clear au e2 e3
  with_reducible refine dO 9 (by kernel_rfl) ?_
  refine aA (fun β=>(aS (.of I))) bo I ?_;refine aA (fun β=>(qC (.of I) (.of I) I)) bo I ?_;refine aA (fun β=>(aS (.of I))) bo I ?_;refine dq I (fun _=>rfl) ?_;refine aA (fun β=>(bK (.of I) (.there .here) ai (by rfl))) bo I ?_;refine dq I (fun _=>rfl) ?_;dsimp only [Nat.zero_add,Nat.reduceAdd]
  with_reducible apply fC (ι:=Value×Value×Value×Value) (Φ:=fun _=>True) (val:=fun x=>.agg #[.q r'.lv,.q r'.ma,x.1,x.2.1,x.2.2.1,x.2.2.2]) (own:=fun x=>qt r' x) (g:=g4) (B:=[]) (args:=fun _=>[.agg #[.q r'.lv,.q r'.ma,s,d,t,p]])
  case hg=>exact ri
  case hB=>rfl
  case hr=>exact fun β=>bj (.of I) (.o I .nil) inferInstance I
  case hd=>rfl
  case hc=>exact fun β w' hb=>AB (h.keeps hb.mem.keeps) hf
  dsimp only [Nat.reduceAdd];refine dq I (fun _=>rfl) ?_;refine aA (fun β=>(bK (.of I) .here ai (by rfl))) bo I ?_;refine dq I (fun _=>rfl) ?_;dsimp only [Nat.reduceAdd]
  with_reducible apply c7 (B:=[4]) (F:=fun _=>.bool true) (args:=fun β=>[.agg #[.q r'.lv,.q r'.ma,(g4 (β 4)).1,(g4 (β 4)).2.1,(g4 (β 4)).2.2.1,(g4 (β 4)).2.2.2],.agg #[.q r'.lv,.q r'.ma,s',d',t',p']])
  case hB=>kernel_rfl
  case hr=>exact fun β=>bj (.of I) (.o I (.o I .nil)) inferInstance I
  case hi=>exact bo
  case hd=>rfl
  case hc=>
   intro β w' hb;have m1:=hb.at 4 Zs (s:=⟨fun β=>.agg #[.q r'.lv,.q r'.ma,(g4 (β 4)).1,(g4 (β 4)).2.1,(g4 (β 4)).2.2.1,(g4 (β 4)).2.2.2],fun β=>qt r' (g4 (β 4))⟩) I
   dsimp only at m1;have:=Fz (QX m1 (br _ _)) (h'.keeps hb.mem.keeps);rwa [decide_eq_true I] at this
  dsimp only [Nat.reduceAdd]
  with_reducible apply aA (F:=fun _=>.bool true)
  case hr=>
   intro β
   with_reducible apply ki
   case hx=>exact Is.of I
   case hy=>exact Is.of I
   case hz=>exact Is.of I
   case e=>rfl
  case hi=>exact bo
  case hd=>rfl
  refine aA (fun β=>(cC (.of I))) bo I ?_;refine fq fun β=>?_;unfold qt;dsimp only [ez,Za,Zb,List.append_eq,Nat.reduceAdd];generalize g4 (β 4)=ya;clear β
  with_reducible refine cE (by kernel_rfl) ?_
  refine Jt<|Je<|JT ?_
  rfl
end Go.Proofs.A1
