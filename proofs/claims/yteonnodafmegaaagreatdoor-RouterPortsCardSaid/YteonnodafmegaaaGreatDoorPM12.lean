/- Parts of the proof: LJ LK LL LM LN LO. -/
import Derived.Test.YteonnodafmegaaaGreatDoorPM11
import Derived.Test.YteonnodafmegaaaGreatDoorPM04
import Derived.KernelRfl
set_option linter.unusedSectionVars false
set_option linter.unusedVariables false
set_option linter.unusedSimpArgs false
namespace Go.Proofs.A1
open Go Go.SL
open Tryz
open Tryz renaming prog->T_
def oZ (r:Ro) (x:Value×Value×Value×Value):List bd:=[row 118 2 x.1 r.sr.length (il r.sr),row 88 3 x.2.1 r.de.length (gm r.de),row 122 3 x.2.2.1 r.ti.length (iC r.ti),row 180 3 x.2.2.2 r.po.length (eF r.po)]
def gU (r:Ro):Prop:=r.sr.length<=1000000/\r.de.length<=1000000/\r.ti.length<=1000000/\r.po.length<=1000000
variable {c:Cx} {hs hs':List bd} {r:Ro} {v1 v2:Value} {w:World} {x:Value×Value×Value×Value}
theorem V2 {s d t p:Value} (h:RR w r s d t p) (c6:gU r):a8 T_ 21 [RA r s d t p] w [] (fun _:Value×Value×Value×Value=>True) (fun x=>RA r x.1 x.2.1 x.2.2.1 x.2.2.2) (fun x=>nV r x):=by
 obtain ⟨h1,h2,h3,h4⟩:=h.one;have Db:=h.sr;have Dl:=h.de;have yq:=h.ti;have EP:=h.po;obtain ⟨a1,ew,II,Iz,rfl,oO,iu,mz,kT⟩:=Db;obtain ⟨a2,c8,IH,Iy,rfl,jS,eV,jU,kg⟩:=Dl;obtain ⟨a3,dX,GP,F6,rfl,mU,gB,rP,pb⟩:=yq;obtain ⟨a4,eW,NB,Ix,rfl,q7,jF,zD,tI⟩:=EP;rw [cG] at *;rw [bY] at *;rw [bS] at *;rw [cT] at *;unfold maxLen at iu eV gB jF;obtain ⟨f1,f2,f3,f4⟩:=c6;unfold RA;refine aS func21 I I ?_
 (refine Jr<|Jy I I fun _ _=>Jz I I fun _ _=>Ji<|bD I I ae<|JL I (.there .here) I<|bD I I ae<|JL I (.there .here) I<|ab (aU (.o I (.o I .nil)) ai) I<|Jz I I fun _ _=>ak (.of I) (.of I) .here I I (dO I I I I I I) (br I) ai<|Jn<|Jq<|Jr<|bD I I ae<|JL I bE I<|JI I<|Jv I<|Jn<|J0 ?_)
 rename_i b1 tJ b2 sJ b3 rz;refine aJ 186 2 ?_;refine aV (ι:=Nat×Option Addr×Nat) (fun y=>y.1<=r.sr.length) (fun y=>[(20,.q (y.1:Nat)),(19,.q r.sr.length),(18,.slice a1 r.sr.length ew),(3,.p b3),(2,.p b2),(1,.p b1)]) (fun y=>[row 186 2 (.slice y.2.1 y.1 y.2.2) y.1 (il (r.sr.take y.1)),JP b3 r (.slice y.2.1 y.1 y.2.2) (.z) (.z) (.z),bu b2 (.cells #[.q 0,.q 0,.z,.z,.z,.z] 41 (0,0)),JQ b1 r (.slice a1 r.sr.length ew) (.slice a2 r.de.length c8) (.slice a3 r.ti.length dX) (.slice a4 r.po.length eW)]) (fun y=>r.sr.length-y.1) ?_ ?_
 ·apply aH (0,none,0) (Zi _)
  case hs1=>exact bT
  case ht=>
   exact .h4 .nil
 rintro ⟨k,g1,oX⟩ hk;dsimp only at hk ⊢;by_cases aL:k<r.sr.length
 ·have cY:=mz (iD aL);have aF:=(kT k _ (fW aL)).2;have bb:=Co aL;have hlen:(il (r.sr.take k)).length=k*2:=by rw [vd,Zs];omega
  unfold Sr.cells at aF bb;generalize r.sr[k]=x at aF bb
  (refine Jr<|JA I<|Jn<|Jq<|Jd I fun aA=>Jk<|Jq<|J0<|Jr<|ab (gE cY aA) I<|ab (ja (fo.base aF I)) I<|Jz I I fun _ _=>ak (.of I) (.of I) .here I I (ix I I) (br I) ai<|Jn<|Jg<|bD I I ae<|JL I bE I<|ab (bU .here) I<|bh (bz (.o I .nil) I I bI bI ai) I fun _ _=>?_)
  refine bA (.of I) (.of I) bE .here ai (by rfl) (ix I I) (by rfl) (by rfl) (by rfl) eC (by rfl) ?_;intro v';refine aK (v:=v') (by exact .here) fun gx cx e=>?_;subst e
  (refine bD I I ae<|ak (.of I) (.of I) cI I I (dE I) (br I) ai<|Jx<|Jj<|Jt<|Jg<|JB I (by omega)<|Jv I<|Jn ?_)
  apply aG (k+1,gx,cx) (by show k+1<=r.sr.length;omega) (by show r.sr.length-(k+1)<r.sr.length-k;omega)
  case hs1=>exact bT
  case ht=>
   show bj _ [row 186 2 (.slice gx (k+1) cx) (k+1) (il (r.sr.take (k+1))),JP b3 r (.slice gx (k+1) cx) (.z) (.z) (.z),bu b2 (.cells #[.q 0,.q 0,.z,.z,.z,.z] 41 (0,0)),JQ b1 r (.slice a1 r.sr.length ew) (.slice a2 r.de.length c8) (.slice a3 r.ti.length dX) (.slice a4 r.po.length eW)] _;rw [bb];exact .cons (.there .here) (.h1 (.cons bE (.cons bE .nil)))
 obtain rfl:k=r.sr.length:=by omega
 rw [ZL];clear hk aL
 (refine Jr<|JA I<|Jn<|Jq<|Jc I fun aA=>Jp<|Jl<|Jo<|Jt<|Jq<|Jr<|bD I I ae<|JL I cI I<|JI I<|Jv I<|Jn<|J0 ?_)
 refine aJ 90 3 ?_;refine aV (ι:=Nat×Option Addr×Nat) (fun y=>y.1<=r.de.length) (fun y=>[(34,.q (y.1:Nat)),(33,.q r.de.length),(32,.slice a2 r.de.length c8),(3,.p b3),(2,.p b2),(1,.p b1)]) (fun y=>[row 90 3 (.slice y.2.1 y.1 y.2.2) y.1 (gm (r.de.take y.1)),row 186 2 (.slice g1 r.sr.length oX) r.sr.length (il r.sr),JP b3 r (.slice g1 r.sr.length oX) (.slice y.2.1 y.1 y.2.2) (.z) (.z),bu b2 (.cells #[.q 0,.q 0,.z,.z,.z,.z] 41 (0,0)),JQ b1 r (.slice a1 r.sr.length ew) (.slice a2 r.de.length c8) (.slice a3 r.ti.length dX) (.slice a4 r.po.length eW)]) (fun y=>r.de.length-y.1) ?_ ?_
 ·apply aH (0,none,0) (Zi _)
  case hs1=>exact bT
  case ht=>
   exact .h5 .nil
 rintro ⟨k,g2,yB⟩ hk;dsimp only at hk ⊢;by_cases aL:k<r.de.length
 ·have cY:=jU (ij aL);have aF:=(kg k _ (fM aL)).2;have bb:=Dy aL;have hlen:(gm (r.de.take k)).length=k*3:=by rw [vF,Zs];omega
  unfold De.cells at aF bb;generalize r.de[k]=x at aF bb
  (refine Jr<|JA I<|Jn<|Jq<|Jd I fun aA=>Jk<|Jq<|J0<|Jr<|ab (gE cY aA) I<|ab (ja (fo.base aF I)) I<|Jz I I fun _ _=>ak (.of I) (.of I) .here I I (fc I I I) (br I) ai<|Jn<|Jg<|bD I I ae<|JL I cI I<|ab (bU .here) I<|bh (bz (.o I .nil) I I bI bI ai) I fun _ _=>?_)
  refine bA (.of I) (.of I) bE .here ai (by rfl) (fc I I I) (by rfl) (by rfl) (by rfl) eC (by rfl) ?_;intro v';refine aK (v:=v') (by exact .here) fun gx cx e=>?_;subst e
  (refine bD I I ae<|ak (.of I) (.of I) c7 I I (dE I) (br I) ai<|Jx<|Jj<|Jt<|Jg<|JB I (by omega)<|Jv I<|Jn ?_)
  apply aG (k+1,gx,cx) (by show k+1<=r.de.length;omega) (by show r.de.length-(k+1)<r.de.length-k;omega)
  case hs1=>exact bT
  case ht=>
   show bj _ [row 90 3 (.slice gx (k+1) cx) (k+1) (gm (r.de.take (k+1))),row 186 2 (.slice g1 r.sr.length oX) r.sr.length (il r.sr),JP b3 r (.slice g1 r.sr.length oX) (.slice gx (k+1) cx) (.z) (.z),bu b2 (.cells #[.q 0,.q 0,.z,.z,.z,.z] 41 (0,0)),JQ b1 r (.slice a1 r.sr.length ew) (.slice a2 r.de.length c8) (.slice a3 r.ti.length dX) (.slice a4 r.po.length eW)] _;rw [bb];exact .cons (.there .here) (.cons cI (.h1 (.cons bE (.cons bE .nil))))
 obtain rfl:k=r.de.length:=by omega
 rw [ZL];clear hk aL
 (refine Jr<|JA I<|Jn<|Jq<|Jc I fun aA=>Jp<|Jl<|Jo<|Jt<|Jq<|Jr<|bD I I ae<|JL I c7 I<|JI I<|Jv I<|Jn<|J0 ?_)
 refine aJ 187 3 ?_;refine aV (ι:=Nat×Option Addr×Nat) (fun y=>y.1<=r.ti.length) (fun y=>[(48,.q (y.1:Nat)),(47,.q r.ti.length),(46,.slice a3 r.ti.length dX),(3,.p b3),(2,.p b2),(1,.p b1)]) (fun y=>[row 187 3 (.slice y.2.1 y.1 y.2.2) y.1 (iC (r.ti.take y.1)),row 90 3 (.slice g2 r.de.length yB) r.de.length (gm r.de),row 186 2 (.slice g1 r.sr.length oX) r.sr.length (il r.sr),JP b3 r (.slice g1 r.sr.length oX) (.slice g2 r.de.length yB) (.slice y.2.1 y.1 y.2.2) (.z),bu b2 (.cells #[.q 0,.q 0,.z,.z,.z,.z] 41 (0,0)),JQ b1 r (.slice a1 r.sr.length ew) (.slice a2 r.de.length c8) (.slice a3 r.ti.length dX) (.slice a4 r.po.length eW)]) (fun y=>r.ti.length-y.1) ?_ ?_
 ·apply aH (0,none,0) (Zi _)
  case hs1=>exact bT
  case ht=>
   exact .h6 .nil
 rintro ⟨k,g3,HU⟩ hk;dsimp only at hk ⊢;by_cases aL:k<r.ti.length
 ·have cY:=rP (fq aL);have aF:=(pb k _ (ep aL)).2;have bb:=Cm aL;have hlen:(iC (r.ti.take k)).length=k*3:=by rw [u6,Zs];omega
  unfold Ti.cells at aF bb;generalize r.ti[k]=x at aF bb
  (refine Jr<|JA I<|Jn<|Jq<|Jd I fun aA=>Jk<|Jq<|J0<|Jr<|ab (gE cY aA) I<|ab (ja (fo.base aF I)) I<|Jz I I fun _ _=>ak (.of I) (.of I) .here I I (fc I I I) (br I) ai<|Jn<|Jg<|bD I I ae<|JL I c7 I<|ab (bU .here) I<|bh (bz (.o I .nil) I I bI bI ai) I fun _ _=>?_)
  refine bA (.of I) (.of I) bE .here ai (by rfl) (fc I I I) (by rfl) (by rfl) (by rfl) eC (by rfl) ?_;intro v';refine aK (v:=v') (by exact .here) fun gx cx e=>?_;subst e
  (refine bD I I ae<|ak (.of I) (.of I) ek I I (dE I) (br I) ai<|Jx<|Jj<|Jt<|Jg<|JB I (by omega)<|Jv I<|Jn ?_)
  apply aG (k+1,gx,cx) (by show k+1<=r.ti.length;omega) (by show r.ti.length-(k+1)<r.ti.length-k;omega)
  case hs1=>exact bT
  case ht=>
   show bj _ [row 187 3 (.slice gx (k+1) cx) (k+1) (iC (r.ti.take (k+1))),row 90 3 (.slice g2 r.de.length yB) r.de.length (gm r.de),row 186 2 (.slice g1 r.sr.length oX) r.sr.length (il r.sr),JP b3 r (.slice g1 r.sr.length oX) (.slice g2 r.de.length yB) (.slice gx (k+1) cx) (.z),bu b2 (.cells #[.q 0,.q 0,.z,.z,.z,.z] 41 (0,0)),JQ b1 r (.slice a1 r.sr.length ew) (.slice a2 r.de.length c8) (.slice a3 r.ti.length dX) (.slice a4 r.po.length eW)] _;rw [bb];exact .cons (.there .here) (.cons cI (.cons cI (.h1 (.cons bE (.cons bE .nil)))))
 obtain rfl:k=r.ti.length:=by omega
 rw [ZL];clear hk aL
 (refine Jr<|JA I<|Jn<|Jq<|Jc I fun aA=>Jp<|Jl<|Jo<|Jt<|Jq<|Jr<|bD I I ae<|JL I ek I<|JI I<|Jv I<|Jn<|J0 ?_)
 refine aJ 188 3 ?_;refine aV (ι:=Nat×Option Addr×Nat) (fun y=>y.1<=r.po.length) (fun y=>[(62,.q (y.1:Nat)),(61,.q r.po.length),(60,.slice a4 r.po.length eW),(3,.p b3),(2,.p b2),(1,.p b1)]) (fun y=>[row 188 3 (.slice y.2.1 y.1 y.2.2) y.1 (eF (r.po.take y.1)),row 187 3 (.slice g3 r.ti.length HU) r.ti.length (iC r.ti),row 90 3 (.slice g2 r.de.length yB) r.de.length (gm r.de),row 186 2 (.slice g1 r.sr.length oX) r.sr.length (il r.sr),JP b3 r (.slice g1 r.sr.length oX) (.slice g2 r.de.length yB) (.slice g3 r.ti.length HU) (.slice y.2.1 y.1 y.2.2),bu b2 (.cells #[.q 0,.q 0,.z,.z,.z,.z] 41 (0,0)),JQ b1 r (.slice a1 r.sr.length ew) (.slice a2 r.de.length c8) (.slice a3 r.ti.length dX) (.slice a4 r.po.length eW)]) (fun y=>r.po.length-y.1) ?_ ?_
 ·apply aH (0,none,0) (Zi _)
  case hs1=>exact bT
  case ht=>
   exact .h7 .nil
 rintro ⟨k,g4,XD⟩ hk;dsimp only at hk ⊢;by_cases aL:k<r.po.length
 ·have cY:=zD (j8 aL);have aF:=(tI k _ (ia aL)).2;have bb:=CR aL;have hlen:(eF (r.po.take k)).length=k*3:=by rw [gA,Zs];omega
  unfold Po.cells at aF bb;generalize r.po[k]=x at aF bb
  (refine Jr<|JA I<|Jn<|Jq<|Jd I fun aA=>Jk<|Jq<|J0<|Jr<|ab (gE cY aA) I<|ab (ja (fo.base aF I)) I<|Jz I I fun _ _=>ak (.of I) (.of I) .here I I (fc I I I) (br I) ai<|Jn<|Jg<|bD I I ae<|JL I ek I<|ab (bU .here) I<|bh (bz (.o I .nil) I I bI bI ai) I fun _ _=>?_)
  refine bA (.of I) (.of I) bE .here ai (by rfl) (fc I I I) (by rfl) (by rfl) (by rfl) eC (by rfl) ?_;intro v';refine aK (v:=v') (by exact .here) fun gx cx e=>?_;subst e
  (refine bD I I ae<|ak (.of I) (.of I) nR I I (dE I) (br I) ai<|Jx<|Jj<|Jt<|Jg<|JB I (by omega)<|Jv I<|Jn ?_)
  apply aG (k+1,gx,cx) (by show k+1<=r.po.length;omega) (by show r.po.length-(k+1)<r.po.length-k;omega)
  case hs1=>exact bT
  case ht=>
   show bj _ [row 188 3 (.slice gx (k+1) cx) (k+1) (eF (r.po.take (k+1))),row 187 3 (.slice g3 r.ti.length HU) r.ti.length (iC r.ti),row 90 3 (.slice g2 r.de.length yB) r.de.length (gm r.de),row 186 2 (.slice g1 r.sr.length oX) r.sr.length (il r.sr),JP b3 r (.slice g1 r.sr.length oX) (.slice g2 r.de.length yB) (.slice g3 r.ti.length HU) (.slice gx (k+1) cx),bu b2 (.cells #[.q 0,.q 0,.z,.z,.z,.z] 41 (0,0)),JQ b1 r (.slice a1 r.sr.length ew) (.slice a2 r.de.length c8) (.slice a3 r.ti.length dX) (.slice a4 r.po.length eW)] _;rw [bb];exact .cons (.there .here) (.cons cI (.cons cI (.cons cI (.h1 (.cons bE (.cons bE .nil))))))
 obtain rfl:k=r.po.length:=by omega
 rw [ZL];clear hk aL
 (refine Jr<|JA I<|Jn<|Jq<|Jc I fun aA=>Jp<|Jl<|Jo<|Jt<|Jr<|ab (bU c7) I<|ak (.of I) (.of I) ek I I (dO I I I I I I) (br I) ai<|Jn<|Je ?_)
 with_reducible first|apply aO|apply aP
 case he=>exact ig I inferInstance I .here ai (by rfl)
 case hR=>
  intro w' aB;exact aC (.slice g1 r.sr.length oX,.slice g2 r.de.length yB,.slice g3 r.ti.length HU,.slice g4 r.po.length XD) trivial (by exact .cons c7 (.cons cI (.cons bE (.cons (.there .here) .nil)))) aB I
theorem Al {s d t p:Value} (h:RR w r s d t p) (c6:gU r):a8 T_ 57 [RA r s d t p] w [] (fun _:Value×Value×Value×Value=>True) (fun x=>RA r x.1 x.2.1 x.2.2.1 x.2.2.2) (fun x=>oZ r x):=by
 obtain ⟨h1,h2,h3,h4⟩:=h.one;have Db:=h.sr;have Dl:=h.de;have yq:=h.ti;have EP:=h.po;obtain ⟨a1,ew,II,Iz,rfl,oO,iu,mz,kT⟩:=Db;obtain ⟨a2,c8,IH,Iy,rfl,jS,eV,jU,kg⟩:=Dl;obtain ⟨a3,dX,GP,F6,rfl,mU,gB,rP,pb⟩:=yq;obtain ⟨a4,eW,NB,Ix,rfl,q7,jF,zD,tI⟩:=EP;rw [cG] at *;rw [bY] at *;rw [bS] at *;rw [cT] at *;unfold maxLen at iu eV gB jF;obtain ⟨f1,f2,f3,f4⟩:=c6;unfold RA;refine aS func57 I I ?_
 (refine Jr<|Jy I I fun _ _=>Jz I I fun _ _=>Ji<|bD I I ae<|JL I (.there .here) I<|bD I I ae<|JL I (.there .here) I<|ab (aU (.o I (.o I .nil)) ai) I<|Jz I I fun _ _=>ak (.of I) (.of I) .here I I (dO I I I I I I) (br I) ai<|Jn<|Jq<|Jr<|bD I I ae<|JL I bE I<|JI I<|Jv I<|Jn<|J0 ?_)
 rename_i b1 tJ b2 sJ b3 rz;refine aJ 118 2 ?_;refine aV (ι:=Nat×Option Addr×Nat) (fun y=>y.1<=r.sr.length) (fun y=>[(20,.q (y.1:Nat)),(19,.q r.sr.length),(18,.slice a1 r.sr.length ew),(3,.p b3),(2,.p b2),(1,.p b1)]) (fun y=>[row 118 2 (.slice y.2.1 y.1 y.2.2) y.1 (il (r.sr.take y.1)),JQ b3 r (.slice y.2.1 y.1 y.2.2) (.z) (.z) (.z),bu b2 (.cells #[.q 0,.q 0,.z,.z,.z,.z] 27 (0,0)),JP b1 r (.slice a1 r.sr.length ew) (.slice a2 r.de.length c8) (.slice a3 r.ti.length dX) (.slice a4 r.po.length eW)]) (fun y=>r.sr.length-y.1) ?_ ?_
 ·apply aH (0,none,0) (Zi _)
  case hs1=>exact bT
  case ht=>
   exact .h4 .nil
 rintro ⟨k,g1,oX⟩ hk;dsimp only at hk ⊢;by_cases aL:k<r.sr.length
 ·have cY:=mz (iD aL);have aF:=(kT k _ (fW aL)).2;have bb:=Co aL;have hlen:(il (r.sr.take k)).length=k*2:=by rw [vd,Zs];omega
  unfold Sr.cells at aF bb;generalize r.sr[k]=x at aF bb
  (refine Jr<|JA I<|Jn<|Jq<|Jd I fun aA=>Jk<|Jq<|J0<|Jr<|ab (gE cY aA) I<|ab (ja (fo.base aF I)) I<|Jz I I fun _ _=>ak (.of I) (.of I) .here I I (ix I I) (br I) ai<|Jn<|Jg<|bD I I ae<|JL I bE I<|ab (bU .here) I<|bh (bz (.o I .nil) I I bI bI ai) I fun _ _=>?_)
  refine bA (.of I) (.of I) bE .here ai (by rfl) (ix I I) (by rfl) (by rfl) (by rfl) eC (by rfl) ?_;intro v';refine aK (v:=v') (by exact .here) fun gx cx e=>?_;subst e
  (refine bD I I ae<|ak (.of I) (.of I) cI I I (dE I) (br I) ai<|Jx<|Jj<|Jt<|Jg<|JB I (by omega)<|Jv I<|Jn ?_)
  apply aG (k+1,gx,cx) (by show k+1<=r.sr.length;omega) (by show r.sr.length-(k+1)<r.sr.length-k;omega)
  case hs1=>exact bT
  case ht=>
   show bj _ [row 118 2 (.slice gx (k+1) cx) (k+1) (il (r.sr.take (k+1))),JQ b3 r (.slice gx (k+1) cx) (.z) (.z) (.z),bu b2 (.cells #[.q 0,.q 0,.z,.z,.z,.z] 27 (0,0)),JP b1 r (.slice a1 r.sr.length ew) (.slice a2 r.de.length c8) (.slice a3 r.ti.length dX) (.slice a4 r.po.length eW)] _;rw [bb];exact .cons (.there .here) (.h1 (.cons bE (.cons bE .nil)))
 obtain rfl:k=r.sr.length:=by omega
 rw [ZL];clear hk aL
 (refine Jr<|JA I<|Jn<|Jq<|Jc I fun aA=>Jp<|Jl<|Jo<|Jt<|Jq<|Jr<|bD I I ae<|JL I cI I<|JI I<|Jv I<|Jn<|J0 ?_)
 refine aJ 88 3 ?_;refine aV (ι:=Nat×Option Addr×Nat) (fun y=>y.1<=r.de.length) (fun y=>[(34,.q (y.1:Nat)),(33,.q r.de.length),(32,.slice a2 r.de.length c8),(3,.p b3),(2,.p b2),(1,.p b1)]) (fun y=>[row 88 3 (.slice y.2.1 y.1 y.2.2) y.1 (gm (r.de.take y.1)),row 118 2 (.slice g1 r.sr.length oX) r.sr.length (il r.sr),JQ b3 r (.slice g1 r.sr.length oX) (.slice y.2.1 y.1 y.2.2) (.z) (.z),bu b2 (.cells #[.q 0,.q 0,.z,.z,.z,.z] 27 (0,0)),JP b1 r (.slice a1 r.sr.length ew) (.slice a2 r.de.length c8) (.slice a3 r.ti.length dX) (.slice a4 r.po.length eW)]) (fun y=>r.de.length-y.1) ?_ ?_
 ·apply aH (0,none,0) (Zi _)
  case hs1=>exact bT
  case ht=>
   exact .h5 .nil
 rintro ⟨k,g2,yB⟩ hk;dsimp only at hk ⊢;by_cases aL:k<r.de.length
 ·have cY:=jU (ij aL);have aF:=(kg k _ (fM aL)).2;have bb:=Dy aL;have hlen:(gm (r.de.take k)).length=k*3:=by rw [vF,Zs];omega
  unfold De.cells at aF bb;generalize r.de[k]=x at aF bb
  (refine Jr<|JA I<|Jn<|Jq<|Jd I fun aA=>Jk<|Jq<|J0<|Jr<|ab (gE cY aA) I<|ab (ja (fo.base aF I)) I<|Jz I I fun _ _=>ak (.of I) (.of I) .here I I (fc I I I) (br I) ai<|Jn<|Jg<|bD I I ae<|JL I cI I<|ab (bU .here) I<|bh (bz (.o I .nil) I I bI bI ai) I fun _ _=>?_)
  refine bA (.of I) (.of I) bE .here ai (by rfl) (fc I I I) (by rfl) (by rfl) (by rfl) eC (by rfl) ?_;intro v';refine aK (v:=v') (by exact .here) fun gx cx e=>?_;subst e
  (refine bD I I ae<|ak (.of I) (.of I) c7 I I (dE I) (br I) ai<|Jx<|Jj<|Jt<|Jg<|JB I (by omega)<|Jv I<|Jn ?_)
  apply aG (k+1,gx,cx) (by show k+1<=r.de.length;omega) (by show r.de.length-(k+1)<r.de.length-k;omega)
  case hs1=>exact bT
  case ht=>
   show bj _ [row 88 3 (.slice gx (k+1) cx) (k+1) (gm (r.de.take (k+1))),row 118 2 (.slice g1 r.sr.length oX) r.sr.length (il r.sr),JQ b3 r (.slice g1 r.sr.length oX) (.slice gx (k+1) cx) (.z) (.z),bu b2 (.cells #[.q 0,.q 0,.z,.z,.z,.z] 27 (0,0)),JP b1 r (.slice a1 r.sr.length ew) (.slice a2 r.de.length c8) (.slice a3 r.ti.length dX) (.slice a4 r.po.length eW)] _;rw [bb];exact .cons (.there .here) (.cons cI (.h1 (.cons bE (.cons bE .nil))))
 obtain rfl:k=r.de.length:=by omega
 rw [ZL];clear hk aL
 (refine Jr<|JA I<|Jn<|Jq<|Jc I fun aA=>Jp<|Jl<|Jo<|Jt<|Jq<|Jr<|bD I I ae<|JL I c7 I<|JI I<|Jv I<|Jn<|J0 ?_)
 refine aJ 122 3 ?_;refine aV (ι:=Nat×Option Addr×Nat) (fun y=>y.1<=r.ti.length) (fun y=>[(48,.q (y.1:Nat)),(47,.q r.ti.length),(46,.slice a3 r.ti.length dX),(3,.p b3),(2,.p b2),(1,.p b1)]) (fun y=>[row 122 3 (.slice y.2.1 y.1 y.2.2) y.1 (iC (r.ti.take y.1)),row 88 3 (.slice g2 r.de.length yB) r.de.length (gm r.de),row 118 2 (.slice g1 r.sr.length oX) r.sr.length (il r.sr),JQ b3 r (.slice g1 r.sr.length oX) (.slice g2 r.de.length yB) (.slice y.2.1 y.1 y.2.2) (.z),bu b2 (.cells #[.q 0,.q 0,.z,.z,.z,.z] 27 (0,0)),JP b1 r (.slice a1 r.sr.length ew) (.slice a2 r.de.length c8) (.slice a3 r.ti.length dX) (.slice a4 r.po.length eW)]) (fun y=>r.ti.length-y.1) ?_ ?_
 ·apply aH (0,none,0) (Zi _)
  case hs1=>exact bT
  case ht=>
   exact .h6 .nil
 rintro ⟨k,g3,HU⟩ hk;dsimp only at hk ⊢;by_cases aL:k<r.ti.length
 ·have cY:=rP (fq aL);have aF:=(pb k _ (ep aL)).2;have bb:=Cm aL;have hlen:(iC (r.ti.take k)).length=k*3:=by rw [u6,Zs];omega
  unfold Ti.cells at aF bb;generalize r.ti[k]=x at aF bb
  (refine Jr<|JA I<|Jn<|Jq<|Jd I fun aA=>Jk<|Jq<|J0<|Jr<|ab (gE cY aA) I<|ab (ja (fo.base aF I)) I<|Jz I I fun _ _=>ak (.of I) (.of I) .here I I (fc I I I) (br I) ai<|Jn<|Jg<|bD I I ae<|JL I c7 I<|ab (bU .here) I<|bh (bz (.o I .nil) I I bI bI ai) I fun _ _=>?_)
  refine bA (.of I) (.of I) bE .here ai (by rfl) (fc I I I) (by rfl) (by rfl) (by rfl) eC (by rfl) ?_;intro v';refine aK (v:=v') (by exact .here) fun gx cx e=>?_;subst e
  (refine bD I I ae<|ak (.of I) (.of I) ek I I (dE I) (br I) ai<|Jx<|Jj<|Jt<|Jg<|JB I (by omega)<|Jv I<|Jn ?_)
  apply aG (k+1,gx,cx) (by show k+1<=r.ti.length;omega) (by show r.ti.length-(k+1)<r.ti.length-k;omega)
  case hs1=>exact bT
  case ht=>
   show bj _ [row 122 3 (.slice gx (k+1) cx) (k+1) (iC (r.ti.take (k+1))),row 88 3 (.slice g2 r.de.length yB) r.de.length (gm r.de),row 118 2 (.slice g1 r.sr.length oX) r.sr.length (il r.sr),JQ b3 r (.slice g1 r.sr.length oX) (.slice g2 r.de.length yB) (.slice gx (k+1) cx) (.z),bu b2 (.cells #[.q 0,.q 0,.z,.z,.z,.z] 27 (0,0)),JP b1 r (.slice a1 r.sr.length ew) (.slice a2 r.de.length c8) (.slice a3 r.ti.length dX) (.slice a4 r.po.length eW)] _;rw [bb];exact .cons (.there .here) (.cons cI (.cons cI (.h1 (.cons bE (.cons bE .nil)))))
 obtain rfl:k=r.ti.length:=by omega
 rw [ZL];clear hk aL
 (refine Jr<|JA I<|Jn<|Jq<|Jc I fun aA=>Jp<|Jl<|Jo<|Jt<|Jq<|Jr<|bD I I ae<|JL I ek I<|JI I<|Jv I<|Jn<|J0 ?_)
 refine aJ 180 3 ?_;refine aV (ι:=Nat×Option Addr×Nat) (fun y=>y.1<=r.po.length) (fun y=>[(62,.q (y.1:Nat)),(61,.q r.po.length),(60,.slice a4 r.po.length eW),(3,.p b3),(2,.p b2),(1,.p b1)]) (fun y=>[row 180 3 (.slice y.2.1 y.1 y.2.2) y.1 (eF (r.po.take y.1)),row 122 3 (.slice g3 r.ti.length HU) r.ti.length (iC r.ti),row 88 3 (.slice g2 r.de.length yB) r.de.length (gm r.de),row 118 2 (.slice g1 r.sr.length oX) r.sr.length (il r.sr),JQ b3 r (.slice g1 r.sr.length oX) (.slice g2 r.de.length yB) (.slice g3 r.ti.length HU) (.slice y.2.1 y.1 y.2.2),bu b2 (.cells #[.q 0,.q 0,.z,.z,.z,.z] 27 (0,0)),JP b1 r (.slice a1 r.sr.length ew) (.slice a2 r.de.length c8) (.slice a3 r.ti.length dX) (.slice a4 r.po.length eW)]) (fun y=>r.po.length-y.1) ?_ ?_
 ·apply aH (0,none,0) (Zi _)
  case hs1=>exact bT
  case ht=>
   exact .h7 .nil
 rintro ⟨k,g4,XD⟩ hk;dsimp only at hk ⊢;by_cases aL:k<r.po.length
 ·have cY:=zD (j8 aL);have aF:=(tI k _ (ia aL)).2;have bb:=CR aL;have hlen:(eF (r.po.take k)).length=k*3:=by rw [gA,Zs];omega
  unfold Po.cells at aF bb;generalize r.po[k]=x at aF bb
  (refine Jr<|JA I<|Jn<|Jq<|Jd I fun aA=>Jk<|Jq<|J0<|Jr<|ab (gE cY aA) I<|ab (ja (fo.base aF I)) I<|Jz I I fun _ _=>ak (.of I) (.of I) .here I I (fc I I I) (br I) ai<|Jn<|Jg<|bD I I ae<|JL I ek I<|ab (bU .here) I<|bh (bz (.o I .nil) I I bI bI ai) I fun _ _=>?_)
  refine bA (.of I) (.of I) bE .here ai (by rfl) (fc I I I) (by rfl) (by rfl) (by rfl) eC (by rfl) ?_;intro v';refine aK (v:=v') (by exact .here) fun gx cx e=>?_;subst e
  (refine bD I I ae<|ak (.of I) (.of I) nR I I (dE I) (br I) ai<|Jx<|Jj<|Jt<|Jg<|JB I (by omega)<|Jv I<|Jn ?_)
  apply aG (k+1,gx,cx) (by show k+1<=r.po.length;omega) (by show r.po.length-(k+1)<r.po.length-k;omega)
  case hs1=>exact bT
  case ht=>
   show bj _ [row 180 3 (.slice gx (k+1) cx) (k+1) (eF (r.po.take (k+1))),row 122 3 (.slice g3 r.ti.length HU) r.ti.length (iC r.ti),row 88 3 (.slice g2 r.de.length yB) r.de.length (gm r.de),row 118 2 (.slice g1 r.sr.length oX) r.sr.length (il r.sr),JQ b3 r (.slice g1 r.sr.length oX) (.slice g2 r.de.length yB) (.slice g3 r.ti.length HU) (.slice gx (k+1) cx),bu b2 (.cells #[.q 0,.q 0,.z,.z,.z,.z] 27 (0,0)),JP b1 r (.slice a1 r.sr.length ew) (.slice a2 r.de.length c8) (.slice a3 r.ti.length dX) (.slice a4 r.po.length eW)] _;rw [bb];exact .cons (.there .here) (.cons cI (.cons cI (.cons cI (.h1 (.cons bE (.cons bE .nil))))))
 obtain rfl:k=r.po.length:=by omega
 rw [ZL];clear hk aL
 (refine Jr<|JA I<|Jn<|Jq<|Jc I fun aA=>Jp<|Jl<|Jo<|Jt<|Jr<|ab (bU c7) I<|ak (.of I) (.of I) ek I I (dO I I I I I I) (br I) ai<|Jn<|Je ?_)
 with_reducible first|apply aO|apply aP
 case he=>exact ig I inferInstance I .here ai (by rfl)
 case hR=>
  intro w' aB;exact aC (.slice g1 r.sr.length oX,.slice g2 r.de.length yB,.slice g3 r.ti.length HU,.slice g4 r.po.length XD) trivial (by exact .cons c7 (.cons cI (.cons bE (.cons (.there .here) .nil)))) aB I
theorem kJ {α:Type} {l m:List α} {k:Nat} (hl:k<l.length) (hm:k<m.length) (h:l[k]=m[k]):(l.drop k=m.drop k)↔l.drop (k+1)=m.drop (k+1):=by
 rw [Zt hl,Zt hm,h];exact ⟨fun e=>(List.cons.inj e).2,fun e=>by rw [e]⟩
theorem FW {l m:List ByteArray} (h1:Rd w v1 1 (fN l)) (h2:Rd w v2 1 (fN m)) :
  an T_ 58 [v1,v2] w (.bool (decide (l=m))):=by
 obtain ⟨a1,XP,b1,o1,rfl,oO,iu,mz,kT⟩:=h1;obtain ⟨a2,pe,b2,o2,rfl,jS,eV,jU,kg⟩:=h2;rw [bG] at *;rw [bG] at *;unfold maxLen at iu eV;refine aj func58 I I ?_
 (refine Jr<|Ja I<|Jn<|Jq<|Jr<|Jv I<|JI I<|Jv I<|JI I<|JD I<|Jn<|gL I (fun aA=>?_) fun aA=>?_;refine Jr<|Ja I<|Jn<|Ju<|JT ?_;rotate_left;refine Jk<|Jq<|Jr<|Ja I<|Jn<|J0 ?_;rotate_right)
 ·rw [decide_eq_false fun e=>aA (by rw [e])]
 have rr:l.length=m.length:=by omega
 refine aV (ι:=Nat) (fun k=>k<=l.length/\(l=m↔l.drop k=m.drop k)) (fun k=>[(5,.q (k:Int)),(0,.slice a1 l.length XP),(1,.slice a2 m.length pe)]) (fun _=>[]) (fun k=>l.length-k) ?_ ?_
 ·apply aH (0:Nat) ⟨Zi _,Iff.rfl⟩
  case hs1=>exact bT
  case ht=>(try simp only [Ze,Zf,Za]);exact .nil
 rintro k ⟨hk,hf⟩;by_cases aL:k<l.length
 ·have fT:k<m.length:=by omega
  have xk:=mz (iU aL);have qO:=jU (iU fT);have mf:=(kT k _ (fH aL)).2;have fB:=(kg k _ (fH fT)).2;have hd:=kJ (l:=l) (m:=m) aL fT;have gl:l[k]≠m[k]->l.drop k≠m.drop k:=fun hne e=>hne (by
   rw [Zt aL,Zt fT] at e;exact (List.cons.inj e).1)
  generalize l[k]=x at mf hd gl;generalize m[k]=y at fB hd gl;have c1:w.cell? ⟨b1,o1+k*1,none⟩=some (.string x):=mf 0 _ I;have c2:w.cell? ⟨b2,o2+k*1,none⟩=some (.string y):=fB 0 _ I;refine Jq<|Jr<|Jv I<|Jv I<|JI I<|JA I<|Jn<|Jd I fun aA=>Jk<|Jq<|J0<|Jq ?_
  with_reducible refine cz 9 (by kernel_rfl) ?_
  (refine fw I I<|fw I I<|aq (gE xk aA) I<|aq (ag (.of I) (At.base c1 I)) I<|fw I I<|fw I I<|aq (ao (.of I) (.of I) qO (by omega) (by omega) aW) I<|aq (ag (.of I) (At.base c2 I)) I<|aq (gz (.of I) (.of I)) I ?_)
  with_reducible refine cC ?_
  (refine Jn<|gL I (fun aA=>?_) fun aA=>?_;refine Jr<|Ja I<|Jn<|Je<|Jm<|Jh<|Jh<|Jm<|Jh<|JT ?_;rotate_left;refine Jw<|Jj<|Jt<|Jg<|Jv I<|JB I (by omega)<|Ja I<|Jn ?_;rotate_right)
  ·have hne:x≠y:=aA;rw [decide_eq_false fun e=>gl hne (hf.1 e)]
  ·have he:x=y:=Zq.1 aA;clear aA;apply aG (k+1) ⟨(show k+1<=l.length from aL),hf.trans (hd he)⟩ (show l.length-(k+1)<l.length-k by omega)
   case hs1=>exact bT
   case ht=>(try simp only [Ze,Zf,Za]);exact .nil
 ·obtain rfl:k=l.length:=by omega
  have:l=m:=hf.2 (by rw [ZY,rr,ZY]);refine Jq<|Jr<|Jv I<|Jv I<|JI I<|JA I<|Jn<|Jc I fun aA=>Jp<|Jl<|Jo<|Jt<|Jr<|Ja I<|Jn<|Je<|JT ?_;rw [decide_eq_true this]
theorem Ou {l m:List Int} (h1:Rd w v1 1 (ints l)) (h2:Rd w v2 1 (ints m)) :
  an T_ 109 [v1,v2] w (.bool (decide (l=m))):=by
 obtain ⟨a1,XP,b1,o1,rfl,oO,iu,mz,kT⟩:=h1;obtain ⟨a2,pe,b2,o2,rfl,jS,eV,jU,kg⟩:=h2;rw [dz] at *;rw [dz] at *;unfold maxLen at iu eV;refine aj func109 I I ?_
 (refine Jr<|Ja I<|Jn<|Jq<|Jr<|Jv I<|JI I<|Jv I<|JI I<|JD I<|Jn<|gL I (fun aA=>?_) fun aA=>?_;refine Jr<|Ja I<|Jn<|Ju<|JT ?_;rotate_left;refine Jk<|Jq<|Jr<|Ja I<|Jn<|J0 ?_;rotate_right)
 ·rw [decide_eq_false fun e=>aA (by rw [e])]
 have rr:l.length=m.length:=by omega
 refine aV (ι:=Nat) (fun k=>k<=l.length/\(l=m↔l.drop k=m.drop k)) (fun k=>[(5,.q (k:Int)),(0,.slice a1 l.length XP),(1,.slice a2 m.length pe)]) (fun _=>[]) (fun k=>l.length-k) ?_ ?_
 ·apply aH (0:Nat) ⟨Zi _,Iff.rfl⟩
  case hs1=>exact bT
  case ht=>(try simp only [Ze,Zf,Za]);exact .nil
 rintro k ⟨hk,hf⟩;by_cases aL:k<l.length
 ·have fT:k<m.length:=by omega
  have xk:=mz (kc aL);have qO:=jU (kc fT);have mf:=(kT k _ (iV aL)).2;have fB:=(kg k _ (iV fT)).2;have hd:=kJ (l:=l) (m:=m) aL fT;have gl:l[k]≠m[k]->l.drop k≠m.drop k:=fun hne e=>hne (by
   rw [Zt aL,Zt fT] at e;exact (List.cons.inj e).1)
  generalize l[k]=x at mf hd gl;generalize m[k]=y at fB hd gl;have c1:w.cell? ⟨b1,o1+k*1,none⟩=some (.q x):=mf 0 _ I;have c2:w.cell? ⟨b2,o2+k*1,none⟩=some (.q y):=fB 0 _ I;refine Jq<|Jr<|Jv I<|Jv I<|JI I<|JA I<|Jn<|Jd I fun aA=>Jk<|Jq<|J0<|Jq ?_
  with_reducible refine cz 9 (by kernel_rfl) ?_
  (refine fw I I<|fw I I<|aq (gE xk aA) I<|aq (ag (.of I) (At.base c1 I)) I<|fw I I<|fw I I<|aq (ao (.of I) (.of I) qO (by omega) (by omega) aW) I<|aq (ag (.of I) (At.base c2 I)) I<|aq (j7 (.of I) (.of I)) I ?_)
  with_reducible refine cC ?_
  (refine Jn<|gL I (fun aA=>?_) fun aA=>?_;refine Jr<|Ja I<|Jn<|Je<|Jm<|Jh<|Jh<|Jm<|Jh<|JT ?_;rotate_left;refine Jw<|Jj<|Jt<|Jg<|Jv I<|JB I (by omega)<|Ja I<|Jn ?_;rotate_right)
  ·have hne:x≠y:=aA;rw [decide_eq_false fun e=>gl hne (hf.1 e)]
  ·have he:x=y:=Zq.1 aA;clear aA;apply aG (k+1) ⟨(show k+1<=l.length from aL),hf.trans (hd he)⟩ (show l.length-(k+1)<l.length-k by omega)
   case hs1=>exact bT
   case ht=>(try simp only [Ze,Zf,Za]);exact .nil
 ·obtain rfl:k=l.length:=by omega
  have:l=m:=hf.2 (by rw [ZY,rr,ZY]);refine Jq<|Jr<|Jv I<|Jv I<|JI I<|JA I<|Jn<|Jc I fun aA=>Jp<|Jl<|Jo<|Jt<|Jr<|Ja I<|Jn<|Je<|JT ?_;rw [decide_eq_true this]
theorem NO {lv:Value} {l:List ByteArray} (h:Rd w lv 1 (fN l)) (hl:l.length<=1000000) :
  a8 T_ 72 [lv] w [] (fun _:Value=>True) id (fun v=>[row 9 1 v l.length (aR l)]):=by
 refine aS func72 I I ?_
 (refine Jr<|Ja I<|Ji<|bh (aD .nil I I I I) I fun _ _=>Jv I ?_)
 rename_i bq mV;refine bP (g:=bq) (E:=9) (ys:=[]) 0 1 (by exact .here) I I I ?_
 skip
 with_reducible apply eX
 case hx=>exact Is.of I
 case hy=>exact Is.of I
 case ht=>exact .here
 case hsrc=>exact fun w' aB=>h.keeps aB.keeps
 case h1=>exact u9 l
 case hz=>exact I
 case hsz=>exact I
 case hb0=>exact I
 case hb=>rw [bG];omega
 case hd=>rfl
 intro v';rw [bG,ZF,Za,<- ph];refine Ja I<|Jn<|Je ?_
 with_reducible first|apply aO|apply aP
 case he=>exact dN I I
 case hR=>
  intro w' aB;exact aC v' trivial (by exact .h1 .nil) aB I
theorem VO {r q:Ro}:r=q↔(((((r.lv=q.lv/\r.ma=q.ma)/\r.sr=q.sr)/\r.de=q.de)/\r.ti=q.ti)/\r.po=q.po):=by
 cases r;cases q;simp [and_assoc]
theorem Fp {r q:Ro} {s d t p s' d' t' p':Value} (h:RR w r s d t p) (h':RR w q s' d' t' p'):an T_ 84 [RA r s d t p,RA q s' d' t' p'] w (.bool (decide (r=q))):=by
 obtain ⟨h1,h2,h3,h4⟩:=h.one;have g1:=Rd.one h'.sr;have g2:=Rd.one h'.de;have g3:=Rd.one h'.ti;have g4:=Rd.one h'.po;have Db:=h.sr;have Dl:=h.de;have yq:=h.ti;have EP:=h.po;have gs_:=h'.sr;have gd_:=h'.de;have gt_:=h'.ti;have gp_:=h'.po;obtain ⟨a1,ew,II,Iz,rfl,oO,iu,mz,kT⟩:=Db;obtain ⟨x1,NJ,xs1,xo1,rfl,adT,XB,ga1,oX⟩:=gs_;obtain ⟨a2,c8,IH,Iy,rfl,jS,eV,jU,kg⟩:=Dl;obtain ⟨x2,NI,UU,xo2,rfl,adS,XA,ga2,yB⟩:=gd_;obtain ⟨a3,dX,GP,F6,rfl,mU,gB,rP,pb⟩:=yq;obtain ⟨x3,NH,xs3,xo3,rfl,adR,Xz,ga3,HU⟩:=gt_;obtain ⟨a4,eW,NB,Ix,rfl,q7,jF,zD,tI⟩:=EP;obtain ⟨x4,NG,xs4,xo4,rfl,adQ,Xy,ga4,XD⟩:=gp_;rw [cG] at *;rw [cG] at *;rw [bY] at *;rw [bY] at *;rw [bS] at *;rw [bS] at *;rw [cT] at *;rw [cT] at *;unfold maxLen at iu eV gB jF XB XA Xz Xy;unfold RA;refine aj func84 I I ?_
 (refine Jr<|Jy I I fun _ _=>Jy I I fun _ _=>Ja I<|Jn<|Jq<|Jr<|bD I I ae<|JL I (.there .here) I<|bD I I ae<|JL I .here I<|JD I<|Jv I<|aM I I (fun hg bH=>(ar (.of I) ae)) I<|aM I I (fun hg bH=>(ag (.bW hg I) (At.lit (.there .here) I))) I<|aM I I (fun hg bH=>(ar (.of I) ae)) I<|aM I I (fun hg bH=>(ag (.bW hg I) (At.lit .here I))) I<|aM I I (fun hg bH=>(j7 (.bW hg I) (.bW hg I))) I<|ab (bV (.of I) I) I<|Jv I<|aM I I (fun hg bH=>(ar (.of I) ae)) I<|aM I I (fun hg bH=>(ag (.bW hg I) (At.lit (.there .here) I))) I<|aM I I (fun hg bH=>(cR (.bW hg I))) I<|aM I I (fun hg bH=>(ar (.of I) ae)) I<|aM I I (fun hg bH=>(ag (.bW hg I) (At.lit .here I))) I<|aM I I (fun hg bH=>(cR (.bW hg I))) I<|aM I I (fun hg bH=>(j7 (.bW hg I) (.bW hg I))) I<|ab (bV (.of I) I) I<|Jv I<|aM I I (fun hg bH=>(ar (.of I) ae)) I<|aM I I (fun hg bH=>(ag (.bW hg I) (At.lit (.there .here) I))) I<|aM I I (fun hg bH=>(cR (.bW hg I))) I<|aM I I (fun hg bH=>(ar (.of I) ae)) I<|aM I I (fun hg bH=>(ag (.bW hg I) (At.lit .here I))) I<|aM I I (fun hg bH=>(cR (.bW hg I))) I<|aM I I (fun hg bH=>(j7 (.bW hg I) (.bW hg I))) I<|ab (bV (.of I) I) I<|Jv I<|aM I I (fun hg bH=>(ar (.of I) ae)) I<|aM I I (fun hg bH=>(ag (.bW hg I) (At.lit (.there .here) I))) I<|aM I I (fun hg bH=>(cR (.bW hg I))) I<|aM I I (fun hg bH=>(ar (.of I) ae)) I<|aM I I (fun hg bH=>(ag (.bW hg I) (At.lit .here I))) I<|aM I I (fun hg bH=>(cR (.bW hg I))) I<|aM I I (fun hg bH=>(j7 (.bW hg I) (.bW hg I))) I<|ab (bV (.of I) I) I<|Jv I<|aM I I (fun hg bH=>(ar (.of I) ae)) I<|aM I I (fun hg bH=>(ag (.bW hg I) (At.lit (.there .here) I))) I<|aM I I (fun hg bH=>(cR (.bW hg I))) I<|aM I I (fun hg bH=>(ar (.of I) ae)) I<|aM I I (fun hg bH=>(ag (.bW hg I) (At.lit .here I))) I<|aM I I (fun hg bH=>(cR (.bW hg I))) I<|aM I I (fun hg bH=>(j7 (.bW hg I) (.bW hg I))) I<|ab (bV (.of I) I) I<|Jn<|oK I (fun aA=>?_) fun aA=>?_;refine Jr<|Ja I<|Jn<|Ju<|JT ?_;rotate_left;refine Jk<|Jq<|Jr<|Ja I<|Jn<|J0 ?_;rotate_right)
 ·rw [decide_eq_false fun e=>by subst e;simp at aA]
 simp only [not_or,ne_eq,Zq] at aA;obtain ⟨⟨⟨⟨⟨e1,e2⟩,e3⟩,e4⟩,e5⟩,e6⟩:=aA;rename_i b1 tJ b2 sJ;refine aV (ι:=Nat) (fun k=>k<=r.sr.length/\(r.sr=q.sr↔r.sr.drop k=q.sr.drop k)) (fun k=>[(5,.int .i64 (k:Nat)),(3,.pointer (some ⟨b2,0,none⟩)),(2,.pointer (some ⟨b1,0,none⟩))]) (fun _=>[bu b2 (.cells #[.int .i64 q.lv,.int .i64 q.ma,.slice x1 q.sr.length NJ,.slice x2 q.de.length NI,.slice x3 q.ti.length NH,.slice x4 q.po.length NG] 27 (0,0)),JQ b1 r (.slice a1 r.sr.length ew) (.slice a2 r.de.length c8) (.slice a3 r.ti.length dX) (.slice a4 r.po.length eW)]) (fun k=>r.sr.length-k) ?_ ?_
 ·apply aH (0:Nat) ⟨Zi _,Iff.rfl⟩
  case hs1=>exact bT
  case ht=>
   exact .h2 .nil
 rintro k ⟨hk,hf⟩;have el:r.sr.length=q.sr.length:=by omega
 by_cases aL:k<r.sr.length
 ·have fT:k<q.sr.length:=by omega
  have cY:=mz (iD aL);have Ur:=ga1 (iD fT);have aF:=(kT k _ (fW aL)).2;have mg:=(oX k _ (fW fT)).2;have hd:=kJ (l:=r.sr) (m:=q.sr) aL fT;have gl:r.sr[k]≠q.sr[k]->r.sr.drop k≠q.sr.drop k:=fun hne e=>hne (by
   rw [Zt aL,Zt fT] at e;exact (List.cons.inj e).1)
  generalize r.sr[k]=x at aF hd gl;generalize q.sr[k]=y at mg hd gl;unfold Sr.cells at aF mg
  (refine Jq<|Jr<|Jv I<|bD I I ae<|JL I (.there .here) I<|JI I<|JA I<|Jn<|Jd I fun aA=>Jk<|Jq<|J0<|Jq ?_)
  with_reducible refine cz 10 (by kernel_rfl) ?_
  (refine jH I I ae<|aq (gn (.there .here)) I<|fw I I<|aq (gE cY aA) I<|aq (ja (fo.base aF I)) I<|jH I I ae<|aq (gn .here) I<|fw I I<|aq (ao (.of I) (.of I) Ur (by omega) (by omega) aW) I<|aq (ja (fo.base mg I)) I ?_)
  with_reducible refine cC ?_
  (refine ab (vg (.of I) (.of I) (fS (kQ mQ)) I) I<|Jn<|oK I (fun aA=>?_) fun aA=>?_;refine Jr<|Ja I<|Jn<|Je<|Jm<|Jh<|Jh<|Jm<|Jh<|JT ?_;rotate_left;refine Jw<|Jj<|Jt<|Jg<|Jv I<|JB I (by omega)<|Ja I<|Jn ?_;rotate_right)
  ·have hne:x≠y:=by
    intro e;subst e;simp at aA
   rw [decide_eq_false fun e=>gl hne (hf.1 (by rw [e]))]
  ·have he:x=y:=by
    obtain ⟨q1,q2,_⟩:=aA;cases x;cases y;dsimp only at q1 q2;subst q1;subst q2
    rfl
   clear aA;apply aG (k+1) ⟨(show k+1<=r.sr.length from aL),hf.trans (hd he)⟩ (show r.sr.length-(k+1)<r.sr.length-k by omega)
   case hs1=>exact bT
   case ht=>
    exact .h2 .nil
 have z1:r.sr=q.sr:=by
  obtain rfl:k=r.sr.length:=by omega
  exact hf.2 (by rw [ZY,el,ZY])
 obtain rfl:k=r.sr.length:=by omega
 clear hk hf aL
 (refine Jq<|Jr<|Jv I<|bD I I ae<|JL I (.there .here) I<|JI I<|JA I<|Jn<|Jc I fun aA=>Jp<|Jl<|Jo<|Jt<|Jq<|Jr<|Ja I<|Jn<|J0 ?_)
 refine aV (ι:=Nat) (fun k=>k<=r.de.length/\(r.de=q.de↔r.de.drop k=q.de.drop k)) (fun k=>[(6,.q (k:Nat)),(3,.p b2),(2,.p b1)]) (fun _=>[bu b2 (.cells #[.q q.lv,.q q.ma,.slice x1 q.sr.length NJ,.slice x2 q.de.length NI,.slice x3 q.ti.length NH,.slice x4 q.po.length NG] 27 (0,0)),JQ b1 r (.slice a1 r.sr.length ew) (.slice a2 r.de.length c8) (.slice a3 r.ti.length dX) (.slice a4 r.po.length eW)]) (fun k=>r.de.length-k) ?_ ?_
 ·apply aH (0:Nat) ⟨Zi _,Iff.rfl⟩
  case hs1=>exact bT
  case ht=>
   exact .h2 .nil
 rintro k ⟨hk,hf⟩;have el:r.de.length=q.de.length:=by omega
 by_cases aL:k<r.de.length
 ·have fT:k<q.de.length:=by omega
  have cY:=jU (ij aL);have Ur:=ga2 (ij fT);have aF:=(kg k _ (fM aL)).2;have mg:=(yB k _ (fM fT)).2;have hd:=kJ (l:=r.de) (m:=q.de) aL fT;have gl:r.de[k]≠q.de[k]->r.de.drop k≠q.de.drop k:=fun hne e=>hne (by
   rw [Zt aL,Zt fT] at e;exact (List.cons.inj e).1)
  generalize r.de[k]=x at aF hd gl;generalize q.de[k]=y at mg hd gl;unfold De.cells at aF mg
  (refine Jq<|Jr<|Jv I<|bD I I ae<|JL I (.there .here) I<|JI I<|JA I<|Jn<|Jd I fun aA=>Jk<|Jq<|J0<|Jq ?_)
  with_reducible refine cz 10 (by kernel_rfl) ?_
  (refine jH I I ae<|aq (gn (.there .here)) I<|fw I I<|aq (gE cY aA) I<|aq (ja (fo.base aF I)) I<|jH I I ae<|aq (gn .here) I<|fw I I<|aq (ao (.of I) (.of I) Ur (by omega) (by omega) aW) I<|aq (ja (fo.base mg I)) I ?_)
  with_reducible refine cC ?_
  (refine ab (vg (.of I) (.of I) (fS (kQ (K2 mQ))) I) I<|Jn<|oK I (fun aA=>?_) fun aA=>?_;refine Jr<|Ja I<|Jn<|Je<|Jm<|Jh<|Jh<|Jm<|Jh<|JT ?_;rotate_left;refine Jw<|Jj<|Jt<|Jg<|Jv I<|JB I (by omega)<|Ja I<|Jn ?_;rotate_right)
  ·have hne:x≠y:=by
    intro e;subst e;simp at aA
   rw [decide_eq_false fun e=>gl hne (hf.1 (by rw [e]))]
  ·have he:x=y:=by
    obtain ⟨q1,q2,q3,_⟩:=aA;cases x;cases y;dsimp only at q1 q2 q3;have q3:=eq_of_beq q3;subst q1;subst q2;subst q3
    rfl
   clear aA;apply aG (k+1) ⟨(show k+1<=r.de.length from aL),hf.trans (hd he)⟩ (show r.de.length-(k+1)<r.de.length-k by omega)
   case hs1=>exact bT
   case ht=>
    exact .h2 .nil
 have z2:r.de=q.de:=by
  obtain rfl:k=r.de.length:=by omega
  exact hf.2 (by rw [ZY,el,ZY])
 obtain rfl:k=r.de.length:=by omega
 clear hk hf aL
 (refine Jq<|Jr<|Jv I<|bD I I ae<|JL I (.there .here) I<|JI I<|JA I<|Jn<|Jc I fun aA=>Jp<|Jl<|Jo<|Jt<|Jq<|Jr<|Ja I<|Jn<|J0 ?_)
 refine aV (ι:=Nat) (fun k=>k<=r.ti.length/\(r.ti=q.ti↔r.ti.drop k=q.ti.drop k)) (fun k=>[(7,.q (k:Nat)),(3,.p b2),(2,.p b1)]) (fun _=>[bu b2 (.cells #[.q q.lv,.q q.ma,.slice x1 q.sr.length NJ,.slice x2 q.de.length NI,.slice x3 q.ti.length NH,.slice x4 q.po.length NG] 27 (0,0)),JQ b1 r (.slice a1 r.sr.length ew) (.slice a2 r.de.length c8) (.slice a3 r.ti.length dX) (.slice a4 r.po.length eW)]) (fun k=>r.ti.length-k) ?_ ?_
 ·apply aH (0:Nat) ⟨Zi _,Iff.rfl⟩
  case hs1=>exact bT
  case ht=>
   exact .h2 .nil
 rintro k ⟨hk,hf⟩;have el:r.ti.length=q.ti.length:=by omega
 by_cases aL:k<r.ti.length
 ·have fT:k<q.ti.length:=by omega
  have cY:=rP (fq aL);have Ur:=ga3 (fq fT);have aF:=(pb k _ (ep aL)).2;have mg:=(HU k _ (ep fT)).2;have hd:=kJ (l:=r.ti) (m:=q.ti) aL fT;have gl:r.ti[k]≠q.ti[k]->r.ti.drop k≠q.ti.drop k:=fun hne e=>hne (by
   rw [Zt aL,Zt fT] at e;exact (List.cons.inj e).1)
  generalize r.ti[k]=x at aF hd gl;generalize q.ti[k]=y at mg hd gl;unfold Ti.cells at aF mg
  (refine Jq<|Jr<|Jv I<|bD I I ae<|JL I (.there .here) I<|JI I<|JA I<|Jn<|Jd I fun aA=>Jk<|Jq<|J0<|Jq ?_)
  with_reducible refine cz 10 (by kernel_rfl) ?_
  (refine jH I I ae<|aq (gn (.there .here)) I<|fw I I<|aq (gE cY aA) I<|aq (ja (fo.base aF I)) I<|jH I I ae<|aq (gn .here) I<|fw I I<|aq (ao (.of I) (.of I) Ur (by omega) (by omega) aW) I<|aq (ja (fo.base mg I)) I ?_)
  with_reducible refine cC ?_
  (refine ab (vg (.of I) (.of I) (fS (kQ (kQ mQ))) I) I<|Jn<|oK I (fun aA=>?_) fun aA=>?_;refine Jr<|Ja I<|Jn<|Je<|Jm<|Jh<|Jh<|Jm<|Jh<|JT ?_;rotate_left;refine Jw<|Jj<|Jt<|Jg<|Jv I<|JB I (by omega)<|Ja I<|Jn ?_;rotate_right)
  ·have hne:x≠y:=by
    intro e;subst e;simp at aA
   rw [decide_eq_false fun e=>gl hne (hf.1 (by rw [e]))]
  ·have he:x=y:=by
    obtain ⟨q1,q2,q3,_⟩:=aA;cases x;cases y;dsimp only at q1 q2 q3;subst q1;subst q2;subst q3
    rfl
   clear aA;apply aG (k+1) ⟨(show k+1<=r.ti.length from aL),hf.trans (hd he)⟩ (show r.ti.length-(k+1)<r.ti.length-k by omega)
   case hs1=>exact bT
   case ht=>
    exact .h2 .nil
 have z3:r.ti=q.ti:=by
  obtain rfl:k=r.ti.length:=by omega
  exact hf.2 (by rw [ZY,el,ZY])
 obtain rfl:k=r.ti.length:=by omega
 clear hk hf aL
 (refine Jq<|Jr<|Jv I<|bD I I ae<|JL I (.there .here) I<|JI I<|JA I<|Jn<|Jc I fun aA=>Jp<|Jl<|Jo<|Jt<|Jq<|Jr<|Ja I<|Jn<|J0 ?_)
 refine aV (ι:=Nat) (fun k=>k<=r.po.length/\(r.po=q.po↔r.po.drop k=q.po.drop k)) (fun k=>[(8,.q (k:Nat)),(3,.p b2),(2,.p b1)]) (fun _=>[bu b2 (.cells #[.q q.lv,.q q.ma,.slice x1 q.sr.length NJ,.slice x2 q.de.length NI,.slice x3 q.ti.length NH,.slice x4 q.po.length NG] 27 (0,0)),JQ b1 r (.slice a1 r.sr.length ew) (.slice a2 r.de.length c8) (.slice a3 r.ti.length dX) (.slice a4 r.po.length eW)]) (fun k=>r.po.length-k) ?_ ?_
 ·apply aH (0:Nat) ⟨Zi _,Iff.rfl⟩
  case hs1=>exact bT
  case ht=>
   exact .h2 .nil
 rintro k ⟨hk,hf⟩;have el:r.po.length=q.po.length:=by omega
 by_cases aL:k<r.po.length
 ·have fT:k<q.po.length:=by omega
  have cY:=zD (j8 aL);have Ur:=ga4 (j8 fT);have aF:=(tI k _ (ia aL)).2;have mg:=(XD k _ (ia fT)).2;have hd:=kJ (l:=r.po) (m:=q.po) aL fT;have gl:r.po[k]≠q.po[k]->r.po.drop k≠q.po.drop k:=fun hne e=>hne (by
   rw [Zt aL,Zt fT] at e;exact (List.cons.inj e).1)
  generalize r.po[k]=x at aF hd gl;generalize q.po[k]=y at mg hd gl;unfold Po.cells at aF mg
  (refine Jq<|Jr<|Jv I<|bD I I ae<|JL I (.there .here) I<|JI I<|JA I<|Jn<|Jd I fun aA=>Jk<|Jq<|J0<|Jq ?_)
  with_reducible refine cz 10 (by kernel_rfl) ?_
  (refine jH I I ae<|aq (gn (.there .here)) I<|fw I I<|aq (gE cY aA) I<|aq (ja (fo.base aF I)) I<|jH I I ae<|aq (gn .here) I<|fw I I<|aq (ao (.of I) (.of I) Ur (by omega) (by omega) aW) I<|aq (ja (fo.base mg I)) I ?_)
  with_reducible refine cC ?_
  (refine ab (vg (.of I) (.of I) (kQ (fS (fS mQ))) I) I<|Jn<|oK I (fun aA=>?_) fun aA=>?_;refine Jr<|Ja I<|Jn<|Je<|Jm<|Jh<|Jh<|Jm<|Jh<|JT ?_;rotate_left;refine Jw<|Jj<|Jt<|Jg<|Jv I<|JB I (by omega)<|Ja I<|Jn ?_;rotate_right)
  ·have hne:x≠y:=by
    intro e;subst e;simp at aA
   rw [decide_eq_false fun e=>gl hne (hf.1 (by rw [e]))]
  ·have he:x=y:=by
    obtain ⟨q1,q2,q3,_⟩:=aA;cases x;cases y;dsimp only at q1 q2 q3;subst q1;subst q2;subst q3
    rfl
   clear aA;apply aG (k+1) ⟨(show k+1<=r.po.length from aL),hf.trans (hd he)⟩ (show r.po.length-(k+1)<r.po.length-k by omega)
   case hs1=>exact bT
   case ht=>
    exact .h2 .nil
 have z4:r.po=q.po:=by
  obtain rfl:k=r.po.length:=by omega
  exact hf.2 (by rw [ZY,el,ZY])
 obtain rfl:k=r.po.length:=by omega
 clear hk hf aL
 (refine Jq<|Jr<|Jv I<|bD I I ae<|JL I (.there .here) I<|JI I<|JA I<|Jn<|Jc I fun aA=>Jp<|Jl<|Jo<|Jt<|Jr<|Ja I<|Jn<|Je<|JT ?_)
 rw [decide_eq_true (VO.2 ⟨⟨⟨⟨⟨e1,e2⟩,z1⟩,z2⟩,z3⟩,z4⟩)]
theorem a8.Kn {P:Program} {f:FuncId} {args:List Value} {md:List Nat} {E:TypeId} {sz n:Nat} {xs:List Value} {val:Value->Value} (h:a8 P f args w md (fun _:Value=>True) val (fun v=>[row E sz v n xs])) :
  a8 P f args w md (fun _:Option Addr×Nat=>True) (fun x=>val (.slice x.1 n x.2)) (fun x=>[row E sz (.slice x.1 n x.2) n xs]):=
 Calls.mono h fun e w' ⟨v,he,_,hk,fp,hn,hs,hf⟩=>by
  have hv:∃ x:Option Addr×Nat,v=.slice x.1 n x.2:=by
   obtain ⟨f1,f2,_,⟨_,_,⟨e1,e2⟩ | ⟨g,cap,cur,e1,_⟩⟩,_⟩:=hs
   ·exact ⟨(none,0),by rw [e1,e2]⟩
   ·exact ⟨(_,cap),e1⟩
  obtain ⟨x,rfl⟩:=hv;exact ⟨x,he,trivial,hk,fp,hn,hs,hf⟩
def Xx:Value->Option Addr×Nat
 | .slice a _ c=>(a,c)
 | _=>(none,0)
theorem Mb (x:Option Addr×Nat):∃ v,Xx v=x:=⟨.slice x.1 0 x.2,I⟩
theorem N6 {kv:Value} {l:List gW} (h:Rd w kv 2 (jP l)) (hM:vK w l) (hn:l.length<=1000) (hs:∀ x∈l,x.tk.so.length<=1000) :
  a8 T_ 54 [kv] w [] (fun x:Value×List gW=>cU x.2=cU l) (fun x=>x.1) (fun x=>[row 69 2 x.1 x.2.length (jP x.2).flatten,NW x.2]):=by
 obtain ⟨a,cp,b,o,rfl,dC,ch,ha,hc⟩:=h;rw [eY] at *;unfold maxLen at ch;refine aS func54 I I ?_;refine Jr<|Ja I<|Ji<|Ja I<|Jn<|Jq<|Jr<|Jv I<|JI I<|Jv I<|Jn<|J0 ?_;refine aJ 69 2 ?_;refine kE 9 ?_
 refine aV (ι:=Nat×Value×List gW) (fun x=>x.1<=l.length/\cU x.2.2=cU (l.take x.1)) (fun x=>[(8,.q (x.1:Nat)),(7,.q (l.length:Nat)),(6,.slice a l.length cp),(3,x.2.1)])
  (fun x=>[row 69 2 x.2.1 x.2.2.length (jP x.2.2).flatten,iM 9 (x.2.2.map gW.v) (x.2.2.map fun y=>aR y.tk.so)]) (fun x=>l.length-x.1) ?_ ?_
 ·apply aH (0,.z,[]) ⟨Zi _,I⟩
  case hs1=>exact bT
  case ht=>
   exact .cons (.there .here) (.h1 .nil)
 rintro ⟨k,v,W⟩ ⟨hk,hW⟩;dsimp only at hk hW ⊢;have Ry:W.length=k:=by
  have:=congrArg List.length hW;unfold cU at this;rw [Zd,Zd,Zs] at this;omega
 by_cases aL:k<l.length
 ·have cY:=ha (lo aL);have aF:=(hc k _ (kM aL)).2;have hx:=hM _ (Zj aL);have hxs:=hs _ (Zj aL);have htk:cU (l.take (k+1))=cU (l.take k)++[l[k].tk]:=by
   unfold cU;rw [Zm aL,Zy];rfl
  have uz:(jP W).flatten.length=W.length*2:=by rw [fU (Ec W),eY]
  have iO:=Rd.one hx;unfold gW.cells at aF;generalize l[k]=x at aF hx hxs htk iO;obtain ⟨⟨xd,xs⟩,xv⟩:=x;dsimp only at aF hx hxs htk iO;have hwc:∀ w',aI [] w w'->a8 T_ 72 [xv] w' [] (fun _:Option Addr×Nat=>True) (fun z=>.slice z.1 xs.length z.2) (fun z=>[row 9 1 (.slice z.1 xs.length z.2) xs.length (aR xs)]):=fun w' hk=>a8.Kn (val:=id) (NO (hx.keeps hk) (by omega))
  refine aK (E:=69) (sz:=2) (v:=v) (by exact .here) fun va vc e=>?_;subst e
  (refine Jr<|JA I<|Jn<|Jq<|Jd I fun aA=>Jk<|Jq<|J0<|Jr<|ab (gE cY aA) I<|ab (ja (fo.base aF I)) I<|Jz I I fun _ _=>ak (.of I) (.of I) .here I I (ix I iO) (br I) ai<|Jn ?_)
  with_reducible refine dL 8 (by kernel_rfl) ?_
  (refine au (fun β=>(aQ (.of I))) ba I<|au (fun β=>(ar (.of I) ae)) ba I<|au (fun β=>(ag (.of I) (At.lit .here I))) ba I<|au (fun β=>(ar (.of I) ae)) ba I<|au (fun β=>(ag (.of I) (At.lit .here I))) ba I ?_)
  dsimp only [Nat.zero_add,Nat.reduceAdd]
  with_reducible apply dZ (ι:=Option Addr×Nat) (Φ:=fun _=>True) (val:=fun z=>.slice z.1 xs.length z.2) (own:=fun z=>[row 9 1 (.slice z.1 xs.length z.2) xs.length (aR xs)]) (g:=Xx) (B:=[]) (args:=fun _=>[xv])
  case hg=>exact Mb
  case hB=>rfl
  case hr=>exact fun β=>a7 (.of I) (.o I .nil) inferInstance I
  case hd=>rfl
  case hc=>exact fun β w' hb=>hwc w' hb.mem.keeps
  dsimp only [Nat.reduceAdd]
  with_reducible apply au
  case hr=>(intro β;exact aU (.o I (.o I .nil)) ai)
  case hi=>exact fun β β' h=>by simp only [h 5 (by kernel_rfl)]
  case hd=>rfl
  dsimp only [Nat.reduceAdd]
  with_reducible apply iG
  case hr=>(intro β;exact bz (.o I .nil) I I bI bI ai)
  case hi=>exact fun β β' h=>by simp only [h 5 (by decide) (by kernel_rfl)]
  case hd=>rfl
  dsimp only [Nat.reduceAdd];refine eN fun β=>?_;dsimp only [dW,Za,Zb,List.append_eq,Nat.reduceAdd];generalize eu (β 7)=b7;generalize Xx (β 5)=y;obtain ⟨ya,yc⟩:=y;clear β;dsimp only;refine bF (rs:=[8]) (by kernel_rfl) (by simp) (Zp.2 ⟨?_,fun _ h=>absurd h Zo⟩);refine bK I ?_;refine bA (.of I) (.of I) cI (.there .here) ai (by rfl) (ix I I) (by rfl) (by rfl) (by rfl) eC (by rfl) ?_;intro v';refine Jn ?_;refine bF (rs:=[9]) (by kernel_rfl) (by simp) (Zp.2 ⟨?_,fun _ h=>absurd h Zo⟩);refine bK I ?_;refine Ja I<|Jn ?_
  with_reducible refine cn (by kernel_rfl) ?_
  refine Jj<|Jt<|Jg<|JB I (by omega)<|Jv I<|Jn ?_;have hpn:(aR xs).length=xs.length:=dx xs
  with_reducible apply lZ (E:=9) (vs:=W.map gW.v) (xs:=W.map fun y=>aR y.tk.so) (v:=.slice ya xs.length yc) (x:=aR xs) (n:=xs.length)
  case ht=>exact c7
  case ht2=>exact Take.there .here
  case hn=>exact hpn.symm
  case hl=>rw [Zd,Zd]
  case k=>
   apply aG (k+1,v',W++[⟨⟨xd,xs⟩,.slice ya xs.length yc⟩]) ⟨by show k+1<=_;omega,by
    show cU (W++[_])=_;unfold cU at hW htk ⊢;rw [Zy,hW];exact htk.symm⟩ (by show l.length-(k+1)<l.length-k;omega)
   case hs1=>exact bT
   case ht=>
    dsimp only;rw [FN,Zg,Zy,Zy];simp only [Z4,Zf,ZB,Zaf,ZF];exact .cons (.there .here) (.h1 .nil)
 ·have e:k=l.length:=by omega
  rw [e,ZL] at hW;refine aK (E:=69) (sz:=2) (v:=v) (by exact .here) fun va vc e=>?_;subst e;refine Jr<|JA I<|Jn<|Jq<|Jc I fun aA=>Jp<|Jl<|Jo<|Jt<|Jr<|Jv I<|Ja I<|Jn<|Je ?_
  with_reducible first|apply aO|apply aP
  case he=>exact dN I I
  case hR=>
   intro w' aB;exact aC (.slice va W.length vc,W) hW (by exact .h2 .nil) aB I
def df:ByteArray:=⟨#[99,97,109]⟩
def lq:ByteArray:=⟨#[118,116,114]⟩
def oW:ByteArray:=⟨#[109,111,110]⟩
def ed:ByteArray:=⟨#[97,105,114]⟩
def jL:ByteArray:=⟨#[114,101,99]⟩
def nT:ByteArray:=⟨#[116]⟩
def nU:ByteArray:=⟨#[117]⟩
def nf:Ro:=⟨2,2,[⟨df,0⟩,⟨lq,1⟩],[⟨oW,0,false⟩,⟨ed,1,false⟩,⟨jL,1,false⟩],[⟨nT,0,1⟩,⟨nU,0,1⟩],[]⟩
def o6:Tk:=⟨ed,[df,df]⟩
def UY:Tk:=⟨jL,[df,⟨#[]⟩]⟩
def o5:Tk:=⟨ed,[lq,lq]⟩
def pl1:List Po:=[⟨0,ed,nT⟩,⟨0,nT,df⟩,⟨1,ed,nT⟩,⟨1,nT,df⟩]
def pl2:List Po:=[⟨0,ed,nT⟩,⟨0,jL,nT⟩,⟨0,nT,df⟩,⟨1,ed,nT⟩,⟨1,nT,df⟩]
def pl4:List Po:=[⟨0,ed,lq⟩,⟨0,jL,nT⟩,⟨0,nT,df⟩,⟨1,ed,lq⟩]
def gT:Ro:={ nf with po:=pl1 }
def iK:Ro:={ nf with po:=pl2 }
def xS:Ro:={ nf with po:=pl4 }
def En:Ro:=gT.uL oW true
theorem XM:fm nf=0:=by kernel_rfl
theorem RE:GX nf 0 df ed=0/\D7 nf 0 df ed=[nT]:=⟨by kernel_rfl,by kernel_rfl⟩
theorem XK:jX nf [o6]=(gT,0,0):=by kernel_rfl
theorem XJ:jX gT [UY]=(iK,0,0):=by kernel_rfl
theorem RK:jX iK [o5]=(xS,0,0):=by kernel_rfl
theorem XH:NS iK [o5]=[o6]:=by kernel_rfl
theorem RD:GX nf 0 lq oW=18/\D7 nf 0 lq oW=[]:=⟨by kernel_rfl,by kernel_rfl⟩
theorem RM:Mu nf 0 lq oW=0/\H3 nf 0 lq oW=[1]:=⟨by kernel_rfl,by kernel_rfl⟩
theorem XN:Y4 nf 0 lq oW [0]=19:=by kernel_rfl
theorem XL:LO iK jL=0/\HN iK jL=[df,⟨#[]⟩]:=⟨by kernel_rfl,by kernel_rfl⟩
theorem RG:JV gT 0 ed=0/\G5 gT 0 ed=[df,nT,ed]:=⟨by kernel_rfl,by kernel_rfl⟩
theorem RN:MM gT 0=0/\Ic gT 0=[nT]:=⟨by kernel_rfl,by kernel_rfl⟩
theorem RF:I8 iK 0 df=0/\G0 iK 0 df=[ed,jL]:=⟨by kernel_rfl,by kernel_rfl⟩
theorem RL:ue gT oW=0/\qZ gT oW true=En:=⟨by kernel_rfl,by kernel_rfl⟩
theorem XI:(jX En [⟨jL,[⟨#[45]⟩,⟨#[]⟩]⟩,⟨oW,[df,df]⟩]).2=(1,31):=by kernel_rfl
theorem RJ:rX nf [⟨10,[o6]⟩,⟨12,[o5]⟩] ed 9=0/\uK nf [⟨10,[o6]⟩,⟨12,[o5]⟩] ed 9=[⟨#[]⟩,⟨#[]⟩]:=⟨by kernel_rfl,by kernel_rfl⟩
theorem RI:rX nf [⟨10,[o6]⟩,⟨12,[o5]⟩] ed 11=0/\uK nf [⟨10,[o6]⟩,⟨12,[o5]⟩] ed 11=[df,df]:=⟨by kernel_rfl,by kernel_rfl⟩
theorem RH:rX nf [⟨10,[o6]⟩,⟨12,[o5]⟩] ed 12=0/\uK nf [⟨10,[o6]⟩,⟨12,[o5]⟩] ed 12=[lq,lq]:=⟨by kernel_rfl,by kernel_rfl⟩
theorem Ut:KJ nf=⟨#[114,111,117,116,101,114,32,50,32,50,10,115,111,117,114,99,101,32,99,97,109,32,48,10,115,111,117,114,99,101,32,118,116,114,32,49,10,100,101,115,116,105,110,97,116,105,111,110,32,109,111,110,32,48,32,102,114,101,101,10,100,101,115,116,105,110,97,116,105,111,110,32,97,105,114,32,49,32,102,114,101,101,10,100,101,115,116,105,110,97,116,105,111,110,32,114,101,99,32,49,32,102,114,101,101,10,116,105,101,32,116,32,48,32,49,10,116,105,101,32,117,32,48,32,49,10]⟩:=by kernel_rfl
theorem Qb (w:World):a8 T_ 105 [] w [] (fun _:Value×Value×Value×Value=>True) (fun x=>RA nf x.1 x.2.1 x.2.2.1 x.2.2.2) (fun x=>nV nf x):=by
 unfold RA;refine aS func105 I I ?_
 (refine Jr<|Jz I I fun _ _=>Ji<|ab (aU (.o I .nil) ai) I<|ab (aU (.o I (.o I .nil)) ai) I<|bh (bz (.o I (.o I .nil)) I I bI bI ai) I fun _ _=>ab (aU (.o I .nil) ai) I<|ab (aU (.o I (.o I .nil)) ai) I<|ab (aU (.o I (.o I .nil)) ai) I<|bh (bz (.o I (.o I (.o I .nil))) I I bI bI ai) I fun _ _=>ab (aU (.o I (.o I .nil)) ai) I<|ab (aU (.o I (.o I .nil)) ai) I<|bh (bz (.o I (.o I .nil)) I I bI bI ai) I fun _ _=>ab (aU (.o I (.o I (.o I (.o I (.o I .nil))))) ai) I<|ak (.of I) (.of I) cI I I (dO I I I I I I) (br I) ai<|Jn<|Je ?_)
 rename_i b0 hb0 b1 tJ b2 sJ b3 rz;refine bP (g:=b1) (E:=186) (ys:=il nf.sr) 2 2 cI (by exact I) I I ?_;refine bP (g:=b2) (E:=90) (ys:=gm nf.de) 3 3 cI (by exact I) I I ?_;refine bP (g:=b3) (E:=187) (ys:=iC nf.ti) 2 3 cI (by exact I) I I ?_;refine aJ 188 3 ?_
 with_reducible first|apply aO|apply aP
 case he=>exact ig I inferInstance I c7 ai (by rfl)
 case hR=>
  intro w' aB;exact aC (.w b1 2 2,.w b2 3 3,.w b3 2 2,.z) trivial (by exact .cons cI (.cons bE (.cons (.there .here) (.h1 .nil)))) aB I
theorem Uw (w:World):a8 T_ 106 [] w [] (fun _:Option Addr×Nat=>True) (fun x=>.agg (gW.cells ⟨o6,.slice x.1 2 x.2⟩).toArray) (fun x=>[row 9 1 (.slice x.1 2 x.2) 2 (aR o6.so)]):=by
 unfold gW.cells;refine aS func106 I I ?_
 (refine Jr<|Jz I I fun _ _=>Ji<|bh (aD (.o I (.o I .nil)) I I I I) I fun _ _=>ab (aU (.o I (.o I .nil)) ai) I<|ak (.of I) (.of I) (.there .here) I I (ix I I) (br I) ai<|Jn<|Je ?_)
 rename_i b0 hb0 b1 tJ;refine bP (g:=b1) (E:=9) (ys:=aR o6.so) 2 1 (by exact Take.there .here) (by exact I) I I ?_
 with_reducible first|apply aO|apply aP
 case he=>exact ig I inferInstance I (.there .here) ai (by rfl)
 case hR=>
  intro w' aB;exact aC (some ⟨b1,0,none⟩,2) trivial (by exact .h1 .nil) aB I
theorem Uv (w:World):a8 T_ 107 [] w [] (fun _:Option Addr×Nat=>True) (fun x=>.agg (gW.cells ⟨UY,.slice x.1 2 x.2⟩).toArray) (fun x=>[row 9 1 (.slice x.1 2 x.2) 2 (aR UY.so)]):=by
 unfold gW.cells;refine aS func107 I I ?_
 (refine Jr<|Jz I I fun _ _=>Ji<|bh (aD (.o I (.o I .nil)) I I I I) I fun _ _=>ab (aU (.o I (.o I .nil)) ai) I<|ak (.of I) (.of I) (.there .here) I I (ix I I) (br I) ai<|Jn<|Je ?_)
 rename_i b0 hb0 b1 tJ;refine bP (g:=b1) (E:=9) (ys:=aR UY.so) 2 1 (by exact Take.there .here) (by exact I) I I ?_
 with_reducible first|apply aO|apply aP
 case he=>exact ig I inferInstance I (.there .here) ai (by rfl)
 case hR=>
  intro w' aB;exact aC (some ⟨b1,0,none⟩,2) trivial (by exact .h1 .nil) aB I
theorem Uu (w:World):a8 T_ 108 [] w [] (fun _:Option Addr×Nat=>True) (fun x=>.agg (gW.cells ⟨o5,.slice x.1 2 x.2⟩).toArray) (fun x=>[row 9 1 (.slice x.1 2 x.2) 2 (aR o5.so)]):=by
 unfold gW.cells;refine aS func108 I I ?_
 (refine Jr<|Jz I I fun _ _=>Ji<|bh (aD (.o I (.o I .nil)) I I I I) I fun _ _=>ab (aU (.o I (.o I .nil)) ai) I<|ak (.of I) (.of I) (.there .here) I I (ix I I) (br I) ai<|Jn<|Je ?_)
 rename_i b0 hb0 b1 tJ;refine bP (g:=b1) (E:=9) (ys:=aR o5.so) 2 1 (by exact Take.there .here) (by exact I) I I ?_
 with_reducible first|apply aO|apply aP
 case he=>exact ig I inferInstance I (.there .here) ai (by rfl)
 case hR=>
  intro w' aB;exact aC (some ⟨b1,0,none⟩,2) trivial (by exact .h1 .nil) aB I
instance :DecidableEq Tk:=fun a b=>decidable_of_iff (a.de=b.de/\a.so=b.so) (by cases a;cases b;simp)
theorem Kw (hm:Mem c hs w) (ht:bj hs (nV r x) hs'):RR w r x.1 x.2.1 x.2.2.1 x.2.2.2:=by
 have me:=hm.jA ht;exact ⟨cF me .here I,cH me (.there .here) I,cE me bE I,cq me cI I⟩
theorem QW (hm:Mem c hs w) (ht:bj hs (oZ r x) hs'):RR w r x.1 x.2.1 x.2.2.1 x.2.2.2:=by
 have me:=hm.jA ht;exact ⟨cF me .here I,cH me (.there .here) I,cE me bE I,cq me cI I⟩
theorem gO {D:List Nat} {sl:aN} {X:Act->World->Prop} {s d t p:Value} (ht:bj hs (oZ r (s,d,t,p)) hs')
  (k:s.oneCell'=true->d.oneCell'=true->t.oneCell'=true->p.oneCell'=true->Tr c D sl (row 118 2 s r.sr.length (il r.sr)::row 88 3 d r.de.length (gm r.de)::row 122 3 t r.ti.length (iC r.ti)::row 180 3 p r.po.length (eF r.po)::hs') X):Tr c D sl hs X:=by
 intro a w bb;have hm:=bb.mem.jA (ht.append (nF D));have k2:Tr c D sl (row 118 2 s r.sr.length (il r.sr)::row 88 3 d r.de.length (gm r.de)::row 122 3 t r.ti.length (iC r.ti)::row 180 3 p r.po.length (eF r.po)::hs') X:=by
  refine aK (E:=118) (sz:=2) (v:=s) .here fun _ _ e=>?_;have k1:s.oneCell'=true:=by rw [e];rfl
  clear e;refine aK (E:=88) (sz:=3) (v:=d) (.there .here) fun _ _ e=>?_;have k2:d.oneCell'=true:=by rw [e];rfl
  clear e;refine aK (E:=122) (sz:=3) (v:=t) bE fun _ _ e=>?_;have k3:t.oneCell'=true:=by rw [e];rfl
  clear e;refine aK (E:=180) (sz:=3) (v:=p) cI fun _ _ e=>?_;have k4:p.oneCell'=true:=by rw [e];rfl
  clear e;exact k k1 k2 k3 k4
 exact k2 a w (bb.heap hm)
theorem DP {l m:List gW} (h1:Rd w v1 2 (jP l)) (hM1:vK w l) (h2:Rd w v2 2 (jP m)) (hM2:vK w m) :
  an T_ 53 [v1,v2] w (.bool (decide (cU l=cU m))):=by
 obtain ⟨a1,XP,b1,o1,rfl,oO,iu,mz,kT⟩:=h1;obtain ⟨a2,pe,b2,o2,rfl,jS,eV,jU,kg⟩:=h2;rw [eY] at *;rw [eY] at *;unfold maxLen at iu eV;refine aj func53 I I ?_
 (refine Jr<|Ja I<|Jn<|Jq<|Jr<|Jv I<|JI I<|Jv I<|JI I<|JD I<|Jn<|gL I (fun aA=>?_) fun aA=>?_;refine Jr<|Ja I<|Jn<|Ju<|JT ?_;rotate_left;refine Jk<|Jq<|Jr<|Ja I<|Jn<|J0 ?_;rotate_right)
 ·rw [decide_eq_false fun e=>aA (by have:=congrArg List.length e;unfold cU at this;rw [Zd,Zd] at this;rw [this])]
 have rr:l.length=m.length:=by omega
 refine aV (ι:=Nat) (fun k=>k<=l.length/\(cU l=cU m↔cU (l.drop k)=cU (m.drop k))) (fun k=>[(5,.q (k:Int)),(0,.slice a1 l.length XP),(1,.slice a2 m.length pe)]) (fun _=>[]) (fun k=>l.length-k) ?_ ?_
 ·apply aH (0:Nat) ⟨Zi _,Iff.rfl⟩
  case hs1=>exact bT
  case ht=>(try simp only [Ze,Zf,Za]);exact .nil
 rintro k ⟨hk,hf⟩;by_cases aL:k<l.length
 ·have fT:k<m.length:=by omega
  have xk:=mz (lo aL);have qO:=jU (lo fT);have mf:=(kT k _ (kM aL)).2;have fB:=(kg k _ (kM fT)).2;have x1:=hM1 _ (Zj aL);have x2:=hM2 _ (Zj fT);have hd:cU (l.drop k)=cU (m.drop k)↔(l[k].tk=m[k].tk/\cU (l.drop (k+1))=cU (m.drop (k+1))):=by
   rw [Zt aL,Zt fT];unfold cU;rw [Z4,Z4];exact List.cons_eq_cons
  rw [hd] at hf;clear hd;unfold gW.cells at mf fB;generalize l[k]=x at mf x1 hf;generalize m[k]=y at fB x2 hf;obtain ⟨⟨xd,xs⟩,xv⟩:=x;obtain ⟨⟨yd,ys⟩,yv⟩:=y;dsimp only at mf fB x1 x2 hf;have c1:w.cell? ⟨b1,o1+k*2,none⟩=some (.string xd):=mf 0 _ I;have c2:w.cell? ⟨b2,o2+k*2,none⟩=some (.string yd):=fB 0 _ I;have c3:w.cell? ⟨b1,o1+k*2+1,none⟩=some xv:=mf 1 _ I;have c4:w.cell? ⟨b2,o2+k*2+1,none⟩=some yv:=fB 1 _ I;have hsw:∀ w',aI [] w w'->an T_ 58 [xv,yv] w' (.bool (decide (xs=ys))):=fun w' hk=>FW (x1.keeps hk) (x2.keeps hk)
  refine Jq<|Jr<|Jv I<|Jv I<|JI I<|JA I<|Jn<|Jd I fun aA=>Jk<|Jq<|J0<|Jq ?_
  with_reducible refine cz 25 (by kernel_rfl) ?_
  (refine fw I I<|fw I I<|aq (gE xk aA) I<|jH I I ae<|aq (ag (.of I) (At.base c1 I)) I<|fw I I<|fw I I<|aq (ao (.of I) (.of I) qO (by omega) (by omega) aW) I<|jH I I ae<|aq (ag (.of I) (At.base c2 I)) I<|aq (gz (.of I) (.of I)) I<|fw I I<|bM I I (fun hg bH=>(aQ (.of I))) I<|bM I I (fun hg bH=>(aQ (.of I))) I<|bM I I (fun hg bH=>(ao (.bW hg I) (.bW hg I) xk (by omega) aA aW)) I<|bM I I (fun hg bH=>(ar (.bW hg I) ae)) I<|bM I I (fun hg bH=>(ag (.bW hg I) (At.base c3 I))) I<|bM I I (fun hg bH=>(aQ (.of I))) I<|bM I I (fun hg bH=>(aQ (.of I))) I<|bM I I (fun hg bH=>(ao (.bW hg I) (.bW hg I) qO (by omega) (by omega) aW)) I<|bM I I (fun hg bH=>(ar (.bW hg I) ae)) I<|bM I I (fun hg bH=>(ag (.bW hg I) (At.base c4 I))) I<|oM I I (fun hg=>(a7 (.of I) (.cons (.bW hg I) (.cons (.bW hg I) .nil)) inferInstance gF)) I (fun hg w' aB=>(hsw w' (Mem.keeps aB)))<|bM I I (fun hg bH=>(fu (.bW hg I))) I<|aq (bV (.of I) I) I ?_)
  with_reducible refine cC ?_
  (refine Jn<|oK I (fun aA=>?_) fun aA=>?_;refine Jr<|Ja I<|Jn<|Je<|Jm<|Jh<|Jh<|Jm<|Jh<|JT ?_;rotate_left;refine Jw<|Jj<|Jt<|Jg<|Jv I<|JB I (by omega)<|Ja I<|Jn ?_;rotate_right)
  ·have hne:¬ cU l=cU m:=fun e=>by
    obtain ⟨e1,_⟩:=hf.1 e;injection e1 with e2 e3
    rcases aA with h | h
    ·exact h e2
    ·exact h e3
   rw [decide_eq_false hne]
  ·obtain ⟨q1,q2⟩:=aA;have q1:=Zq.1 q1;subst q1;subst q2;clear hsw;apply aG (k+1) ⟨(show k+1<=l.length from aL),hf.trans ⟨fun e=>e.2,fun e=>⟨I,e⟩⟩⟩ (show l.length-(k+1)<l.length-k by omega)
   case hs1=>exact bT
   case ht=>(try simp only [Ze,Zf,Za]);exact .nil
 ·obtain rfl:k=l.length:=by omega
  have:cU l=cU m:=hf.2 (by rw [ZY,rr,ZY]);refine Jq<|Jr<|Jv I<|Jv I<|JI I<|JA I<|Jn<|Jc I fun aA=>Jp<|Jl<|Jo<|Jt<|Jr<|Ja I<|Jn<|Je<|JT ?_;rw [decide_eq_true this]
theorem KP {s d t p v:Value} {q:List Po} (h:RR w r s d t p) (c6:gU r) (hv:Rd w v 3 (uf q)):an T_ 110 [RA r s d t p,v] w (.bool (decide (r.po=q))):=by
 obtain ⟨h1,h2,h3,h4⟩:=h.one;have hv2:=hv;obtain ⟨av,cv,bv,ov,rfl,_,_,_,_⟩:=hv2;rw [cT] at *;have ht:∀ w',aI [] w w'->a8 T_ 57 [.agg #[.int .i64 r.lv,.int .i64 r.ma,s,d,t,p]] w' [] (fun _:Value×Value×Value×Value=>True) (fun x=>RA r x.1 x.2.1 x.2.2.1 x.2.2.2) (fun x=>oZ r x):=fun w' hk=>Al (h.keeps hk) c6
 unfold RA at ht ⊢;refine aj func110 I I ?_;refine Jr<|Jy I I fun _ _=>Ja I<|Ji<|ab (bU .here) I ?_;refine JN bJ I (fun w1 aT=>ht w1 aT.keeps) ?_;rintro ⟨s1,d1,t1,p1⟩ _;dsimp only
 try unfold RA
 refine gO (r:=r) (s:=s1) (d:=d1) (t:=t1) (p:=p1) (bo _ _) fun k1 k2 k3 k4=>?_
 (refine Jz I I fun _ _=>ak (.of I) (.of I) .here I I (dO I I k1 k2 k3 k4) (br I) ai<|Ji<|Jv I<|bD I I ae<|ak (.of I) (.of I) .here I I (dE I) (br I) ai<|Jn<|Jq ?_)
 with_reducible refine dL 5 (by kernel_rfl) ?_
 refine au (fun β=>(bQ (.of I) ek ai (by rfl))) ba I ?_;dsimp only [Nat.zero_add,Nat.reduceAdd]
 with_reducible apply dZ (ι:=Value×Value×Value×Value) (Φ:=fun _=>True) (val:=fun x=>.agg #[.q r.lv,.q r.ma,x.1,x.2.1,x.2.2.1,x.2.2.2]) (own:=fun x=>oZ r x) (g:=g4) (B:=[]) (args:=fun _=>[.agg #[.q r.lv,.q r.ma,s,d,t,p]])
 case hg=>exact mh
 case hB=>rfl
 case hr=>exact fun β=>a7 (.of I) (.o I .nil) inferInstance I
 case hd=>rfl
 case hc=>exact fun β w' hb=>ht w' hb.mem.keeps
 dsimp only [Nat.reduceAdd];refine au (fun β=>(bQ (.of I) .here ai (by rfl))) ba I ?_;dsimp only [Nat.reduceAdd]
 with_reducible apply cj (B:=[1]) (F:=fun _=>.bool (decide (r={ r with po:=q }))) (args:=fun β=>[.agg #[.q r.lv,.q r.ma,(g4 (β 1)).1,(g4 (β 1)).2.1,(g4 (β 1)).2.2.1,(g4 (β 1)).2.2.2],.agg #[.q r.lv,.q r.ma,s1,d1,t1,.slice av q.length cv]])
 case hB=>kernel_rfl
 case hr=>exact fun β=>a7 (.of I) (.o I (.o I .nil)) inferInstance I
 case hi=>exact ba
 case hd=>rfl
 case hc=>
  intro β w' dQ;have m1:=dQ.at 1 Zr (s:=⟨fun β=>.agg #[.q r.lv,.q r.ma,(g4 (β 1)).1,(g4 (β 1)).2.1,(g4 (β 1)).2.2.1,(g4 (β 1)).2.2.2],fun β=>oZ r (g4 (β 1))⟩) (by kernel_rfl)
  dsimp only at m1;have hk:=dQ.mem.keeps;have r1:=QW m1 (bo _ _);have m2:=dQ.mem;have r2:RR w' { r with po:=q } s1 d1 t1 (.slice av q.length cv):=⟨cF m2 (by exact Take.there .here) I,cH m2 bE I,cE m2 cI I,hv.keeps hk⟩
  exact Fp r1 r2
 refine au (fun β=>(cX (.of I))) ba I ?_;refine eN fun β=>?_;dsimp only [dW,Za,Zb,List.append_eq,Nat.reduceAdd]
 with_reducible refine cn (by kernel_rfl) ?_
 refine Jt<|Je<|JT ?_;have e:(r={ r with po:=q })↔r.po=q:=⟨fun e=>congrArg Ro.po e,fun e=>by cases r;subst e;rfl⟩
 rw [decide_eq_decide.2 e]
end Go.Proofs.A1
