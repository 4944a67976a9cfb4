/- Parts of the proof: LJ LK LL LM LN LO. -/
import Derived.Test.YteonnodafmegaaaGreatDoorOM11
import Derived.Test.YteonnodafmegaaaGreatDoorOM04
import Derived.KernelRfl
set_option linter.unusedSectionVars false
set_option linter.unusedVariables false
set_option linter.unusedSimpArgs false
namespace Go.Proofs.A1
open Go Go.SL
open Tryz
open Tryz renaming prog->T_
def nQ (r:Ro) (x:Value×Value×Value×Value):List bd:=[row 118 2 x.1 r.sr.length (ko r.sr),row 88 3 x.2.1 r.de.length (jt r.de),row 122 3 x.2.2.1 r.ti.length (kz r.ti),row 180 3 x.2.2.2 r.po.length (gl r.po)]
def jv (r:Ro):Prop:=r.sr.length<=1000000/\r.de.length<=1000000/\r.ti.length<=1000000/\r.po.length<=1000000
variable {c:Cx} {hs hs':List bd} {kv:Value} {l:List fy} {r:Ro} {v1 v2:Value} {w:World} {x:Value×Value×Value×Value}
theorem W4 {s d t p:Value} (h:RR w r s d t p) (cZ:jv r):a8 T_ 21 [RA r s d t p] w [] (fun _:Value×Value×Value×Value=>True) (fun x=>RA r x.1 x.2.1 x.2.2.1 x.2.2.2) (fun x=>vh r x):=by
 obtain ⟨h1,h2,h3,h4⟩:=h.one;have Db:=h.sr;have Dn:=h.de;have yt:=h.ti;have E7:=h.po;obtain ⟨a1,eo,I7,IU,rfl,oC,ix,mm,kL⟩:=Db;obtain ⟨a2,c6,I6,IT,rfl,kd,eU,jV,ke⟩:=Dn;obtain ⟨a3,dT,Ha,Gp,rfl,mP,gF,rN,oR⟩:=yt;obtain ⟨a4,eW,Ol,IS,rfl,qT,jE,zM,tR⟩:=E7;rw [cy] at *;rw [cd] at *;rw [bV] at *;rw [cR] at *;unfold maxLen at ix eU gF jE;obtain ⟨f1,f2,f3,f4⟩:=cZ;unfold RA;refine aS func21 I I ?_
 (refine Jr<|Jy I I fun _ _=>Jz I I fun _ _=>Ji<|bJ I I ae<|JL I (.there .here) I<|bJ I I ae<|JL I (.there .here) I<|ab (aU (.o I (.o I .nil)) ak) I<|Jz I I fun _ _=>ao (.of I) (.of I) .here I I (eF I I I I I I) (bz I) ak<|Jn<|Jq<|Jr<|bJ I I ae<|JL I bL I<|JI I<|Jv I<|Jn<|J0 ?_)
 rename_i b1 tT b2 rM b3 tr;refine aN 186 2 ?_;refine aV (ι:=Nat×Option Addr×Nat) (fun y=>y.1<=r.sr.length) (fun y=>[(20,.q (y.1:Nat)),(19,.q r.sr.length),(18,.slice a1 r.sr.length eo),(3,.p b3),(2,.p b2),(1,.p b1)]) (fun y=>[row 186 2 (.slice y.2.1 y.1 y.2.2) y.1 (ko (r.sr.take y.1)),JP b3 r (.slice y.2.1 y.1 y.2.2) (.z) (.z) (.z),bE b2 (.cells #[.q 0,.q 0,.z,.z,.z,.z] 41 (0,0)),JQ b1 r (.slice a1 r.sr.length eo) (.slice a2 r.de.length c6) (.slice a3 r.ti.length dT) (.slice a4 r.po.length eW)]) (fun y=>r.sr.length-y.1) ?_ ?_
 ·apply aI (0,none,0) (Zi _)
  case hs1=>exact bS
  case ht=>
   exact .h4 .nil
 rintro ⟨k,g1,qw⟩ hk;dsimp only at hk ⊢;by_cases aK:k<r.sr.length
 ·have cq:=mm (iF aK);have aC:=(kL k _ (fZ aK)).2;have ba:=Cq aK;have hlen:(ko (r.sr.take k)).length=k*2:=by rw [Gc,Zs];omega
  unfold Sr.cells at aC ba;generalize r.sr[k]=x at aC ba
  (refine Jr<|JA I<|Jn<|Jq<|Jd I fun az=>Jk<|Jq<|J0<|Jr<|ab (fT cq az) I<|ab (iO (eZ.base aC I)) I<|Jz I I fun _ _=>ao (.of I) (.of I) .here I I (gO I I) (bz I) ak<|Jn<|Jg<|bJ I I ae<|JL I bL I<|ab (cm .here) I<|bj (bn (.o I .nil) I I bH bH ak) I fun _ _=>?_)
  refine bu (.of I) (.of I) bL .here ak (by rfl) (gO I I) (by rfl) (by rfl) (by rfl) ed (by rfl) ?_;intro v';refine aM (v:=v') (by exact .here) fun gx cx e=>?_;subst e
  (refine bJ I I ae<|ao (.of I) (.of I) cX I I (dR I) (bz I) ak<|Jx<|Jj<|Jt<|Jg<|JB I (by omega)<|Jv I<|Jn ?_)
  apply aH (k+1,gx,cx) (by show k+1<=r.sr.length;omega) (by show r.sr.length-(k+1)<r.sr.length-k;omega)
  case hs1=>exact bS
  case ht=>
   show bB _ [row 186 2 (.slice gx (k+1) cx) (k+1) (ko (r.sr.take (k+1))),JP b3 r (.slice gx (k+1) cx) (.z) (.z) (.z),bE b2 (.cells #[.q 0,.q 0,.z,.z,.z,.z] 41 (0,0)),JQ b1 r (.slice a1 r.sr.length eo) (.slice a2 r.de.length c6) (.slice a3 r.ti.length dT) (.slice a4 r.po.length eW)] _;rw [ba];exact .cons (.there .here) (.h1 (.cons bL (.cons bL .nil)))
 obtain rfl:k=r.sr.length:=by omega
 rw [ZK];clear hk aK
 (refine Jr<|JA I<|Jn<|Jq<|Jc I fun az=>Jp<|Jl<|Jo<|Jt<|Jq<|Jr<|bJ I I ae<|JL I cX I<|JI I<|Jv I<|Jn<|J0 ?_)
 refine aN 90 3 ?_;refine aV (ι:=Nat×Option Addr×Nat) (fun y=>y.1<=r.de.length) (fun y=>[(34,.q (y.1:Nat)),(33,.q r.de.length),(32,.slice a2 r.de.length c6),(3,.p b3),(2,.p b2),(1,.p b1)]) (fun y=>[row 90 3 (.slice y.2.1 y.1 y.2.2) y.1 (jt (r.de.take y.1)),row 186 2 (.slice g1 r.sr.length qw) r.sr.length (ko r.sr),JP b3 r (.slice g1 r.sr.length qw) (.slice y.2.1 y.1 y.2.2) (.z) (.z),bE b2 (.cells #[.q 0,.q 0,.z,.z,.z,.z] 41 (0,0)),JQ b1 r (.slice a1 r.sr.length eo) (.slice a2 r.de.length c6) (.slice a3 r.ti.length dT) (.slice a4 r.po.length eW)]) (fun y=>r.de.length-y.1) ?_ ?_
 ·apply aI (0,none,0) (Zi _)
  case hs1=>exact bS
  case ht=>
   exact .h5 .nil
 rintro ⟨k,g2,yF⟩ hk;dsimp only at hk ⊢;by_cases aK:k<r.de.length
 ·have cq:=jV (iq aK);have aC:=(ke k _ (fR aK)).2;have ba:=DB aK;have hlen:(jt (r.de.take k)).length=k*3:=by rw [G5,Zs];omega
  unfold De.cells at aC ba;generalize r.de[k]=x at aC ba
  (refine Jr<|JA I<|Jn<|Jq<|Jd I fun az=>Jk<|Jq<|J0<|Jr<|ab (fT cq az) I<|ab (iO (eZ.base aC I)) I<|Jz I I fun _ _=>ao (.of I) (.of I) .here I I (fx I I I) (bz I) ak<|Jn<|Jg<|bJ I I ae<|JL I cX I<|ab (cm .here) I<|bj (bn (.o I .nil) I I bH bH ak) I fun _ _=>?_)
  refine bu (.of I) (.of I) bL .here ak (by rfl) (fx I I I) (by rfl) (by rfl) (by rfl) ed (by rfl) ?_;intro v';refine aM (v:=v') (by exact .here) fun gx cx e=>?_;subst e
  (refine bJ I I ae<|ao (.of I) (.of I) dD I I (dR I) (bz I) ak<|Jx<|Jj<|Jt<|Jg<|JB I (by omega)<|Jv I<|Jn ?_)
  apply aH (k+1,gx,cx) (by show k+1<=r.de.length;omega) (by show r.de.length-(k+1)<r.de.length-k;omega)
  case hs1=>exact bS
  case ht=>
   show bB _ [row 90 3 (.slice gx (k+1) cx) (k+1) (jt (r.de.take (k+1))),row 186 2 (.slice g1 r.sr.length qw) r.sr.length (ko r.sr),JP b3 r (.slice g1 r.sr.length qw) (.slice gx (k+1) cx) (.z) (.z),bE b2 (.cells #[.q 0,.q 0,.z,.z,.z,.z] 41 (0,0)),JQ b1 r (.slice a1 r.sr.length eo) (.slice a2 r.de.length c6) (.slice a3 r.ti.length dT) (.slice a4 r.po.length eW)] _;rw [ba];exact .cons (.there .here) (.cons cX (.h1 (.cons bL (.cons bL .nil))))
 obtain rfl:k=r.de.length:=by omega
 rw [ZK];clear hk aK
 (refine Jr<|JA I<|Jn<|Jq<|Jc I fun az=>Jp<|Jl<|Jo<|Jt<|Jq<|Jr<|bJ I I ae<|JL I dD I<|JI I<|Jv I<|Jn<|J0 ?_)
 refine aN 187 3 ?_;refine aV (ι:=Nat×Option Addr×Nat) (fun y=>y.1<=r.ti.length) (fun y=>[(48,.q (y.1:Nat)),(47,.q r.ti.length),(46,.slice a3 r.ti.length dT),(3,.p b3),(2,.p b2),(1,.p b1)]) (fun y=>[row 187 3 (.slice y.2.1 y.1 y.2.2) y.1 (kz (r.ti.take y.1)),row 90 3 (.slice g2 r.de.length yF) r.de.length (jt r.de),row 186 2 (.slice g1 r.sr.length qw) r.sr.length (ko r.sr),JP b3 r (.slice g1 r.sr.length qw) (.slice g2 r.de.length yF) (.slice y.2.1 y.1 y.2.2) (.z),bE b2 (.cells #[.q 0,.q 0,.z,.z,.z,.z] 41 (0,0)),JQ b1 r (.slice a1 r.sr.length eo) (.slice a2 r.de.length c6) (.slice a3 r.ti.length dT) (.slice a4 r.po.length eW)]) (fun y=>r.ti.length-y.1) ?_ ?_
 ·apply aI (0,none,0) (Zi _)
  case hs1=>exact bS
  case ht=>
   exact .h6 .nil
 rintro ⟨k,g3,Ie⟩ hk;dsimp only at hk ⊢;by_cases aK:k<r.ti.length
 ·have cq:=rN (fm aK);have aC:=(oR k _ (ei aK)).2;have ba:=Cm aK;have hlen:(kz (r.ti.take k)).length=k*3:=by rw [F6,Zs];omega
  unfold Ti.cells at aC ba;generalize r.ti[k]=x at aC ba
  (refine Jr<|JA I<|Jn<|Jq<|Jd I fun az=>Jk<|Jq<|J0<|Jr<|ab (fT cq az) I<|ab (iO (eZ.base aC I)) I<|Jz I I fun _ _=>ao (.of I) (.of I) .here I I (fx I I I) (bz I) ak<|Jn<|Jg<|bJ I I ae<|JL I dD I<|ab (cm .here) I<|bj (bn (.o I .nil) I I bH bH ak) I fun _ _=>?_)
  refine bu (.of I) (.of I) bL .here ak (by rfl) (fx I I I) (by rfl) (by rfl) (by rfl) ed (by rfl) ?_;intro v';refine aM (v:=v') (by exact .here) fun gx cx e=>?_;subst e
  (refine bJ I I ae<|ao (.of I) (.of I) eu I I (dR I) (bz I) ak<|Jx<|Jj<|Jt<|Jg<|JB I (by omega)<|Jv I<|Jn ?_)
  apply aH (k+1,gx,cx) (by show k+1<=r.ti.length;omega) (by show r.ti.length-(k+1)<r.ti.length-k;omega)
  case hs1=>exact bS
  case ht=>
   show bB _ [row 187 3 (.slice gx (k+1) cx) (k+1) (kz (r.ti.take (k+1))),row 90 3 (.slice g2 r.de.length yF) r.de.length (jt r.de),row 186 2 (.slice g1 r.sr.length qw) r.sr.length (ko r.sr),JP b3 r (.slice g1 r.sr.length qw) (.slice g2 r.de.length yF) (.slice gx (k+1) cx) (.z),bE b2 (.cells #[.q 0,.q 0,.z,.z,.z,.z] 41 (0,0)),JQ b1 r (.slice a1 r.sr.length eo) (.slice a2 r.de.length c6) (.slice a3 r.ti.length dT) (.slice a4 r.po.length eW)] _;rw [ba];exact .cons (.there .here) (.cons cX (.cons cX (.h1 (.cons bL (.cons bL .nil)))))
 obtain rfl:k=r.ti.length:=by omega
 rw [ZK];clear hk aK
 (refine Jr<|JA I<|Jn<|Jq<|Jc I fun az=>Jp<|Jl<|Jo<|Jt<|Jq<|Jr<|bJ I I ae<|JL I eu I<|JI I<|Jv I<|Jn<|J0 ?_)
 refine aN 188 3 ?_;refine aV (ι:=Nat×Option Addr×Nat) (fun y=>y.1<=r.po.length) (fun y=>[(62,.q (y.1:Nat)),(61,.q r.po.length),(60,.slice a4 r.po.length eW),(3,.p b3),(2,.p b2),(1,.p b1)]) (fun y=>[row 188 3 (.slice y.2.1 y.1 y.2.2) y.1 (gl (r.po.take y.1)),row 187 3 (.slice g3 r.ti.length Ie) r.ti.length (kz r.ti),row 90 3 (.slice g2 r.de.length yF) r.de.length (jt r.de),row 186 2 (.slice g1 r.sr.length qw) r.sr.length (ko r.sr),JP b3 r (.slice g1 r.sr.length qw) (.slice g2 r.de.length yF) (.slice g3 r.ti.length Ie) (.slice y.2.1 y.1 y.2.2),bE b2 (.cells #[.q 0,.q 0,.z,.z,.z,.z] 41 (0,0)),JQ b1 r (.slice a1 r.sr.length eo) (.slice a2 r.de.length c6) (.slice a3 r.ti.length dT) (.slice a4 r.po.length eW)]) (fun y=>r.po.length-y.1) ?_ ?_
 ·apply aI (0,none,0) (Zi _)
  case hs1=>exact bS
  case ht=>
   exact .h7 .nil
 rintro ⟨k,g4,Yz⟩ hk;dsimp only at hk ⊢;by_cases aK:k<r.po.length
 ·have cq:=zM (j8 aK);have aC:=(tR k _ (ie aK)).2;have ba:=CU aK;have hlen:(gl (r.po.take k)).length=k*3:=by rw [ic,Zs];omega
  unfold Po.cells at aC ba;generalize r.po[k]=x at aC ba
  (refine Jr<|JA I<|Jn<|Jq<|Jd I fun az=>Jk<|Jq<|J0<|Jr<|ab (fT cq az) I<|ab (iO (eZ.base aC I)) I<|Jz I I fun _ _=>ao (.of I) (.of I) .here I I (fx I I I) (bz I) ak<|Jn<|Jg<|bJ I I ae<|JL I eu I<|ab (cm .here) I<|bj (bn (.o I .nil) I I bH bH ak) I fun _ _=>?_)
  refine bu (.of I) (.of I) bL .here ak (by rfl) (fx I I I) (by rfl) (by rfl) (by rfl) ed (by rfl) ?_;intro v';refine aM (v:=v') (by exact .here) fun gx cx e=>?_;subst e
  (refine bJ I I ae<|ao (.of I) (.of I) kr I I (dR I) (bz I) ak<|Jx<|Jj<|Jt<|Jg<|JB I (by omega)<|Jv I<|Jn ?_)
  apply aH (k+1,gx,cx) (by show k+1<=r.po.length;omega) (by show r.po.length-(k+1)<r.po.length-k;omega)
  case hs1=>exact bS
  case ht=>
   show bB _ [row 188 3 (.slice gx (k+1) cx) (k+1) (gl (r.po.take (k+1))),row 187 3 (.slice g3 r.ti.length Ie) r.ti.length (kz r.ti),row 90 3 (.slice g2 r.de.length yF) r.de.length (jt r.de),row 186 2 (.slice g1 r.sr.length qw) r.sr.length (ko r.sr),JP b3 r (.slice g1 r.sr.length qw) (.slice g2 r.de.length yF) (.slice g3 r.ti.length Ie) (.slice gx (k+1) cx),bE b2 (.cells #[.q 0,.q 0,.z,.z,.z,.z] 41 (0,0)),JQ b1 r (.slice a1 r.sr.length eo) (.slice a2 r.de.length c6) (.slice a3 r.ti.length dT) (.slice a4 r.po.length eW)] _;rw [ba];exact .cons (.there .here) (.cons cX (.cons cX (.cons cX (.h1 (.cons bL (.cons bL .nil))))))
 obtain rfl:k=r.po.length:=by omega
 rw [ZK];clear hk aK
 (refine Jr<|JA I<|Jn<|Jq<|Jc I fun az=>Jp<|Jl<|Jo<|Jt<|Jr<|ab (cm dD) I<|ao (.of I) (.of I) eu I I (eF I I I I I I) (bz I) ak<|Jn<|Je ?_)
 with_reducible first|apply aO|apply aQ
 case he=>exact iK I inferInstance I .here ak (by rfl)
 case hR=>
  intro w' aB;exact aD (.slice g1 r.sr.length qw,.slice g2 r.de.length yF,.slice g3 r.ti.length Ie,.slice g4 r.po.length Yz) trivial (by exact .cons dD (.cons cX (.cons bL (.cons (.there .here) .nil)))) aB I
theorem Av {s d t p:Value} (h:RR w r s d t p) (cZ:jv r):a8 T_ 57 [RA r s d t p] w [] (fun _:Value×Value×Value×Value=>True) (fun x=>RA r x.1 x.2.1 x.2.2.1 x.2.2.2) (fun x=>nQ r x):=by
 obtain ⟨h1,h2,h3,h4⟩:=h.one;have Db:=h.sr;have Dn:=h.de;have yt:=h.ti;have E7:=h.po;obtain ⟨a1,eo,I7,IU,rfl,oC,ix,mm,kL⟩:=Db;obtain ⟨a2,c6,I6,IT,rfl,kd,eU,jV,ke⟩:=Dn;obtain ⟨a3,dT,Ha,Gp,rfl,mP,gF,rN,oR⟩:=yt;obtain ⟨a4,eW,Ol,IS,rfl,qT,jE,zM,tR⟩:=E7;rw [cy] at *;rw [cd] at *;rw [bV] at *;rw [cR] at *;unfold maxLen at ix eU gF jE;obtain ⟨f1,f2,f3,f4⟩:=cZ;unfold RA;refine aS func57 I I ?_
 (refine Jr<|Jy I I fun _ _=>Jz I I fun _ _=>Ji<|bJ I I ae<|JL I (.there .here) I<|bJ I I ae<|JL I (.there .here) I<|ab (aU (.o I (.o I .nil)) ak) I<|Jz I I fun _ _=>ao (.of I) (.of I) .here I I (eF I I I I I I) (bz I) ak<|Jn<|Jq<|Jr<|bJ I I ae<|JL I bL I<|JI I<|Jv I<|Jn<|J0 ?_)
 rename_i b1 tT b2 rM b3 tr;refine aN 118 2 ?_;refine aV (ι:=Nat×Option Addr×Nat) (fun y=>y.1<=r.sr.length) (fun y=>[(20,.q (y.1:Nat)),(19,.q r.sr.length),(18,.slice a1 r.sr.length eo),(3,.p b3),(2,.p b2),(1,.p b1)]) (fun y=>[row 118 2 (.slice y.2.1 y.1 y.2.2) y.1 (ko (r.sr.take y.1)),JQ b3 r (.slice y.2.1 y.1 y.2.2) (.z) (.z) (.z),bE b2 (.cells #[.q 0,.q 0,.z,.z,.z,.z] 27 (0,0)),JP b1 r (.slice a1 r.sr.length eo) (.slice a2 r.de.length c6) (.slice a3 r.ti.length dT) (.slice a4 r.po.length eW)]) (fun y=>r.sr.length-y.1) ?_ ?_
 ·apply aI (0,none,0) (Zi _)
  case hs1=>exact bS
  case ht=>
   exact .h4 .nil
 rintro ⟨k,g1,qw⟩ hk;dsimp only at hk ⊢;by_cases aK:k<r.sr.length
 ·have cq:=mm (iF aK);have aC:=(kL k _ (fZ aK)).2;have ba:=Cq aK;have hlen:(ko (r.sr.take k)).length=k*2:=by rw [Gc,Zs];omega
  unfold Sr.cells at aC ba;generalize r.sr[k]=x at aC ba
  (refine Jr<|JA I<|Jn<|Jq<|Jd I fun az=>Jk<|Jq<|J0<|Jr<|ab (fT cq az) I<|ab (iO (eZ.base aC I)) I<|Jz I I fun _ _=>ao (.of I) (.of I) .here I I (gO I I) (bz I) ak<|Jn<|Jg<|bJ I I ae<|JL I bL I<|ab (cm .here) I<|bj (bn (.o I .nil) I I bH bH ak) I fun _ _=>?_)
  refine bu (.of I) (.of I) bL .here ak (by rfl) (gO I I) (by rfl) (by rfl) (by rfl) ed (by rfl) ?_;intro v';refine aM (v:=v') (by exact .here) fun gx cx e=>?_;subst e
  (refine bJ I I ae<|ao (.of I) (.of I) cX I I (dR I) (bz I) ak<|Jx<|Jj<|Jt<|Jg<|JB I (by omega)<|Jv I<|Jn ?_)
  apply aH (k+1,gx,cx) (by show k+1<=r.sr.length;omega) (by show r.sr.length-(k+1)<r.sr.length-k;omega)
  case hs1=>exact bS
  case ht=>
   show bB _ [row 118 2 (.slice gx (k+1) cx) (k+1) (ko (r.sr.take (k+1))),JQ b3 r (.slice gx (k+1) cx) (.z) (.z) (.z),bE b2 (.cells #[.q 0,.q 0,.z,.z,.z,.z] 27 (0,0)),JP b1 r (.slice a1 r.sr.length eo) (.slice a2 r.de.length c6) (.slice a3 r.ti.length dT) (.slice a4 r.po.length eW)] _;rw [ba];exact .cons (.there .here) (.h1 (.cons bL (.cons bL .nil)))
 obtain rfl:k=r.sr.length:=by omega
 rw [ZK];clear hk aK
 (refine Jr<|JA I<|Jn<|Jq<|Jc I fun az=>Jp<|Jl<|Jo<|Jt<|Jq<|Jr<|bJ I I ae<|JL I cX I<|JI I<|Jv I<|Jn<|J0 ?_)
 refine aN 88 3 ?_;refine aV (ι:=Nat×Option Addr×Nat) (fun y=>y.1<=r.de.length) (fun y=>[(34,.q (y.1:Nat)),(33,.q r.de.length),(32,.slice a2 r.de.length c6),(3,.p b3),(2,.p b2),(1,.p b1)]) (fun y=>[row 88 3 (.slice y.2.1 y.1 y.2.2) y.1 (jt (r.de.take y.1)),row 118 2 (.slice g1 r.sr.length qw) r.sr.length (ko r.sr),JQ b3 r (.slice g1 r.sr.length qw) (.slice y.2.1 y.1 y.2.2) (.z) (.z),bE b2 (.cells #[.q 0,.q 0,.z,.z,.z,.z] 27 (0,0)),JP b1 r (.slice a1 r.sr.length eo) (.slice a2 r.de.length c6) (.slice a3 r.ti.length dT) (.slice a4 r.po.length eW)]) (fun y=>r.de.length-y.1) ?_ ?_
 ·apply aI (0,none,0) (Zi _)
  case hs1=>exact bS
  case ht=>
   exact .h5 .nil
 rintro ⟨k,g2,yF⟩ hk;dsimp only at hk ⊢;by_cases aK:k<r.de.length
 ·have cq:=jV (iq aK);have aC:=(ke k _ (fR aK)).2;have ba:=DB aK;have hlen:(jt (r.de.take k)).length=k*3:=by rw [G5,Zs];omega
  unfold De.cells at aC ba;generalize r.de[k]=x at aC ba
  (refine Jr<|JA I<|Jn<|Jq<|Jd I fun az=>Jk<|Jq<|J0<|Jr<|ab (fT cq az) I<|ab (iO (eZ.base aC I)) I<|Jz I I fun _ _=>ao (.of I) (.of I) .here I I (fx I I I) (bz I) ak<|Jn<|Jg<|bJ I I ae<|JL I cX I<|ab (cm .here) I<|bj (bn (.o I .nil) I I bH bH ak) I fun _ _=>?_)
  refine bu (.of I) (.of I) bL .here ak (by rfl) (fx I I I) (by rfl) (by rfl) (by rfl) ed (by rfl) ?_;intro v';refine aM (v:=v') (by exact .here) fun gx cx e=>?_;subst e
  (refine bJ I I ae<|ao (.of I) (.of I) dD I I (dR I) (bz I) ak<|Jx<|Jj<|Jt<|Jg<|JB I (by omega)<|Jv I<|Jn ?_)
  apply aH (k+1,gx,cx) (by show k+1<=r.de.length;omega) (by show r.de.length-(k+1)<r.de.length-k;omega)
  case hs1=>exact bS
  case ht=>
   show bB _ [row 88 3 (.slice gx (k+1) cx) (k+1) (jt (r.de.take (k+1))),row 118 2 (.slice g1 r.sr.length qw) r.sr.length (ko r.sr),JQ b3 r (.slice g1 r.sr.length qw) (.slice gx (k+1) cx) (.z) (.z),bE b2 (.cells #[.q 0,.q 0,.z,.z,.z,.z] 27 (0,0)),JP b1 r (.slice a1 r.sr.length eo) (.slice a2 r.de.length c6) (.slice a3 r.ti.length dT) (.slice a4 r.po.length eW)] _;rw [ba];exact .cons (.there .here) (.cons cX (.h1 (.cons bL (.cons bL .nil))))
 obtain rfl:k=r.de.length:=by omega
 rw [ZK];clear hk aK
 (refine Jr<|JA I<|Jn<|Jq<|Jc I fun az=>Jp<|Jl<|Jo<|Jt<|Jq<|Jr<|bJ I I ae<|JL I dD I<|JI I<|Jv I<|Jn<|J0 ?_)
 refine aN 122 3 ?_;refine aV (ι:=Nat×Option Addr×Nat) (fun y=>y.1<=r.ti.length) (fun y=>[(48,.q (y.1:Nat)),(47,.q r.ti.length),(46,.slice a3 r.ti.length dT),(3,.p b3),(2,.p b2),(1,.p b1)]) (fun y=>[row 122 3 (.slice y.2.1 y.1 y.2.2) y.1 (kz (r.ti.take y.1)),row 88 3 (.slice g2 r.de.length yF) r.de.length (jt r.de),row 118 2 (.slice g1 r.sr.length qw) r.sr.length (ko r.sr),JQ b3 r (.slice g1 r.sr.length qw) (.slice g2 r.de.length yF) (.slice y.2.1 y.1 y.2.2) (.z),bE b2 (.cells #[.q 0,.q 0,.z,.z,.z,.z] 27 (0,0)),JP b1 r (.slice a1 r.sr.length eo) (.slice a2 r.de.length c6) (.slice a3 r.ti.length dT) (.slice a4 r.po.length eW)]) (fun y=>r.ti.length-y.1) ?_ ?_
 ·apply aI (0,none,0) (Zi _)
  case hs1=>exact bS
  case ht=>
   exact .h6 .nil
 rintro ⟨k,g3,Ie⟩ hk;dsimp only at hk ⊢;by_cases aK:k<r.ti.length
 ·have cq:=rN (fm aK);have aC:=(oR k _ (ei aK)).2;have ba:=Cm aK;have hlen:(kz (r.ti.take k)).length=k*3:=by rw [F6,Zs];omega
  unfold Ti.cells at aC ba;generalize r.ti[k]=x at aC ba
  (refine Jr<|JA I<|Jn<|Jq<|Jd I fun az=>Jk<|Jq<|J0<|Jr<|ab (fT cq az) I<|ab (iO (eZ.base aC I)) I<|Jz I I fun _ _=>ao (.of I) (.of I) .here I I (fx I I I) (bz I) ak<|Jn<|Jg<|bJ I I ae<|JL I dD I<|ab (cm .here) I<|bj (bn (.o I .nil) I I bH bH ak) I fun _ _=>?_)
  refine bu (.of I) (.of I) bL .here ak (by rfl) (fx I I I) (by rfl) (by rfl) (by rfl) ed (by rfl) ?_;intro v';refine aM (v:=v') (by exact .here) fun gx cx e=>?_;subst e
  (refine bJ I I ae<|ao (.of I) (.of I) eu I I (dR I) (bz I) ak<|Jx<|Jj<|Jt<|Jg<|JB I (by omega)<|Jv I<|Jn ?_)
  apply aH (k+1,gx,cx) (by show k+1<=r.ti.length;omega) (by show r.ti.length-(k+1)<r.ti.length-k;omega)
  case hs1=>exact bS
  case ht=>
   show bB _ [row 122 3 (.slice gx (k+1) cx) (k+1) (kz (r.ti.take (k+1))),row 88 3 (.slice g2 r.de.length yF) r.de.length (jt r.de),row 118 2 (.slice g1 r.sr.length qw) r.sr.length (ko r.sr),JQ b3 r (.slice g1 r.sr.length qw) (.slice g2 r.de.length yF) (.slice gx (k+1) cx) (.z),bE b2 (.cells #[.q 0,.q 0,.z,.z,.z,.z] 27 (0,0)),JP b1 r (.slice a1 r.sr.length eo) (.slice a2 r.de.length c6) (.slice a3 r.ti.length dT) (.slice a4 r.po.length eW)] _;rw [ba];exact .cons (.there .here) (.cons cX (.cons cX (.h1 (.cons bL (.cons bL .nil)))))
 obtain rfl:k=r.ti.length:=by omega
 rw [ZK];clear hk aK
 (refine Jr<|JA I<|Jn<|Jq<|Jc I fun az=>Jp<|Jl<|Jo<|Jt<|Jq<|Jr<|bJ I I ae<|JL I eu I<|JI I<|Jv I<|Jn<|J0 ?_)
 refine aN 180 3 ?_;refine aV (ι:=Nat×Option Addr×Nat) (fun y=>y.1<=r.po.length) (fun y=>[(62,.q (y.1:Nat)),(61,.q r.po.length),(60,.slice a4 r.po.length eW),(3,.p b3),(2,.p b2),(1,.p b1)]) (fun y=>[row 180 3 (.slice y.2.1 y.1 y.2.2) y.1 (gl (r.po.take y.1)),row 122 3 (.slice g3 r.ti.length Ie) r.ti.length (kz r.ti),row 88 3 (.slice g2 r.de.length yF) r.de.length (jt r.de),row 118 2 (.slice g1 r.sr.length qw) r.sr.length (ko r.sr),JQ b3 r (.slice g1 r.sr.length qw) (.slice g2 r.de.length yF) (.slice g3 r.ti.length Ie) (.slice y.2.1 y.1 y.2.2),bE b2 (.cells #[.q 0,.q 0,.z,.z,.z,.z] 27 (0,0)),JP b1 r (.slice a1 r.sr.length eo) (.slice a2 r.de.length c6) (.slice a3 r.ti.length dT) (.slice a4 r.po.length eW)]) (fun y=>r.po.length-y.1) ?_ ?_
 ·apply aI (0,none,0) (Zi _)
  case hs1=>exact bS
  case ht=>
   exact .h7 .nil
 rintro ⟨k,g4,Yz⟩ hk;dsimp only at hk ⊢;by_cases aK:k<r.po.length
 ·have cq:=zM (j8 aK);have aC:=(tR k _ (ie aK)).2;have ba:=CU aK;have hlen:(gl (r.po.take k)).length=k*3:=by rw [ic,Zs];omega
  unfold Po.cells at aC ba;generalize r.po[k]=x at aC ba
  (refine Jr<|JA I<|Jn<|Jq<|Jd I fun az=>Jk<|Jq<|J0<|Jr<|ab (fT cq az) I<|ab (iO (eZ.base aC I)) I<|Jz I I fun _ _=>ao (.of I) (.of I) .here I I (fx I I I) (bz I) ak<|Jn<|Jg<|bJ I I ae<|JL I eu I<|ab (cm .here) I<|bj (bn (.o I .nil) I I bH bH ak) I fun _ _=>?_)
  refine bu (.of I) (.of I) bL .here ak (by rfl) (fx I I I) (by rfl) (by rfl) (by rfl) ed (by rfl) ?_;intro v';refine aM (v:=v') (by exact .here) fun gx cx e=>?_;subst e
  (refine bJ I I ae<|ao (.of I) (.of I) kr I I (dR I) (bz I) ak<|Jx<|Jj<|Jt<|Jg<|JB I (by omega)<|Jv I<|Jn ?_)
  apply aH (k+1,gx,cx) (by show k+1<=r.po.length;omega) (by show r.po.length-(k+1)<r.po.length-k;omega)
  case hs1=>exact bS
  case ht=>
   show bB _ [row 180 3 (.slice gx (k+1) cx) (k+1) (gl (r.po.take (k+1))),row 122 3 (.slice g3 r.ti.length Ie) r.ti.length (kz r.ti),row 88 3 (.slice g2 r.de.length yF) r.de.length (jt r.de),row 118 2 (.slice g1 r.sr.length qw) r.sr.length (ko r.sr),JQ b3 r (.slice g1 r.sr.length qw) (.slice g2 r.de.length yF) (.slice g3 r.ti.length Ie) (.slice gx (k+1) cx),bE b2 (.cells #[.q 0,.q 0,.z,.z,.z,.z] 27 (0,0)),JP b1 r (.slice a1 r.sr.length eo) (.slice a2 r.de.length c6) (.slice a3 r.ti.length dT) (.slice a4 r.po.length eW)] _;rw [ba];exact .cons (.there .here) (.cons cX (.cons cX (.cons cX (.h1 (.cons bL (.cons bL .nil))))))
 obtain rfl:k=r.po.length:=by omega
 rw [ZK];clear hk aK
 (refine Jr<|JA I<|Jn<|Jq<|Jc I fun az=>Jp<|Jl<|Jo<|Jt<|Jr<|ab (cm dD) I<|ao (.of I) (.of I) eu I I (eF I I I I I I) (bz I) ak<|Jn<|Je ?_)
 with_reducible first|apply aO|apply aQ
 case he=>exact iK I inferInstance I .here ak (by rfl)
 case hR=>
  intro w' aB;exact aD (.slice g1 r.sr.length qw,.slice g2 r.de.length yF,.slice g3 r.ti.length Ie,.slice g4 r.po.length Yz) trivial (by exact .cons dD (.cons cX (.cons bL (.cons (.there .here) .nil)))) aB I
theorem kC {α:Type} {l m:List α} {k:Nat} (hl:k<l.length) (hm:k<m.length) (h:l[k]=m[k]):(l.drop k=m.drop k)↔l.drop (k+1)=m.drop (k+1):=by
 rw [Zt hl,Zt hm,h];exact ⟨fun e=>(List.cons.inj e).2,fun e=>by rw [e]⟩
theorem AI {l m:List ByteArray} (h1:Rd w v1 1 (gi l)) (h2:Rd w v2 1 (gi m)) :
  aj T_ 58 [v1,v2] w (.bool (decide (l=m))):=by
 obtain ⟨a1,YO,b1,o1,rfl,oC,ix,mm,kL⟩:=h1;obtain ⟨a2,oS,b2,o2,rfl,kd,eU,jV,ke⟩:=h2;rw [bG] at *;rw [bG] at *;unfold maxLen at ix eU;refine ah func58 I I ?_
 (refine Jr<|Ja I<|Jn<|Jq<|Jr<|Jv I<|JI I<|Jv I<|JI I<|JD I<|Jn<|gm I (fun az=>?_) fun az=>?_;refine Jr<|Ja I<|Jn<|Ju<|JT ?_;rotate_left;refine Jk<|Jq<|Jr<|Ja I<|Jn<|J0 ?_;rotate_right)
 ·rw [decide_eq_false fun e=>az (by rw [e])]
 have XP:l.length=m.length:=by omega
 refine aV (ι:=Nat) (fun k=>k<=l.length/\(l=m↔l.drop k=m.drop k)) (fun k=>[(5,.q (k:Int)),(0,.slice a1 l.length YO),(1,.slice a2 m.length oS)]) (fun _=>[]) (fun k=>l.length-k) ?_ ?_
 ·apply aI (0:Nat) ⟨Zi _,Iff.rfl⟩
  case hs1=>exact bS
  case ht=>(try simp only [Ze,Zf,Za]);exact .nil
 rintro k ⟨hk,hf⟩;by_cases aK:k<l.length
 ·have fY:k<m.length:=by omega
  have xl:=mm (iE aK);have qI:=jV (iE fY);have lW:=(kL k _ (fM aK)).2;have fF:=(ke k _ (fM fY)).2;have hd:=kC (l:=l) (m:=m) aK fY;have gq:l[k]≠m[k]->l.drop k≠m.drop k:=fun hne e=>hne (by
   rw [Zt aK,Zt fY] at e;exact (List.cons.inj e).1)
  generalize l[k]=x at lW hd gq;generalize m[k]=y at fF hd gq;have c1:w.cell? ⟨b1,o1+k*1,none⟩=some (.string x):=lW 0 _ I;have c2:w.cell? ⟨b2,o2+k*1,none⟩=some (.string y):=fF 0 _ I;refine Jq<|Jr<|Jv I<|Jv I<|JI I<|JA I<|Jn<|Jd I fun az=>Jk<|Jq<|J0<|Jq ?_
  with_reducible refine cN 9 (by kernel_rfl) ?_
  (refine gn I I<|gn I I<|aA (fT xl az) I<|aA (ag (.of I) (At.base c1 I)) I<|gn I I<|gn I I<|aA (an (.of I) (.of I) qI (by omega) (by omega) aW) I<|aA (ag (.of I) (At.base c2 I)) I<|aA (fN (.of I) (.of I)) I ?_)
  with_reducible refine cT ?_
  (refine Jn<|gm I (fun az=>?_) fun az=>?_;refine Jr<|Ja I<|Jn<|Je<|Jm<|Jh<|Jh<|Jm<|Jh<|JT ?_;rotate_left;refine Jw<|Jj<|Jt<|Jg<|Jv I<|JB I (by omega)<|Ja I<|Jn ?_;rotate_right)
  ·have hne:x≠y:=az;rw [decide_eq_false fun e=>gq hne (hf.1 e)]
  ·have he:x=y:=Zp.1 az;clear az;apply aH (k+1) ⟨(show k+1<=l.length from aK),hf.trans (hd he)⟩ (show l.length-(k+1)<l.length-k by omega)
   case hs1=>exact bS
   case ht=>(try simp only [Ze,Zf,Za]);exact .nil
 ·obtain rfl:k=l.length:=by omega
  have:l=m:=hf.2 (by rw [Z1,XP,Z1]);refine Jq<|Jr<|Jv I<|Jv I<|JI I<|JA I<|Jn<|Jc I fun az=>Jp<|Jl<|Jo<|Jt<|Jr<|Ja I<|Jn<|Je<|JT ?_;rw [decide_eq_true this]
theorem Pb {l m:List Int} (h1:Rd w v1 1 (ints l)) (h2:Rd w v2 1 (ints m)) :
  aj T_ 109 [v1,v2] w (.bool (decide (l=m))):=by
 obtain ⟨a1,YO,b1,o1,rfl,oC,ix,mm,kL⟩:=h1;obtain ⟨a2,oS,b2,o2,rfl,kd,eU,jV,ke⟩:=h2;rw [dw] at *;rw [dw] at *;unfold maxLen at ix eU;refine ah func109 I I ?_
 (refine Jr<|Ja I<|Jn<|Jq<|Jr<|Jv I<|JI I<|Jv I<|JI I<|JD I<|Jn<|gm I (fun az=>?_) fun az=>?_;refine Jr<|Ja I<|Jn<|Ju<|JT ?_;rotate_left;refine Jk<|Jq<|Jr<|Ja I<|Jn<|J0 ?_;rotate_right)
 ·rw [decide_eq_false fun e=>az (by rw [e])]
 have XP:l.length=m.length:=by omega
 refine aV (ι:=Nat) (fun k=>k<=l.length/\(l=m↔l.drop k=m.drop k)) (fun k=>[(5,.q (k:Int)),(0,.slice a1 l.length YO),(1,.slice a2 m.length oS)]) (fun _=>[]) (fun k=>l.length-k) ?_ ?_
 ·apply aI (0:Nat) ⟨Zi _,Iff.rfl⟩
  case hs1=>exact bS
  case ht=>(try simp only [Ze,Zf,Za]);exact .nil
 rintro k ⟨hk,hf⟩;by_cases aK:k<l.length
 ·have fY:k<m.length:=by omega
  have xl:=mm (kb aK);have qI:=jV (kb fY);have lW:=(kL k _ (iV aK)).2;have fF:=(ke k _ (iV fY)).2;have hd:=kC (l:=l) (m:=m) aK fY;have gq:l[k]≠m[k]->l.drop k≠m.drop k:=fun hne e=>hne (by
   rw [Zt aK,Zt fY] at e;exact (List.cons.inj e).1)
  generalize l[k]=x at lW hd gq;generalize m[k]=y at fF hd gq;have c1:w.cell? ⟨b1,o1+k*1,none⟩=some (.q x):=lW 0 _ I;have c2:w.cell? ⟨b2,o2+k*1,none⟩=some (.q y):=fF 0 _ I;refine Jq<|Jr<|Jv I<|Jv I<|JI I<|JA I<|Jn<|Jd I fun az=>Jk<|Jq<|J0<|Jq ?_
  with_reducible refine cN 9 (by kernel_rfl) ?_
  (refine gn I I<|gn I I<|aA (fT xl az) I<|aA (ag (.of I) (At.base c1 I)) I<|gn I I<|gn I I<|aA (an (.of I) (.of I) qI (by omega) (by omega) aW) I<|aA (ag (.of I) (At.base c2 I)) I<|aA (jl (.of I) (.of I)) I ?_)
  with_reducible refine cT ?_
  (refine Jn<|gm I (fun az=>?_) fun az=>?_;refine Jr<|Ja I<|Jn<|Je<|Jm<|Jh<|Jh<|Jm<|Jh<|JT ?_;rotate_left;refine Jw<|Jj<|Jt<|Jg<|Jv I<|JB I (by omega)<|Ja I<|Jn ?_;rotate_right)
  ·have hne:x≠y:=az;rw [decide_eq_false fun e=>gq hne (hf.1 e)]
  ·have he:x=y:=Zp.1 az;clear az;apply aH (k+1) ⟨(show k+1<=l.length from aK),hf.trans (hd he)⟩ (show l.length-(k+1)<l.length-k by omega)
   case hs1=>exact bS
   case ht=>(try simp only [Ze,Zf,Za]);exact .nil
 ·obtain rfl:k=l.length:=by omega
  have:l=m:=hf.2 (by rw [Z1,XP,Z1]);refine Jq<|Jr<|Jv I<|Jv I<|JI I<|JA I<|Jn<|Jc I fun az=>Jp<|Jl<|Jo<|Jt<|Jr<|Ja I<|Jn<|Je<|JT ?_;rw [decide_eq_true this]
theorem FN {lv:Value} {l:List ByteArray} (h:Rd w lv 1 (gi l)) (hl:l.length<=1000000) :
  a8 T_ 72 [lv] w [] (fun _:Value=>True) id (fun v=>[row 9 1 v l.length (aR l)]):=by
 refine aS func72 I I ?_
 (refine Jr<|Ja I<|Ji<|bj (aG .nil I I I I) I fun _ _=>Jv I ?_)
 rename_i bq ml;refine bU (g:=bq) (E:=9) (ys:=[]) 0 1 (by exact .here) I I I ?_
 skip
 with_reducible apply eX
 case hx=>exact Is.of I
 case hy=>exact Is.of I
 case ht=>exact .here
 case hsrc=>exact fun w' aB=>h.keeps aB.keeps
 case h1=>exact vi l
 case hz=>exact I
 case hsz=>exact I
 case hb0=>exact I
 case hb=>rw [bG];omega
 case hd=>rfl
 intro v';rw [bG,ZD,Za,<- oU];refine Ja I<|Jn<|Je ?_
 with_reducible first|apply aO|apply aQ
 case he=>exact dB I I
 case hR=>
  intro w' aB;exact aD v' trivial (by exact .h1 .nil) aB I
theorem WR {r q:Ro}:r=q↔(((((r.lv=q.lv/\r.ma=q.ma)/\r.sr=q.sr)/\r.de=q.de)/\r.ti=q.ti)/\r.po=q.po):=by
 cases r;cases q;simp [and_assoc]
theorem FF {r q:Ro} {s d t p s' d' t' p':Value} (h:RR w r s d t p) (h':RR w q s' d' t' p'):aj T_ 84 [RA r s d t p,RA q s' d' t' p'] w (.bool (decide (r=q))):=by
 obtain ⟨h1,h2,h3,h4⟩:=h.one;have g1:=Rd.one h'.sr;have g2:=Rd.one h'.de;have g3:=Rd.one h'.ti;have g4:=Rd.one h'.po;have Db:=h.sr;have Dn:=h.de;have yt:=h.ti;have E7:=h.po;have gs_:=h'.sr;have gd_:=h'.de;have gt_:=h'.ti;have gp_:=h'.po;obtain ⟨a1,eo,I7,IU,rfl,oC,ix,mm,kL⟩:=Db;obtain ⟨x1,Ow,xs1,xo1,rfl,aeQ,Yx,ga1,qw⟩:=gs_;obtain ⟨a2,c6,I6,IT,rfl,kd,eU,jV,ke⟩:=Dn;obtain ⟨x2,Ov,VM,xo2,rfl,aeP,Yw,ga2,yF⟩:=gd_;obtain ⟨a3,dT,Ha,Gp,rfl,mP,gF,rN,oR⟩:=yt;obtain ⟨x3,Ou,xs3,xo3,rfl,aeO,Yv,ga3,Ie⟩:=gt_;obtain ⟨a4,eW,Ol,IS,rfl,qT,jE,zM,tR⟩:=E7;obtain ⟨x4,Ot,xs4,xo4,rfl,aeN,Yu,ga4,Yz⟩:=gp_;rw [cy] at *;rw [cy] at *;rw [cd] at *;rw [cd] at *;rw [bV] at *;rw [bV] at *;rw [cR] at *;rw [cR] at *;unfold maxLen at ix eU gF jE Yx Yw Yv Yu;unfold RA;refine ah func84 I I ?_
 (refine Jr<|Jy I I fun _ _=>Jy I I fun _ _=>Ja I<|Jn<|Jq<|Jr<|bJ I I ae<|JL I (.there .here) I<|bJ I I ae<|JL I .here I<|JD I<|Jv I<|aF I I inferInstance (fun hg br=>(aq (.of I) ae)) I<|aF I I inferInstance (fun hg br=>(ag (.bF hg I) (At.lit (.there .here) I))) I<|aF I I inferInstance (fun hg br=>(aq (.of I) ae)) I<|aF I I inferInstance (fun hg br=>(ag (.bF hg I) (At.lit .here I))) I<|aF I I inferInstance (fun hg br=>(jl (.bF hg I) (.bF hg I))) I<|ab (bA (.of I) I) I<|Jv I<|aF I I inferInstance (fun hg br=>(aq (.of I) ae)) I<|aF I I inferInstance (fun hg br=>(ag (.bF hg I) (At.lit (.there .here) I))) I<|aF I I inferInstance (fun hg br=>(bZ (.bF hg I))) I<|aF I I inferInstance (fun hg br=>(aq (.of I) ae)) I<|aF I I inferInstance (fun hg br=>(ag (.bF hg I) (At.lit .here I))) I<|aF I I inferInstance (fun hg br=>(bZ (.bF hg I))) I<|aF I I inferInstance (fun hg br=>(jl (.bF hg I) (.bF hg I))) I<|ab (bA (.of I) I) I<|Jv I<|aF I I inferInstance (fun hg br=>(aq (.of I) ae)) I<|aF I I inferInstance (fun hg br=>(ag (.bF hg I) (At.lit (.there .here) I))) I<|aF I I inferInstance (fun hg br=>(bZ (.bF hg I))) I<|aF I I inferInstance (fun hg br=>(aq (.of I) ae)) I<|aF I I inferInstance (fun hg br=>(ag (.bF hg I) (At.lit .here I))) I<|aF I I inferInstance (fun hg br=>(bZ (.bF hg I))) I<|aF I I inferInstance (fun hg br=>(jl (.bF hg I) (.bF hg I))) I<|ab (bA (.of I) I) I<|Jv I<|aF I I inferInstance (fun hg br=>(aq (.of I) ae)) I<|aF I I inferInstance (fun hg br=>(ag (.bF hg I) (At.lit (.there .here) I))) I<|aF I I inferInstance (fun hg br=>(bZ (.bF hg I))) I<|aF I I inferInstance (fun hg br=>(aq (.of I) ae)) I<|aF I I inferInstance (fun hg br=>(ag (.bF hg I) (At.lit .here I))) I<|aF I I inferInstance (fun hg br=>(bZ (.bF hg I))) I<|aF I I inferInstance (fun hg br=>(jl (.bF hg I) (.bF hg I))) I<|ab (bA (.of I) I) I<|Jv I<|aF I I inferInstance (fun hg br=>(aq (.of I) ae)) I<|aF I I inferInstance (fun hg br=>(ag (.bF hg I) (At.lit (.there .here) I))) I<|aF I I inferInstance (fun hg br=>(bZ (.bF hg I))) I<|aF I I inferInstance (fun hg br=>(aq (.of I) ae)) I<|aF I I inferInstance (fun hg br=>(ag (.bF hg I) (At.lit .here I))) I<|aF I I inferInstance (fun hg br=>(bZ (.bF hg I))) I<|aF I I inferInstance (fun hg br=>(jl (.bF hg I) (.bF hg I))) I<|ab (bA (.of I) I) I<|Jn<|nj I (fun az=>?_) fun az=>?_;refine Jr<|Ja I<|Jn<|Ju<|JT ?_;rotate_left;refine Jk<|Jq<|Jr<|Ja I<|Jn<|J0 ?_;rotate_right)
 ·rw [decide_eq_false fun e=>by subst e;simp at az]
 simp only [not_or,ne_eq,Zp] at az;obtain ⟨⟨⟨⟨⟨e1,e2⟩,e3⟩,e4⟩,e5⟩,e6⟩:=az;rename_i b1 tT b2 rM;refine aV (ι:=Nat) (fun k=>k<=r.sr.length/\(r.sr=q.sr↔r.sr.drop k=q.sr.drop k)) (fun k=>[(5,.int .i64 (k:Nat)),(3,.pointer (some ⟨b2,0,none⟩)),(2,.pointer (some ⟨b1,0,none⟩))]) (fun _=>[bE b2 (.cells #[.int .i64 q.lv,.int .i64 q.ma,.slice x1 q.sr.length Ow,.slice x2 q.de.length Ov,.slice x3 q.ti.length Ou,.slice x4 q.po.length Ot] 27 (0,0)),JQ b1 r (.slice a1 r.sr.length eo) (.slice a2 r.de.length c6) (.slice a3 r.ti.length dT) (.slice a4 r.po.length eW)]) (fun k=>r.sr.length-k) ?_ ?_
 ·apply aI (0:Nat) ⟨Zi _,Iff.rfl⟩
  case hs1=>exact bS
  case ht=>
   exact .h2 .nil
 rintro k ⟨hk,hf⟩;have el:r.sr.length=q.sr.length:=by omega
 by_cases aK:k<r.sr.length
 ·have fY:k<q.sr.length:=by omega
  have cq:=mm (iF aK);have U9:=ga1 (iF fY);have aC:=(kL k _ (fZ aK)).2;have lX:=(qw k _ (fZ fY)).2;have hd:=kC (l:=r.sr) (m:=q.sr) aK fY;have gq:r.sr[k]≠q.sr[k]->r.sr.drop k≠q.sr.drop k:=fun hne e=>hne (by
   rw [Zt aK,Zt fY] at e;exact (List.cons.inj e).1)
  generalize r.sr[k]=x at aC hd gq;generalize q.sr[k]=y at lX hd gq;unfold Sr.cells at aC lX
  (refine Jq<|Jr<|Jv I<|bJ I I ae<|JL I (.there .here) I<|JI I<|JA I<|Jn<|Jd I fun az=>Jk<|Jq<|J0<|Jq ?_)
  with_reducible refine cN 10 (by kernel_rfl) ?_
  (refine lS I I ae<|aA (gX (.there .here)) I<|gn I I<|aA (fT cq az) I<|aA (iO (eZ.base aC I)) I<|lS I I ae<|aA (gX .here) I<|gn I I<|aA (an (.of I) (.of I) U9 (by omega) (by omega) aW) I<|aA (iO (eZ.base lX I)) I ?_)
  with_reducible refine cT ?_
  (refine ab (vn (.of I) (.of I) (fX (kI mJ)) I) I<|Jn<|nj I (fun az=>?_) fun az=>?_;refine Jr<|Ja I<|Jn<|Je<|Jm<|Jh<|Jh<|Jm<|Jh<|JT ?_;rotate_left;refine Jw<|Jj<|Jt<|Jg<|Jv I<|JB I (by omega)<|Ja I<|Jn ?_;rotate_right)
  ·have hne:x≠y:=by
    intro e;subst e;simp at az
   rw [decide_eq_false fun e=>gq hne (hf.1 (by rw [e]))]
  ·have he:x=y:=by
    obtain ⟨q1,q2,_⟩:=az;cases x;cases y;dsimp only at q1 q2;subst q1;subst q2
    rfl
   clear az;apply aH (k+1) ⟨(show k+1<=r.sr.length from aK),hf.trans (hd he)⟩ (show r.sr.length-(k+1)<r.sr.length-k by omega)
   case hs1=>exact bS
   case ht=>
    exact .h2 .nil
 have z1:r.sr=q.sr:=by
  obtain rfl:k=r.sr.length:=by omega
  exact hf.2 (by rw [Z1,el,Z1])
 obtain rfl:k=r.sr.length:=by omega
 clear hk hf aK
 (refine Jq<|Jr<|Jv I<|bJ I I ae<|JL I (.there .here) I<|JI I<|JA I<|Jn<|Jc I fun az=>Jp<|Jl<|Jo<|Jt<|Jq<|Jr<|Ja I<|Jn<|J0 ?_)
 refine aV (ι:=Nat) (fun k=>k<=r.de.length/\(r.de=q.de↔r.de.drop k=q.de.drop k)) (fun k=>[(6,.q (k:Nat)),(3,.p b2),(2,.p b1)]) (fun _=>[bE b2 (.cells #[.q q.lv,.q q.ma,.slice x1 q.sr.length Ow,.slice x2 q.de.length Ov,.slice x3 q.ti.length Ou,.slice x4 q.po.length Ot] 27 (0,0)),JQ b1 r (.slice a1 r.sr.length eo) (.slice a2 r.de.length c6) (.slice a3 r.ti.length dT) (.slice a4 r.po.length eW)]) (fun k=>r.de.length-k) ?_ ?_
 ·apply aI (0:Nat) ⟨Zi _,Iff.rfl⟩
  case hs1=>exact bS
  case ht=>
   exact .h2 .nil
 rintro k ⟨hk,hf⟩;have el:r.de.length=q.de.length:=by omega
 by_cases aK:k<r.de.length
 ·have fY:k<q.de.length:=by omega
  have cq:=jV (iq aK);have U9:=ga2 (iq fY);have aC:=(ke k _ (fR aK)).2;have lX:=(yF k _ (fR fY)).2;have hd:=kC (l:=r.de) (m:=q.de) aK fY;have gq:r.de[k]≠q.de[k]->r.de.drop k≠q.de.drop k:=fun hne e=>hne (by
   rw [Zt aK,Zt fY] at e;exact (List.cons.inj e).1)
  generalize r.de[k]=x at aC hd gq;generalize q.de[k]=y at lX hd gq;unfold De.cells at aC lX
  (refine Jq<|Jr<|Jv I<|bJ I I ae<|JL I (.there .here) I<|JI I<|JA I<|Jn<|Jd I fun az=>Jk<|Jq<|J0<|Jq ?_)
  with_reducible refine cN 10 (by kernel_rfl) ?_
  (refine lS I I ae<|aA (gX (.there .here)) I<|gn I I<|aA (fT cq az) I<|aA (iO (eZ.base aC I)) I<|lS I I ae<|aA (gX .here) I<|gn I I<|aA (an (.of I) (.of I) U9 (by omega) (by omega) aW) I<|aA (iO (eZ.base lX I)) I ?_)
  with_reducible refine cT ?_
  (refine ab (vn (.of I) (.of I) (fX (kI (Lz mJ))) I) I<|Jn<|nj I (fun az=>?_) fun az=>?_;refine Jr<|Ja I<|Jn<|Je<|Jm<|Jh<|Jh<|Jm<|Jh<|JT ?_;rotate_left;refine Jw<|Jj<|Jt<|Jg<|Jv I<|JB I (by omega)<|Ja I<|Jn ?_;rotate_right)
  ·have hne:x≠y:=by
    intro e;subst e;simp at az
   rw [decide_eq_false fun e=>gq hne (hf.1 (by rw [e]))]
  ·have he:x=y:=by
    obtain ⟨q1,q2,q3,_⟩:=az;cases x;cases y;dsimp only at q1 q2 q3;have q3:=eq_of_beq q3;subst q1;subst q2;subst q3
    rfl
   clear az;apply aH (k+1) ⟨(show k+1<=r.de.length from aK),hf.trans (hd he)⟩ (show r.de.length-(k+1)<r.de.length-k by omega)
   case hs1=>exact bS
   case ht=>
    exact .h2 .nil
 have z2:r.de=q.de:=by
  obtain rfl:k=r.de.length:=by omega
  exact hf.2 (by rw [Z1,el,Z1])
 obtain rfl:k=r.de.length:=by omega
 clear hk hf aK
 (refine Jq<|Jr<|Jv I<|bJ I I ae<|JL I (.there .here) I<|JI I<|JA I<|Jn<|Jc I fun az=>Jp<|Jl<|Jo<|Jt<|Jq<|Jr<|Ja I<|Jn<|J0 ?_)
 refine aV (ι:=Nat) (fun k=>k<=r.ti.length/\(r.ti=q.ti↔r.ti.drop k=q.ti.drop k)) (fun k=>[(7,.q (k:Nat)),(3,.p b2),(2,.p b1)]) (fun _=>[bE b2 (.cells #[.q q.lv,.q q.ma,.slice x1 q.sr.length Ow,.slice x2 q.de.length Ov,.slice x3 q.ti.length Ou,.slice x4 q.po.length Ot] 27 (0,0)),JQ b1 r (.slice a1 r.sr.length eo) (.slice a2 r.de.length c6) (.slice a3 r.ti.length dT) (.slice a4 r.po.length eW)]) (fun k=>r.ti.length-k) ?_ ?_
 ·apply aI (0:Nat) ⟨Zi _,Iff.rfl⟩
  case hs1=>exact bS
  case ht=>
   exact .h2 .nil
 rintro k ⟨hk,hf⟩;have el:r.ti.length=q.ti.length:=by omega
 by_cases aK:k<r.ti.length
 ·have fY:k<q.ti.length:=by omega
  have cq:=rN (fm aK);have U9:=ga3 (fm fY);have aC:=(oR k _ (ei aK)).2;have lX:=(Ie k _ (ei fY)).2;have hd:=kC (l:=r.ti) (m:=q.ti) aK fY;have gq:r.ti[k]≠q.ti[k]->r.ti.drop k≠q.ti.drop k:=fun hne e=>hne (by
   rw [Zt aK,Zt fY] at e;exact (List.cons.inj e).1)
  generalize r.ti[k]=x at aC hd gq;generalize q.ti[k]=y at lX hd gq;unfold Ti.cells at aC lX
  (refine Jq<|Jr<|Jv I<|bJ I I ae<|JL I (.there .here) I<|JI I<|JA I<|Jn<|Jd I fun az=>Jk<|Jq<|J0<|Jq ?_)
  with_reducible refine cN 10 (by kernel_rfl) ?_
  (refine lS I I ae<|aA (gX (.there .here)) I<|gn I I<|aA (fT cq az) I<|aA (iO (eZ.base aC I)) I<|lS I I ae<|aA (gX .here) I<|gn I I<|aA (an (.of I) (.of I) U9 (by omega) (by omega) aW) I<|aA (iO (eZ.base lX I)) I ?_)
  with_reducible refine cT ?_
  (refine ab (vn (.of I) (.of I) (fX (kI (kI mJ))) I) I<|Jn<|nj I (fun az=>?_) fun az=>?_;refine Jr<|Ja I<|Jn<|Je<|Jm<|Jh<|Jh<|Jm<|Jh<|JT ?_;rotate_left;refine Jw<|Jj<|Jt<|Jg<|Jv I<|JB I (by omega)<|Ja I<|Jn ?_;rotate_right)
  ·have hne:x≠y:=by
    intro e;subst e;simp at az
   rw [decide_eq_false fun e=>gq hne (hf.1 (by rw [e]))]
  ·have he:x=y:=by
    obtain ⟨q1,q2,q3,_⟩:=az;cases x;cases y;dsimp only at q1 q2 q3;subst q1;subst q2;subst q3
    rfl
   clear az;apply aH (k+1) ⟨(show k+1<=r.ti.length from aK),hf.trans (hd he)⟩ (show r.ti.length-(k+1)<r.ti.length-k by omega)
   case hs1=>exact bS
   case ht=>
    exact .h2 .nil
 have z3:r.ti=q.ti:=by
  obtain rfl:k=r.ti.length:=by omega
  exact hf.2 (by rw [Z1,el,Z1])
 obtain rfl:k=r.ti.length:=by omega
 clear hk hf aK
 (refine Jq<|Jr<|Jv I<|bJ I I ae<|JL I (.there .here) I<|JI I<|JA I<|Jn<|Jc I fun az=>Jp<|Jl<|Jo<|Jt<|Jq<|Jr<|Ja I<|Jn<|J0 ?_)
 refine aV (ι:=Nat) (fun k=>k<=r.po.length/\(r.po=q.po↔r.po.drop k=q.po.drop k)) (fun k=>[(8,.q (k:Nat)),(3,.p b2),(2,.p b1)]) (fun _=>[bE b2 (.cells #[.q q.lv,.q q.ma,.slice x1 q.sr.length Ow,.slice x2 q.de.length Ov,.slice x3 q.ti.length Ou,.slice x4 q.po.length Ot] 27 (0,0)),JQ b1 r (.slice a1 r.sr.length eo) (.slice a2 r.de.length c6) (.slice a3 r.ti.length dT) (.slice a4 r.po.length eW)]) (fun k=>r.po.length-k) ?_ ?_
 ·apply aI (0:Nat) ⟨Zi _,Iff.rfl⟩
  case hs1=>exact bS
  case ht=>
   exact .h2 .nil
 rintro k ⟨hk,hf⟩;have el:r.po.length=q.po.length:=by omega
 by_cases aK:k<r.po.length
 ·have fY:k<q.po.length:=by omega
  have cq:=zM (j8 aK);have U9:=ga4 (j8 fY);have aC:=(tR k _ (ie aK)).2;have lX:=(Yz k _ (ie fY)).2;have hd:=kC (l:=r.po) (m:=q.po) aK fY;have gq:r.po[k]≠q.po[k]->r.po.drop k≠q.po.drop k:=fun hne e=>hne (by
   rw [Zt aK,Zt fY] at e;exact (List.cons.inj e).1)
  generalize r.po[k]=x at aC hd gq;generalize q.po[k]=y at lX hd gq;unfold Po.cells at aC lX
  (refine Jq<|Jr<|Jv I<|bJ I I ae<|JL I (.there .here) I<|JI I<|JA I<|Jn<|Jd I fun az=>Jk<|Jq<|J0<|Jq ?_)
  with_reducible refine cN 10 (by kernel_rfl) ?_
  (refine lS I I ae<|aA (gX (.there .here)) I<|gn I I<|aA (fT cq az) I<|aA (iO (eZ.base aC I)) I<|lS I I ae<|aA (gX .here) I<|gn I I<|aA (an (.of I) (.of I) U9 (by omega) (by omega) aW) I<|aA (iO (eZ.base lX I)) I ?_)
  with_reducible refine cT ?_
  (refine ab (vn (.of I) (.of I) (kI (fX (fX mJ))) I) I<|Jn<|nj I (fun az=>?_) fun az=>?_;refine Jr<|Ja I<|Jn<|Je<|Jm<|Jh<|Jh<|Jm<|Jh<|JT ?_;rotate_left;refine Jw<|Jj<|Jt<|Jg<|Jv I<|JB I (by omega)<|Ja I<|Jn ?_;rotate_right)
  ·have hne:x≠y:=by
    intro e;subst e;simp at az
   rw [decide_eq_false fun e=>gq hne (hf.1 (by rw [e]))]
  ·have he:x=y:=by
    obtain ⟨q1,q2,q3,_⟩:=az;cases x;cases y;dsimp only at q1 q2 q3;subst q1;subst q2;subst q3
    rfl
   clear az;apply aH (k+1) ⟨(show k+1<=r.po.length from aK),hf.trans (hd he)⟩ (show r.po.length-(k+1)<r.po.length-k by omega)
   case hs1=>exact bS
   case ht=>
    exact .h2 .nil
 have z4:r.po=q.po:=by
  obtain rfl:k=r.po.length:=by omega
  exact hf.2 (by rw [Z1,el,Z1])
 obtain rfl:k=r.po.length:=by omega
 clear hk hf aK
 (refine Jq<|Jr<|Jv I<|bJ I I ae<|JL I (.there .here) I<|JI I<|JA I<|Jn<|Jc I fun az=>Jp<|Jl<|Jo<|Jt<|Jr<|Ja I<|Jn<|Je<|JT ?_)
 rw [decide_eq_true (WR.2 ⟨⟨⟨⟨⟨e1,e2⟩,z1⟩,z2⟩,z3⟩,z4⟩)]
theorem a8.Ey {P:Program} {f:FuncId} {args:List Value} {md:List Nat} {E:TypeId} {sz n:Nat} {xs:List Value} {val:Value->Value} (h:a8 P f args w md (fun _:Value=>True) val (fun v=>[row E sz v n xs])) :
  a8 P f args w md (fun _:Option Addr×Nat=>True) (fun x=>val (.slice x.1 n x.2)) (fun x=>[row E sz (.slice x.1 n x.2) n xs]):=
 Calls.mono h fun e w' ⟨v,he,_,hk,fp,hn,hs,hf⟩=>by
  have hv:∃ x:Option Addr×Nat,v=.slice x.1 n x.2:=by
   obtain ⟨f1,f2,_,⟨_,_,⟨e1,e2⟩ | ⟨g,cap,cur,e1,_⟩⟩,_⟩:=hs
   ·exact ⟨(none,0),by rw [e1,e2]⟩
   ·exact ⟨(_,cap),e1⟩
  obtain ⟨x,rfl⟩:=hv;exact ⟨x,he,trivial,hk,fp,hn,hs,hf⟩
def U8:Value->Option Addr×Nat
 | .slice a _ c=>(a,c)
 | _=>(none,0)
theorem Ff (x:Option Addr×Nat):∃ v,U8 v=x:=⟨.slice x.1 0 x.2,I⟩
theorem OS (h:Rd w kv 2 (iD l)) (hM:te w l) (hn:l.length<=1000) (hs:∀ x∈l,x.tk.so.length<=1000) :
  a8 T_ 54 [kv] w [] (fun x:Value×List fy=>bQ x.2=bQ l) (fun x=>x.1) (fun x=>[row 69 2 x.1 x.2.length (iD x.2).flatten,DY x.2]):=by
 obtain ⟨a,cp,b,o,rfl,dd,bO,ha,hc⟩:=h;rw [dI] at *;unfold maxLen at bO;refine aS func54 I I ?_;refine Jr<|Ja I<|Ji<|Ja I<|Jn<|Jq<|Jr<|Jv I<|JI I<|Jv I<|Jn<|J0 ?_;refine aN 69 2 ?_;refine jL 9 ?_
 refine aV (ι:=Nat×Value×List fy) (fun x=>x.1<=l.length/\bQ x.2.2=bQ (l.take x.1)) (fun x=>[(8,.q (x.1:Nat)),(7,.q (l.length:Nat)),(6,.slice a l.length cp),(3,x.2.1)])
  (fun x=>[row 69 2 x.2.1 x.2.2.length (iD x.2.2).flatten,iG 9 (x.2.2.map fy.v) (x.2.2.map fun y=>aR y.tk.so)]) (fun x=>l.length-x.1) ?_ ?_
 ·apply aI (0,.z,[]) ⟨Zi _,I⟩
  case hs1=>exact bS
  case ht=>
   exact .cons (.there .here) (.h1 .nil)
 rintro ⟨k,v,W⟩ ⟨hk,hW⟩;dsimp only at hk hW ⊢;have Og:W.length=k:=by
  have:=congrArg List.length hW;unfold bQ at this;rw [Zd,Zd,Zs] at this;omega
 by_cases aK:k<l.length
 ·have cq:=ha (jM aK);have aC:=(hc k _ (j7 aK)).2;have hx:=hM _ (Zj aK);have Qg:=hs _ (Zj aK);have htk:bQ (l.take (k+1))=bQ (l.take k)++[l[k].tk]:=by
   unfold bQ;rw [Zl aK,Zv];rfl
  have sK:(iD W).flatten.length=W.length*2:=by rw [fv (Ay W),dI]
  have fo:=Rd.one hx;unfold fy.cells at aC;generalize l[k]=x at aC hx Qg htk fo;obtain ⟨⟨xd,xs⟩,xv⟩:=x;dsimp only at aC hx Qg htk fo;have Xk:∀ w',aJ [] w w'->a8 T_ 72 [xv] w' [] (fun _:Option Addr×Nat=>True) (fun z=>.slice z.1 xs.length z.2) (fun z=>[row 9 1 (.slice z.1 xs.length z.2) xs.length (aR xs)]):=fun w' hk=>a8.Ey (val:=id) (FN (hx.keeps hk) (by omega))
  refine aM (E:=69) (sz:=2) (v:=v) (by exact .here) fun va vc e=>?_;subst e
  (refine Jr<|JA I<|Jn<|Jq<|Jd I fun az=>Jk<|Jq<|J0<|Jr<|ab (fT cq az) I<|ab (iO (eZ.base aC I)) I<|Jz I I fun _ _=>ao (.of I) (.of I) .here I I (gO I fo) (bz I) ak<|Jn ?_)
  with_reducible refine dE 8 (by kernel_rfl) ?_
  (refine au (fun β=>(aP (.of I))) bh I<|au (fun β=>(aq (.of I) ae)) bh I<|au (fun β=>(ag (.of I) (At.lit .here I))) bh I<|au (fun β=>(aq (.of I) ae)) bh I<|au (fun β=>(ag (.of I) (At.lit .here I))) bh I ?_)
  dsimp only [Nat.zero_add,Nat.reduceAdd]
  with_reducible apply eB (ι:=Option Addr×Nat) (Φ:=fun _=>True) (val:=fun z=>.slice z.1 xs.length z.2) (own:=fun z=>[row 9 1 (.slice z.1 xs.length z.2) xs.length (aR xs)]) (g:=U8) (B:=[]) (args:=fun _=>[xv])
  case hg=>exact Ff
  case hB=>rfl
  case hr=>exact fun β=>a7 (.of I) (.o I .nil) inferInstance I
  case hd=>rfl
  case hc=>exact fun β w' hb=>Xk w' hb.mem.keeps
  dsimp only [Nat.reduceAdd]
  with_reducible apply au
  case hr=>(intro β;exact aU (.o I (.o I .nil)) ak)
  case hi=>exact fun β β' h=>by simp only [h 5 (by kernel_rfl)]
  case hd=>rfl
  dsimp only [Nat.reduceAdd]
  with_reducible apply kE
  case hr=>(intro β;exact bn (.o I .nil) I I bH bH ak)
  case hi=>exact fun β β' h=>by simp only [h 5 (by decide) (by kernel_rfl)]
  case hd=>rfl
  dsimp only [Nat.reduceAdd];refine eS fun β=>?_;dsimp only [dY,Za,Zb,List.append_eq,Nat.reduceAdd];generalize fu (β 7)=b7;generalize U8 (β 5)=y;obtain ⟨ya,yc⟩:=y;clear β;dsimp only;refine bI (rs:=[8]) (by kernel_rfl) (by simp) (Zq.2 ⟨?_,fun _ h=>absurd h Zo⟩);refine bP I ?_;refine bu (.of I) (.of I) cX (.there .here) ak (by rfl) (gO I I) (by rfl) (by rfl) (by rfl) ed (by rfl) ?_;intro v';refine Jn ?_;refine bI (rs:=[9]) (by kernel_rfl) (by simp) (Zq.2 ⟨?_,fun _ h=>absurd h Zo⟩);refine bP I ?_;refine Ja I<|Jn ?_
  with_reducible refine cu (by kernel_rfl) ?_
  refine Jj<|Jt<|Jg<|JB I (by omega)<|Jv I<|Jn ?_;have XE:(aR xs).length=xs.length:=dj xs
  with_reducible apply ku (E:=9) (vs:=W.map fy.v) (xs:=W.map fun y=>aR y.tk.so) (v:=.slice ya xs.length yc) (x:=aR xs) (n:=xs.length)
  case ht=>exact dD
  case ht2=>exact Take.there .here
  case hn=>exact XE.symm
  case hl=>rw [Zd,Zd]
  case k=>
   apply aH (k+1,v',W++[⟨⟨xd,xs⟩,.slice ya xs.length yc⟩]) ⟨by show k+1<=_;omega,by
    show bQ (W++[_])=_;unfold bQ at hW htk ⊢;rw [Zv,hW];exact htk.symm⟩ (by show l.length-(k+1)<l.length-k;omega)
   case hs1=>exact bS
   case ht=>
    dsimp only;rw [Az,Zg,Zv,Zv];simp only [Z3,Zf,ZA,Zaa,ZD];exact .cons (.there .here) (.h1 .nil)
 ·have e:k=l.length:=by omega
  rw [e,ZK] at hW;refine aM (E:=69) (sz:=2) (v:=v) (by exact .here) fun va vc e=>?_;subst e;refine Jr<|JA I<|Jn<|Jq<|Jc I fun az=>Jp<|Jl<|Jo<|Jt<|Jr<|Jv I<|Ja I<|Jn<|Je ?_
  with_reducible first|apply aO|apply aQ
  case he=>exact dB I I
  case hR=>
   intro w' aB;exact aD (.slice va W.length vc,W) hW (by exact .h2 .nil) aB I
theorem QL (h:Rd w kv 2 (iD l)) (hM:te w l) (hn:l.length<=1000) (hs:∀ x∈l,x.tk.so.length<=1000) :
  a8 T_ 46 [kv] w [] (fun x:Value×List fy=>bQ x.2=bQ l) (fun x=>x.1) (fun x=>[row 78 2 x.1 x.2.length (iD x.2).flatten,DY x.2]):=by
 obtain ⟨a,cp,b,o,rfl,dd,bO,ha,hc⟩:=h;rw [dI] at *;unfold maxLen at bO;refine aS func46 I I ?_;refine Jr<|Ja I<|Ji<|Ja I<|Jn<|Jq<|Jr<|Jv I<|JI I<|Jv I<|Jn<|J0 ?_;refine aN 78 2 ?_;refine jL 9 ?_
 refine aV (ι:=Nat×Value×List fy) (fun x=>x.1<=l.length/\bQ x.2.2=bQ (l.take x.1)) (fun x=>[(8,.q (x.1:Nat)),(7,.q (l.length:Nat)),(6,.slice a l.length cp),(3,x.2.1)])
  (fun x=>[row 78 2 x.2.1 x.2.2.length (iD x.2.2).flatten,iG 9 (x.2.2.map fy.v) (x.2.2.map fun y=>aR y.tk.so)]) (fun x=>l.length-x.1) ?_ ?_
 ·apply aI (0,.z,[]) ⟨Zi _,I⟩
  case hs1=>exact bS
  case ht=>
   exact .cons (.there .here) (.h1 .nil)
 rintro ⟨k,v,W⟩ ⟨hk,hW⟩;dsimp only at hk hW ⊢;have Og:W.length=k:=by
  have:=congrArg List.length hW;unfold bQ at this;rw [Zd,Zd,Zs] at this;omega
 by_cases aK:k<l.length
 ·have cq:=ha (jM aK);have aC:=(hc k _ (j7 aK)).2;have hx:=hM _ (Zj aK);have Qg:=hs _ (Zj aK);have htk:bQ (l.take (k+1))=bQ (l.take k)++[l[k].tk]:=by
   unfold bQ;rw [Zl aK,Zv];rfl
  have sK:(iD W).flatten.length=W.length*2:=by rw [fv (Ay W),dI]
  have fo:=Rd.one hx;unfold fy.cells at aC;generalize l[k]=x at aC hx Qg htk fo;obtain ⟨⟨xd,xs⟩,xv⟩:=x;dsimp only at aC hx Qg htk fo;have Xk:∀ w',aJ [] w w'->a8 T_ 72 [xv] w' [] (fun _:Option Addr×Nat=>True) (fun z=>.slice z.1 xs.length z.2) (fun z=>[row 9 1 (.slice z.1 xs.length z.2) xs.length (aR xs)]):=fun w' hk=>a8.Ey (val:=id) (FN (hx.keeps hk) (by omega))
  refine aM (E:=78) (sz:=2) (v:=v) (by exact .here) fun va vc e=>?_;subst e
  (refine Jr<|JA I<|Jn<|Jq<|Jd I fun az=>Jk<|Jq<|J0<|Jr<|ab (fT cq az) I<|ab (iO (eZ.base aC I)) I<|Jz I I fun _ _=>ao (.of I) (.of I) .here I I (gO I fo) (bz I) ak<|Jn ?_)
  with_reducible refine dE 8 (by kernel_rfl) ?_
  (refine au (fun β=>(aP (.of I))) bh I<|au (fun β=>(aq (.of I) ae)) bh I<|au (fun β=>(ag (.of I) (At.lit .here I))) bh I<|au (fun β=>(aq (.of I) ae)) bh I<|au (fun β=>(ag (.of I) (At.lit .here I))) bh I ?_)
  dsimp only [Nat.zero_add,Nat.reduceAdd]
  with_reducible apply eB (ι:=Option Addr×Nat) (Φ:=fun _=>True) (val:=fun z=>.slice z.1 xs.length z.2) (own:=fun z=>[row 9 1 (.slice z.1 xs.length z.2) xs.length (aR xs)]) (g:=U8) (B:=[]) (args:=fun _=>[xv])
  case hg=>exact Ff
  case hB=>rfl
  case hr=>exact fun β=>a7 (.of I) (.o I .nil) inferInstance I
  case hd=>rfl
  case hc=>exact fun β w' hb=>Xk w' hb.mem.keeps
  dsimp only [Nat.reduceAdd]
  with_reducible apply au
  case hr=>(intro β;exact aU (.o I (.o I .nil)) ak)
  case hi=>exact fun β β' h=>by simp only [h 5 (by kernel_rfl)]
  case hd=>rfl
  dsimp only [Nat.reduceAdd]
  with_reducible apply kE
  case hr=>(intro β;exact bn (.o I .nil) I I bH bH ak)
  case hi=>exact fun β β' h=>by simp only [h 5 (by decide) (by kernel_rfl)]
  case hd=>rfl
  dsimp only [Nat.reduceAdd];refine eS fun β=>?_;dsimp only [dY,Za,Zb,List.append_eq,Nat.reduceAdd];generalize fu (β 7)=b7;generalize U8 (β 5)=y;obtain ⟨ya,yc⟩:=y;clear β;dsimp only;refine bI (rs:=[8]) (by kernel_rfl) (by simp) (Zq.2 ⟨?_,fun _ h=>absurd h Zo⟩);refine bP I ?_;refine bu (.of I) (.of I) cX (.there .here) ak (by rfl) (gO I I) (by rfl) (by rfl) (by rfl) ed (by rfl) ?_;intro v';refine Jn ?_;refine bI (rs:=[9]) (by kernel_rfl) (by simp) (Zq.2 ⟨?_,fun _ h=>absurd h Zo⟩);refine bP I ?_;refine Ja I<|Jn ?_
  with_reducible refine cu (by kernel_rfl) ?_
  refine Jj<|Jt<|Jg<|JB I (by omega)<|Jv I<|Jn ?_;have XE:(aR xs).length=xs.length:=dj xs
  with_reducible apply ku (E:=9) (vs:=W.map fy.v) (xs:=W.map fun y=>aR y.tk.so) (v:=.slice ya xs.length yc) (x:=aR xs) (n:=xs.length)
  case ht=>exact dD
  case ht2=>exact Take.there .here
  case hn=>exact XE.symm
  case hl=>rw [Zd,Zd]
  case k=>
   apply aH (k+1,v',W++[⟨⟨xd,xs⟩,.slice ya xs.length yc⟩]) ⟨by show k+1<=_;omega,by
    show bQ (W++[_])=_;unfold bQ at hW htk ⊢;rw [Zv,hW];exact htk.symm⟩ (by show l.length-(k+1)<l.length-k;omega)
   case hs1=>exact bS
   case ht=>
    dsimp only;rw [Az,Zg,Zv,Zv];simp only [Z3,Zf,ZA,Zaa,ZD];exact .cons (.there .here) (.h1 .nil)
 ·have e:k=l.length:=by omega
  rw [e,ZK] at hW;refine aM (E:=78) (sz:=2) (v:=v) (by exact .here) fun va vc e=>?_;subst e;refine Jr<|JA I<|Jn<|Jq<|Jc I fun az=>Jp<|Jl<|Jo<|Jt<|Jr<|Jv I<|Ja I<|Jn<|Je ?_
  with_reducible first|apply aO|apply aQ
  case he=>exact dB I I
  case hR=>
   intro w' aB;exact aD (.slice va W.length vc,W) hW (by exact .h2 .nil) aB I
def c7:ByteArray:=⟨#[99,97,109]⟩
def ll:ByteArray:=⟨#[118,116,114]⟩
def oJ:ByteArray:=⟨#[109,111,110]⟩
def dW:ByteArray:=⟨#[97,105,114]⟩
def jN:ByteArray:=⟨#[114,101,99]⟩
def nT:ByteArray:=⟨#[116]⟩
def nU:ByteArray:=⟨#[117]⟩
def mU:Ro:=⟨2,2,[⟨c7,0⟩,⟨ll,1⟩],[⟨oJ,0,false⟩,⟨dW,1,false⟩,⟨jN,1,false⟩],[⟨nT,0,1⟩,⟨nU,0,1⟩],[]⟩
def oO:Tk:=⟨dW,[c7,c7]⟩
def VP:Tk:=⟨jN,[c7,⟨#[]⟩]⟩
def oN:Tk:=⟨dW,[ll,ll]⟩
def pl1:List Po:=[⟨0,dW,nT⟩,⟨0,nT,c7⟩,⟨1,dW,nT⟩,⟨1,nT,c7⟩]
def pl2:List Po:=[⟨0,dW,nT⟩,⟨0,jN,nT⟩,⟨0,nT,c7⟩,⟨1,dW,nT⟩,⟨1,nT,c7⟩]
def pl4:List Po:=[⟨0,dW,ll⟩,⟨0,jN,nT⟩,⟨0,nT,c7⟩,⟨1,dW,ll⟩]
def gU:Ro:={ mU with po:=pl1 }
def iM:Ro:={ mU with po:=pl2 }
def xV:Ro:={ mU with po:=pl4 }
def EA:Ro:=gU.Lh oJ true
theorem YK:gy mU=0:=by kernel_rfl
theorem Sz:Hh mU 0 c7 dW=0/\Eg mU 0 c7 dW=[nT]:=⟨by kernel_rfl,by kernel_rfl⟩
theorem YI:jY mU [oO]=(gU,0,0):=by kernel_rfl
theorem YH:jY gU [VP]=(iM,0,0):=by kernel_rfl
theorem SF:jY iM [oN]=(xV,0,0):=by kernel_rfl
theorem YF:OE iM [oN]=[oO]:=by kernel_rfl
theorem Sy:Hh mU 0 ll oJ=18/\Eg mU 0 ll oJ=[]:=⟨by kernel_rfl,by kernel_rfl⟩
theorem SH:Nf mU 0 ll oJ=0/\Ip mU 0 ll oJ=[1]:=⟨by kernel_rfl,by kernel_rfl⟩
theorem YL:ctX mU 0 ll oJ [0]=19:=by kernel_rfl
theorem YJ:Mo iM jN=0/\H5 iM jN=[c7,⟨#[]⟩]:=⟨by kernel_rfl,by kernel_rfl⟩
theorem SB:Kn gU 0 dW=0/\Hp gU 0 dW=[c7,nT,dW]:=⟨by kernel_rfl,by kernel_rfl⟩
theorem SI:Nw gU 0=0/\Iy gU 0=[nT]:=⟨by kernel_rfl,by kernel_rfl⟩
theorem SA:Kf iM 0 c7=0/\Hk iM 0 c7=[dW,jN]:=⟨by kernel_rfl,by kernel_rfl⟩
theorem SG:zr gU oJ=0/\zq gU oJ true=EA:=⟨by kernel_rfl,by kernel_rfl⟩
theorem YG:(jY EA [⟨jN,[⟨#[45]⟩,⟨#[]⟩]⟩,⟨oJ,[c7,c7]⟩]).2=(1,31):=by kernel_rfl
theorem SE:oI mU [⟨10,[oO]⟩,⟨12,[oN]⟩] dW 9=0/\q7 mU [⟨10,[oO]⟩,⟨12,[oN]⟩] dW 9=[⟨#[]⟩,⟨#[]⟩]:=⟨by kernel_rfl,by kernel_rfl⟩
theorem SD:oI mU [⟨10,[oO]⟩,⟨12,[oN]⟩] dW 11=0/\q7 mU [⟨10,[oO]⟩,⟨12,[oN]⟩] dW 11=[c7,c7]:=⟨by kernel_rfl,by kernel_rfl⟩
theorem SC:oI mU [⟨10,[oO]⟩,⟨12,[oN]⟩] dW 12=0/\q7 mU [⟨10,[oO]⟩,⟨12,[oN]⟩] dW 12=[ll,ll]:=⟨by kernel_rfl,by kernel_rfl⟩
theorem Vd:Lg mU=⟨#[114,111,117,116,101,114,32,50,32,50,10,115,111,117,114,99,101,32,99,97,109,32,48,10,115,111,117,114,99,101,32,118,116,114,32,49,10,100,101,115,116,105,110,97,116,105,111,110,32,109,111,110,32,48,32,102,114,101,101,10,100,101,115,116,105,110,97,116,105,111,110,32,97,105,114,32,49,32,102,114,101,101,10,100,101,115,116,105,110,97,116,105,111,110,32,114,101,99,32,49,32,102,114,101,101,10,116,105,101,32,116,32,48,32,49,10,116,105,101,32,117,32,48,32,49,10]⟩:=by kernel_rfl
theorem QZ (w:World):a8 T_ 105 [] w [] (fun _:Value×Value×Value×Value=>True) (fun x=>RA mU x.1 x.2.1 x.2.2.1 x.2.2.2) (fun x=>vh mU x):=by
 unfold RA;refine aS func105 I I ?_
 (refine Jr<|Jz I I fun _ _=>Ji<|ab (aU (.o I .nil) ak) I<|ab (aU (.o I (.o I .nil)) ak) I<|bj (bn (.o I (.o I .nil)) I I bH bH ak) I fun _ _=>ab (aU (.o I .nil) ak) I<|ab (aU (.o I (.o I .nil)) ak) I<|ab (aU (.o I (.o I .nil)) ak) I<|bj (bn (.o I (.o I (.o I .nil))) I I bH bH ak) I fun _ _=>ab (aU (.o I (.o I .nil)) ak) I<|ab (aU (.o I (.o I .nil)) ak) I<|bj (bn (.o I (.o I .nil)) I I bH bH ak) I fun _ _=>ab (aU (.o I (.o I (.o I (.o I (.o I .nil))))) ak) I<|ao (.of I) (.of I) cX I I (eF I I I I I I) (bz I) ak<|Jn<|Je ?_)
 rename_i b0 hb0 b1 tT b2 rM b3 tr;refine bU (g:=b1) (E:=186) (ys:=ko mU.sr) 2 2 cX (by exact I) I I ?_;refine bU (g:=b2) (E:=90) (ys:=jt mU.de) 3 3 cX (by exact I) I I ?_;refine bU (g:=b3) (E:=187) (ys:=kz mU.ti) 2 3 cX (by exact I) I I ?_;refine aN 188 3 ?_
 with_reducible first|apply aO|apply aQ
 case he=>exact iK I inferInstance I dD ak (by rfl)
 case hR=>
  intro w' aB;exact aD (.w b1 2 2,.w b2 3 3,.w b3 2 2,.z) trivial (by exact .cons cX (.cons bL (.cons (.there .here) (.h1 .nil)))) aB I
theorem Vg (w:World):a8 T_ 106 [] w [] (fun _:Option Addr×Nat=>True) (fun x=>.agg (fy.cells ⟨oO,.slice x.1 2 x.2⟩).toArray) (fun x=>[row 9 1 (.slice x.1 2 x.2) 2 (aR oO.so)]):=by
 unfold fy.cells;refine aS func106 I I ?_
 (refine Jr<|Jz I I fun _ _=>Ji<|bj (aG (.o I (.o I .nil)) I I I I) I fun _ _=>ab (aU (.o I (.o I .nil)) ak) I<|ao (.of I) (.of I) (.there .here) I I (gO I I) (bz I) ak<|Jn<|Je ?_)
 rename_i b0 hb0 b1 tT;refine bU (g:=b1) (E:=9) (ys:=aR oO.so) 2 1 (by exact Take.there .here) (by exact I) I I ?_
 with_reducible first|apply aO|apply aQ
 case he=>exact iK I inferInstance I (.there .here) ak (by rfl)
 case hR=>
  intro w' aB;exact aD (some ⟨b1,0,none⟩,2) trivial (by exact .h1 .nil) aB I
theorem Vf (w:World):a8 T_ 107 [] w [] (fun _:Option Addr×Nat=>True) (fun x=>.agg (fy.cells ⟨VP,.slice x.1 2 x.2⟩).toArray) (fun x=>[row 9 1 (.slice x.1 2 x.2) 2 (aR VP.so)]):=by
 unfold fy.cells;refine aS func107 I I ?_
 (refine Jr<|Jz I I fun _ _=>Ji<|bj (aG (.o I (.o I .nil)) I I I I) I fun _ _=>ab (aU (.o I (.o I .nil)) ak) I<|ao (.of I) (.of I) (.there .here) I I (gO I I) (bz I) ak<|Jn<|Je ?_)
 rename_i b0 hb0 b1 tT;refine bU (g:=b1) (E:=9) (ys:=aR VP.so) 2 1 (by exact Take.there .here) (by exact I) I I ?_
 with_reducible first|apply aO|apply aQ
 case he=>exact iK I inferInstance I (.there .here) ak (by rfl)
 case hR=>
  intro w' aB;exact aD (some ⟨b1,0,none⟩,2) trivial (by exact .h1 .nil) aB I
theorem Ve (w:World):a8 T_ 108 [] w [] (fun _:Option Addr×Nat=>True) (fun x=>.agg (fy.cells ⟨oN,.slice x.1 2 x.2⟩).toArray) (fun x=>[row 9 1 (.slice x.1 2 x.2) 2 (aR oN.so)]):=by
 unfold fy.cells;refine aS func108 I I ?_
 (refine Jr<|Jz I I fun _ _=>Ji<|bj (aG (.o I (.o I .nil)) I I I I) I fun _ _=>ab (aU (.o I (.o I .nil)) ak) I<|ao (.of I) (.of I) (.there .here) I I (gO I I) (bz I) ak<|Jn<|Je ?_)
 rename_i b0 hb0 b1 tT;refine bU (g:=b1) (E:=9) (ys:=aR oN.so) 2 1 (by exact Take.there .here) (by exact I) I I ?_
 with_reducible first|apply aO|apply aQ
 case he=>exact iK I inferInstance I (.there .here) ak (by rfl)
 case hR=>
  intro w' aB;exact aD (some ⟨b1,0,none⟩,2) trivial (by exact .h1 .nil) aB I
instance :DecidableEq Tk:=fun a b=>decidable_of_iff (a.de=b.de/\a.so=b.so) (by cases a;cases b;simp)
theorem WN (hm:Mem c hs w) (ht:bB hs (vh r x) hs'):RR w r x.1 x.2.1 x.2.2.1 x.2.2.2:=by
 have ni:=hm.jj ht;exact ⟨cG ni .here I,cI ni (.there .here) I,cF ni bL I,ct ni cX I⟩
theorem RN (hm:Mem c hs w) (ht:bB hs (nQ r x) hs'):RR w r x.1 x.2.1 x.2.2.1 x.2.2.2:=by
 have ni:=hm.jj ht;exact ⟨cG ni .here I,cI ni (.there .here) I,cF ni bL I,ct ni cX I⟩
theorem iC {D:List Nat} {sl:aL} {X:Act->World->Prop} {s d t p:Value} (ht:bB hs (nQ r (s,d,t,p)) hs')
  (k:s.oneCell'=true->d.oneCell'=true->t.oneCell'=true->p.oneCell'=true->Tr c D sl (row 118 2 s r.sr.length (ko r.sr)::row 88 3 d r.de.length (jt r.de)::row 122 3 t r.ti.length (kz r.ti)::row 180 3 p r.po.length (gl r.po)::hs') X):Tr c D sl hs X:=by
 intro a w ba;have hm:=ba.mem.jj (ht.append (nB D));have k2:Tr c D sl (row 118 2 s r.sr.length (ko r.sr)::row 88 3 d r.de.length (jt r.de)::row 122 3 t r.ti.length (kz r.ti)::row 180 3 p r.po.length (gl r.po)::hs') X:=by
  refine aM (E:=118) (sz:=2) (v:=s) .here fun _ _ e=>?_;have k1:s.oneCell'=true:=by rw [e];rfl
  clear e;refine aM (E:=88) (sz:=3) (v:=d) (.there .here) fun _ _ e=>?_;have k2:d.oneCell'=true:=by rw [e];rfl
  clear e;refine aM (E:=122) (sz:=3) (v:=t) bL fun _ _ e=>?_;have k3:t.oneCell'=true:=by rw [e];rfl
  clear e;refine aM (E:=180) (sz:=3) (v:=p) cX fun _ _ e=>?_;have k4:p.oneCell'=true:=by rw [e];rfl
  clear e;exact k k1 k2 k3 k4
 exact k2 a w (ba.heap hm)
theorem DS {l m:List fy} (h1:Rd w v1 2 (iD l)) (hM1:te w l) (h2:Rd w v2 2 (iD m)) (hM2:te w m) :
  aj T_ 53 [v1,v2] w (.bool (decide (bQ l=bQ m))):=by
 obtain ⟨a1,YO,b1,o1,rfl,oC,ix,mm,kL⟩:=h1;obtain ⟨a2,oS,b2,o2,rfl,kd,eU,jV,ke⟩:=h2;rw [dI] at *;rw [dI] at *;unfold maxLen at ix eU;refine ah func53 I I ?_
 (refine Jr<|Ja I<|Jn<|Jq<|Jr<|Jv I<|JI I<|Jv I<|JI I<|JD I<|Jn<|gm I (fun az=>?_) fun az=>?_;refine Jr<|Ja I<|Jn<|Ju<|JT ?_;rotate_left;refine Jk<|Jq<|Jr<|Ja I<|Jn<|J0 ?_;rotate_right)
 ·rw [decide_eq_false fun e=>az (by have:=congrArg List.length e;unfold bQ at this;rw [Zd,Zd] at this;rw [this])]
 have XP:l.length=m.length:=by omega
 refine aV (ι:=Nat) (fun k=>k<=l.length/\(bQ l=bQ m↔bQ (l.drop k)=bQ (m.drop k))) (fun k=>[(5,.q (k:Int)),(0,.slice a1 l.length YO),(1,.slice a2 m.length oS)]) (fun _=>[]) (fun k=>l.length-k) ?_ ?_
 ·apply aI (0:Nat) ⟨Zi _,Iff.rfl⟩
  case hs1=>exact bS
  case ht=>(try simp only [Ze,Zf,Za]);exact .nil
 rintro k ⟨hk,hf⟩;by_cases aK:k<l.length
 ·have fY:k<m.length:=by omega
  have xl:=mm (jM aK);have qI:=jV (jM fY);have lW:=(kL k _ (j7 aK)).2;have fF:=(ke k _ (j7 fY)).2;have x1:=hM1 _ (Zj aK);have x2:=hM2 _ (Zj fY);have hd:bQ (l.drop k)=bQ (m.drop k)↔(l[k].tk=m[k].tk/\bQ (l.drop (k+1))=bQ (m.drop (k+1))):=by
   rw [Zt aK,Zt fY];unfold bQ;rw [Z3,Z3];exact List.cons_eq_cons
  rw [hd] at hf;clear hd;unfold fy.cells at lW fF;generalize l[k]=x at lW x1 hf;generalize m[k]=y at fF x2 hf;obtain ⟨⟨xd,xs⟩,xv⟩:=x;obtain ⟨⟨yd,ys⟩,yv⟩:=y;dsimp only at lW fF x1 x2 hf;have c1:w.cell? ⟨b1,o1+k*2,none⟩=some (.string xd):=lW 0 _ I;have c2:w.cell? ⟨b2,o2+k*2,none⟩=some (.string yd):=fF 0 _ I;have c3:w.cell? ⟨b1,o1+k*2+1,none⟩=some xv:=lW 1 _ I;have c4:w.cell? ⟨b2,o2+k*2+1,none⟩=some yv:=fF 1 _ I;have hsw:∀ w',aJ [] w w'->aj T_ 58 [xv,yv] w' (.bool (decide (xs=ys))):=fun w' hk=>AI (x1.keeps hk) (x2.keeps hk)
  refine Jq<|Jr<|Jv I<|Jv I<|JI I<|JA I<|Jn<|Jd I fun az=>Jk<|Jq<|J0<|Jq ?_
  with_reducible refine cN 25 (by kernel_rfl) ?_
  (refine gn I I<|gn I I<|aA (fT xl az) I<|lS I I ae<|aA (ag (.of I) (At.base c1 I)) I<|gn I I<|gn I I<|aA (an (.of I) (.of I) qI (by omega) (by omega) aW) I<|lS I I ae<|aA (ag (.of I) (At.base c2 I)) I<|aA (fN (.of I) (.of I)) I<|gn I I<|bN I I inferInstance (fun hg br=>(aP (.of I))) I<|bN I I inferInstance (fun hg br=>(aP (.of I))) I<|bN I I inferInstance (fun hg br=>(an (.bF hg I) (.bF hg I) xl (by omega) az aW)) I<|bN I I inferInstance (fun hg br=>(aq (.bF hg I) ae)) I<|bN I I inferInstance (fun hg br=>(ag (.bF hg I) (At.base c3 I))) I<|bN I I inferInstance (fun hg br=>(aP (.of I))) I<|bN I I inferInstance (fun hg br=>(aP (.of I))) I<|bN I I inferInstance (fun hg br=>(an (.bF hg I) (.bF hg I) qI (by omega) (by omega) aW)) I<|bN I I inferInstance (fun hg br=>(aq (.bF hg I) ae)) I<|bN I I inferInstance (fun hg br=>(ag (.bF hg I) (At.base c4 I))) I<|oy I I (fun hg=>(a7 (.of I) (.cons (.bF hg I) (.cons (.bF hg I) .nil)) inferInstance dZ)) I (fun hg w' aB=>(hsw w' (Mem.keeps aB)))<|bN I I inferInstance (fun hg br=>(dN (.bF hg I))) I<|aA (bA (.of I) I) I ?_)
  with_reducible refine cT ?_
  (refine Jn<|nj I (fun az=>?_) fun az=>?_;refine Jr<|Ja I<|Jn<|Je<|Jm<|Jh<|Jh<|Jm<|Jh<|JT ?_;rotate_left;refine Jw<|Jj<|Jt<|Jg<|Jv I<|JB I (by omega)<|Ja I<|Jn ?_;rotate_right)
  ·have hne:¬ bQ l=bQ m:=fun e=>by
    obtain ⟨e1,_⟩:=hf.1 e;injection e1 with e2 e3
    rcases az with h | h
    ·exact h e2
    ·exact h e3
   rw [decide_eq_false hne]
  ·obtain ⟨q1,q2⟩:=az;have q1:=Zp.1 q1;subst q1;subst q2;clear hsw;apply aH (k+1) ⟨(show k+1<=l.length from aK),hf.trans ⟨fun e=>e.2,fun e=>⟨I,e⟩⟩⟩ (show l.length-(k+1)<l.length-k by omega)
   case hs1=>exact bS
   case ht=>(try simp only [Ze,Zf,Za]);exact .nil
 ·obtain rfl:k=l.length:=by omega
  have:bQ l=bQ m:=hf.2 (by rw [Z1,XP,Z1]);refine Jq<|Jr<|Jv I<|Jv I<|JI I<|JA I<|Jn<|Jc I fun az=>Jp<|Jl<|Jo<|Jt<|Jr<|Ja I<|Jn<|Je<|JT ?_;rw [decide_eq_true this]
theorem Ll {s d t p v:Value} {q:List Po} (h:RR w r s d t p) (cZ:jv r) (hv:Rd w v 3 (tG q)):aj T_ 110 [RA r s d t p,v] w (.bool (decide (r.po=q))):=by
 obtain ⟨h1,h2,h3,h4⟩:=h.one;have hv2:=hv;obtain ⟨av,cv,bv,ov,rfl,_,_,_,_⟩:=hv2;rw [cR] at *;have ht:∀ w',aJ [] w w'->a8 T_ 57 [.agg #[.int .i64 r.lv,.int .i64 r.ma,s,d,t,p]] w' [] (fun _:Value×Value×Value×Value=>True) (fun x=>RA r x.1 x.2.1 x.2.2.1 x.2.2.2) (fun x=>nQ r x):=fun w' hk=>Av (h.keeps hk) cZ
 unfold RA at ht ⊢;refine ah func110 I I ?_;refine Jr<|Jy I I fun _ _=>Ja I<|Ji<|ab (cm .here) I ?_;refine JN bM I (fun w1 aT=>ht w1 aT.keeps) ?_;rintro ⟨s1,d1,t1,p1⟩ _;dsimp only
 try unfold RA
 refine iC (r:=r) (s:=s1) (d:=d1) (t:=t1) (p:=p1) (bo _ _) fun k1 k2 k3 k4=>?_
 (refine Jz I I fun _ _=>ao (.of I) (.of I) .here I I (eF I I k1 k2 k3 k4) (bz I) ak<|Ji<|Jv I<|bJ I I ae<|ao (.of I) (.of I) .here I I (dR I) (bz I) ak<|Jn<|Jq ?_)
 with_reducible refine dE 5 (by kernel_rfl) ?_
 refine au (fun β=>(bK (.of I) eu ak (by rfl))) bh I ?_;dsimp only [Nat.zero_add,Nat.reduceAdd]
 with_reducible apply eB (ι:=Value×Value×Value×Value) (Φ:=fun _=>True) (val:=fun x=>.agg #[.q r.lv,.q r.ma,x.1,x.2.1,x.2.2.1,x.2.2.2]) (own:=fun x=>nQ r x) (g:=g4) (B:=[]) (args:=fun _=>[.agg #[.q r.lv,.q r.ma,s,d,t,p]])
 case hg=>exact pJ
 case hB=>rfl
 case hr=>exact fun β=>a7 (.of I) (.o I .nil) inferInstance I
 case hd=>rfl
 case hc=>exact fun β w' hb=>ht w' hb.mem.keeps
 dsimp only [Nat.reduceAdd];refine au (fun β=>(bK (.of I) .here ak (by rfl))) bh I ?_;dsimp only [Nat.reduceAdd]
 with_reducible apply dq (B:=[1]) (F:=fun _=>.bool (decide (r={ r with po:=q }))) (args:=fun β=>[.agg #[.q r.lv,.q r.ma,(g4 (β 1)).1,(g4 (β 1)).2.1,(g4 (β 1)).2.2.1,(g4 (β 1)).2.2.2],.agg #[.q r.lv,.q r.ma,s1,d1,t1,.slice av q.length cv]])
 case hB=>kernel_rfl
 case hr=>exact fun β=>a7 (.of I) (.o I (.o I .nil)) inferInstance I
 case hi=>exact bh
 case hd=>rfl
 case hc=>
  intro β w' dK;have m1:=dK.at 1 Zu (s:=⟨fun β=>.agg #[.q r.lv,.q r.ma,(g4 (β 1)).1,(g4 (β 1)).2.1,(g4 (β 1)).2.2.1,(g4 (β 1)).2.2.2],fun β=>nQ r (g4 (β 1))⟩) (by kernel_rfl)
  dsimp only at m1;have hk:=dK.mem.keeps;have r1:=RN m1 (bo _ _);have m2:=dK.mem;have r2:RR w' { r with po:=q } s1 d1 t1 (.slice av q.length cv):=⟨cG m2 (by exact Take.there .here) I,cI m2 bL I,cF m2 cX I,hv.keeps hk⟩
  exact FF r1 r2
 refine au (fun β=>(cM (.of I))) bh I ?_;refine eS fun β=>?_;dsimp only [dY,Za,Zb,List.append_eq,Nat.reduceAdd]
 with_reducible refine cu (by kernel_rfl) ?_
 refine Jt<|Je<|JT ?_;have e:(r={ r with po:=q })↔r.po=q:=⟨fun e=>congrArg Ro.po e,fun e=>by cases r;subst e;rfl⟩
 rw [decide_eq_decide.2 e]
end Go.Proofs.A1
