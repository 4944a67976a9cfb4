/- Parts of the proof: LY P6c P6e LZ MA MB MC PS P6d MD ME MF PC MG MH MI P6f P6g ML MM MN. -/
import Derived.Test.YteonnodafmegaaaGreatDoorOM13
import Derived.Test.YteonnodafmegaaaGreatDoorOM04
import Derived.Test.YteonnodafmegaaaGreatDoorOM10
import Derived.Test.YteonnodafmegaaaGreatDoorOM12
import Derived.Test.YteonnodafmegaaaGreatDoorOM06
import Derived.Test.YteonnodafmegaaaGreatDoorOM09
import Derived.Test.YteonnodafmegaaaGreatDoorOM03
set_option linter.unusedSectionVars false
set_option linter.unusedVariables false
set_option linter.unusedSimpArgs false
namespace Go.Proofs.A1
open Go Go.SL
open Tryz
open Tryz renaming prog->T_
variable {L:List Po} {bad:Int} {c:Cx} {d:Value} {e:Int} {k:Nat} {l:List Po} {l1 l2:List ByteArray} {lv:Value} {o:ByteArray} {p:Value} {q:Int->Ti->Bool} {r:Ro} {s:Value} {so:ByteArray} {t:Value} {v:Int} {w:World} {x:Po}
theorem Gw (h:RR w r s d t p) (hf:jv r):a8 T_ 77 [RA r s d t p] w [] (fun _:Value=>True) id (fun x=>[row 9 1 x (eL r).length (aR (eL r))]):=by
 obtain ⟨h1,h2,h3,h4⟩:=h.one;have Db:=h.sr;have Dn:=h.de;have yt:=h.ti;obtain ⟨a1,eo,I7,IU,rfl,oC,ix,mm,kL⟩:=Db;obtain ⟨a2,c6,I6,IT,rfl,kd,eU,jV,ke⟩:=Dn;obtain ⟨a3,dT,Ha,Gp,rfl,mP,gF,rN,oR⟩:=yt;rw [cy] at *;rw [cd] at *;rw [bV] at *;unfold maxLen at ix eU gF;obtain ⟨f1,f2,f3,f4⟩:=hf;unfold RA;refine aS func77 I I ?_;refine Jr<|Jy I I fun _ _=>Ja I<|Ji<|Ja I<|Jn<|Jq<|Jr<|Ja I<|Jn<|J0 ?_;rename_i b1 tT;refine aN 9 1 ?_;refine aV (ι:=Nat×Value×List ByteArray) (fun y=>y.1<=r.sr.length/\y.2.2=([]:List ByteArray)++(cK r).take y.1) (fun y=>[(4,.int .i64 (y.1:Nat)),(3,y.2.1),(1,.pointer (some ⟨b1,0,none⟩))]) (fun y=>[row 9 1 y.2.1 y.2.2.length (aR y.2.2),JQ b1 r (.slice a1 r.sr.length eo) (.slice a2 r.de.length c6) (.slice a3 r.ti.length dT) p]) (fun y=>r.sr.length-y.1) ?_ ?_
 ·apply aI (0,.z,[]) ⟨Zi _,I⟩
  case hs1=>exact bS
  case ht=>
   exact .h2 .nil
 rintro ⟨k,v1,L1⟩ ⟨hk,Wc⟩;dsimp only at hk Wc ⊢;have nn1:(cK r).length=r.sr.length:=by unfold cK;rw [Zd]
 by_cases aK:k<r.sr.length
 ·have I3:L1.length=(([]:List ByteArray)).length+k:=by rw [Wc,Zg,Zs];omega
  have hLb:L1.length<=3000000:=by rw [I3];simp only [Zaa];omega
  have hlen:(aR L1).length=L1.length*1:=by rw [dj];omega
  have cq:=mm (iF aK);have c0:w.cell? ⟨I7,IU+k*2,none⟩=some (.string (r.sr[k]).nm):=(kL k _ (fZ aK)).2 0 _ I;have hx:(cK r)[k]'(by omega)=(r.sr[k]).nm:=by unfold cK;rw [ZZ]
  have qu:L1++[(r.sr[k]).nm]=([]:List ByteArray)++(cK r).take (k+1):=by rw [Zl (by omega),hx,<- Zh,<- Wc]
  generalize (r.sr[k]).nm=x at c0 hx qu
  (refine Jq<|Jr<|Jv I<|bJ I I ae<|JL I (.there .here) I<|JI I<|JA I<|Jn<|Jd I fun az=>Jk<|Jq<|J0<|Jg<|Jv I<|bJ I I ae<|JL I (.there .here) I<|Jv I<|ab (fT cq az) I<|bJ I I ae<|ab (ag (.of I) (At.base c0 I)) I<|bj (aG (.o I .nil) I I I I) I fun _ _=>?_)
  refine bu (.of I) (.of I) (.there .here) .here ak (by rfl) (dR I) (by rfl) (by rfl) (by rfl) ed (by rfl) ?_;intro z;refine Ja I<|Jx<|Jj<|Jt<|Jg<|Jv I<|JB I (by omega)<|Ja I<|Jn ?_;apply aH (k+1,z,L1++[x]) ⟨by show k+1<=r.sr.length;omega,qu⟩ (by show r.sr.length-(k+1)<r.sr.length-k;omega)
  case hs1=>exact bS
  case ht=>
   show bB _ [row 9 1 z (L1++[x]).length (aR (L1++[x])),JQ b1 r (.slice a1 r.sr.length eo) (.slice a2 r.de.length c6) (.slice a3 r.ti.length dT) p] _;rw [show aR (L1++[x])=aR L1++[.string x] from eT _ _,Zg,Z9];exact .h1 (.cons (.there .here) .nil)
 obtain rfl:k=r.sr.length:=by omega
 rw [Zab (by omega)] at Wc;clear hk aK
 (refine Jq<|Jr<|Jv I<|bJ I I ae<|JL I (.there .here) I<|JI I<|JA I<|Jn<|Jc I fun az=>Jp<|Jl<|Jo<|Jt<|Jq<|Jr<|Ja I<|Jn<|J0 ?_)
 rw [Za] at Wc;refine aV (ι:=Nat×Value×List ByteArray) (fun y=>y.1<=r.de.length/\y.2.2=cK r++(cE r).take y.1) (fun y=>[(5,.q (y.1:Nat)),(3,y.2.1),(1,.p b1)]) (fun y=>[row 9 1 y.2.1 y.2.2.length (aR y.2.2),JQ b1 r (.slice a1 r.sr.length eo) (.slice a2 r.de.length c6) (.slice a3 r.ti.length dT) p]) (fun y=>r.de.length-y.1) ?_ ?_
 ·apply aI (0,v1,L1) ⟨Zi _,by rw [Ze,ZJ];exact Wc⟩
  case hs1=>exact bS
  case ht=>
   exact .h2 .nil
 rintro ⟨k,v2,L2⟩ ⟨hk,qu⟩;dsimp only at hk qu ⊢;have nn2:(cE r).length=r.de.length:=by unfold cE;rw [Zd]
 by_cases aK:k<r.de.length
 ·have I3:L2.length=(cK r).length+k:=by rw [qu,Zg,Zs];omega
  have hLb:L2.length<=3000000:=by rw [I3];rw [nn1];omega
  have hlen:(aR L2).length=L2.length*1:=by rw [dj];omega
  have cq:=jV (iq aK);have c0:w.cell? ⟨I6,IT+k*3,none⟩=some (.string (r.de[k]).nm):=(ke k _ (fR aK)).2 0 _ I;have hx:(cE r)[k]'(by omega)=(r.de[k]).nm:=by unfold cE;rw [ZZ]
  have qu:L2++[(r.de[k]).nm]=cK r++(cE r).take (k+1):=by rw [Zl (by omega),hx,<- Zh,<- qu]
  generalize (r.de[k]).nm=x at c0 hx qu
  (refine Jq<|Jr<|Jv I<|bJ I I ae<|JL I (.there .here) I<|JI I<|JA I<|Jn<|Jd I fun az=>Jk<|Jq<|J0<|Jg<|Jv I<|bJ I I ae<|JL I (.there .here) I<|Jv I<|ab (fT cq az) I<|bJ I I ae<|ab (ag (.of I) (At.base c0 I)) I<|bj (aG (.o I .nil) I I I I) I fun _ _=>?_)
  refine bu (.of I) (.of I) (.there .here) .here ak (by rfl) (dR I) (by rfl) (by rfl) (by rfl) ed (by rfl) ?_;intro z;refine Ja I<|Jx<|Jj<|Jt<|Jg<|Jv I<|JB I (by omega)<|Ja I<|Jn ?_;apply aH (k+1,z,L2++[x]) ⟨by show k+1<=r.de.length;omega,qu⟩ (by show r.de.length-(k+1)<r.de.length-k;omega)
  case hs1=>exact bS
  case ht=>
   show bB _ [row 9 1 z (L2++[x]).length (aR (L2++[x])),JQ b1 r (.slice a1 r.sr.length eo) (.slice a2 r.de.length c6) (.slice a3 r.ti.length dT) p] _;rw [show aR (L2++[x])=aR L2++[.string x] from eT _ _,Zg,Z9];exact .h1 (.cons (.there .here) .nil)
 obtain rfl:k=r.de.length:=by omega
 rw [Zab (by omega)] at qu;clear hk aK
 (refine Jq<|Jr<|Jv I<|bJ I I ae<|JL I (.there .here) I<|JI I<|JA I<|Jn<|Jc I fun az=>Jp<|Jl<|Jo<|Jt<|Jq<|Jr<|Ja I<|Jn<|J0 ?_)
 refine aV (ι:=Nat×Value×List ByteArray) (fun y=>y.1<=r.ti.length/\y.2.2=(cK r++cE r)++(cQ r).take y.1) (fun y=>[(6,.q (y.1:Nat)),(3,y.2.1),(1,.p b1)]) (fun y=>[row 9 1 y.2.1 y.2.2.length (aR y.2.2),JQ b1 r (.slice a1 r.sr.length eo) (.slice a2 r.de.length c6) (.slice a3 r.ti.length dT) p]) (fun y=>r.ti.length-y.1) ?_ ?_
 ·apply aI (0,v2,L2) ⟨Zi _,by rw [Ze,ZJ];exact qu⟩
  case hs1=>exact bS
  case ht=>
   exact .h2 .nil
 rintro ⟨k,v3,L3⟩ ⟨hk,Ss⟩;dsimp only at hk Ss ⊢;have nn3:(cQ r).length=r.ti.length:=by unfold cQ;rw [Zd]
 by_cases aK:k<r.ti.length
 ·have I3:L3.length=((cK r++cE r)).length+k:=by rw [Ss,Zg,Zs];omega
  have hLb:L3.length<=3000000:=by rw [I3];rw [Zg,nn1,nn2];omega
  have hlen:(aR L3).length=L3.length*1:=by rw [dj];omega
  have cq:=rN (fm aK);have c0:w.cell? ⟨Ha,Gp+k*3,none⟩=some (.string (r.ti[k]).nm):=(oR k _ (ei aK)).2 0 _ I;have hx:(cQ r)[k]'(by omega)=(r.ti[k]).nm:=by unfold cQ;rw [ZZ]
  have qu:L3++[(r.ti[k]).nm]=(cK r++cE r)++(cQ r).take (k+1):=by rw [Zl (by omega),hx,<- Zh,<- Ss]
  generalize (r.ti[k]).nm=x at c0 hx qu
  (refine Jq<|Jr<|Jv I<|bJ I I ae<|JL I (.there .here) I<|JI I<|JA I<|Jn<|Jd I fun az=>Jk<|Jq<|J0<|Jg<|Jv I<|bJ I I ae<|JL I (.there .here) I<|Jv I<|ab (fT cq az) I<|bJ I I ae<|ab (ag (.of I) (At.base c0 I)) I<|bj (aG (.o I .nil) I I I I) I fun _ _=>?_)
  refine bu (.of I) (.of I) (.there .here) .here ak (by rfl) (dR I) (by rfl) (by rfl) (by rfl) ed (by rfl) ?_;intro z;refine Ja I<|Jx<|Jj<|Jt<|Jg<|Jv I<|JB I (by omega)<|Ja I<|Jn ?_;apply aH (k+1,z,L3++[x]) ⟨by show k+1<=r.ti.length;omega,qu⟩ (by show r.ti.length-(k+1)<r.ti.length-k;omega)
  case hs1=>exact bS
  case ht=>
   show bB _ [row 9 1 z (L3++[x]).length (aR (L3++[x])),JQ b1 r (.slice a1 r.sr.length eo) (.slice a2 r.de.length c6) (.slice a3 r.ti.length dT) p] _;rw [show aR (L3++[x])=aR L3++[.string x] from eT _ _,Zg,Z9];exact .h1 (.cons (.there .here) .nil)
 obtain rfl:k=r.ti.length:=by omega
 rw [Zab (by omega)] at Ss;clear hk aK
 (refine Jq<|Jr<|Jv I<|bJ I I ae<|JL I (.there .here) I<|JI I<|JA I<|Jn<|Jc I fun az=>Jp<|Jl<|Jo<|Jt<|Jr<|Jv I<|Ja I<|Jn<|Je ?_)
 have e:eL r=L3:=Ss.symm;rw [e]
 with_reducible first|apply aO|apply aQ
 case he=>exact dB I I
 case hR=>
  intro w' aB;exact aD v3 trivial (by exact .h1 .nil) aB I
theorem vF (h:gy r=0):IC r:=prt (ue h).2.1
theorem L4 (h:gy r=0):∀ p∈r.po,p.ip≠⟨#[]⟩:=fun p hp=>
 (vF h).ne (((A2 h).val.xX p hp).elim .inl fun q=>.inr (.inr q))
theorem Np (h:gy r=0) {v:Int} {o:ByteArray} (ho:o≠⟨#[]⟩):pT r.po v 8 o=o::fJ r.po v 7 o:=vG (L4 h) 7 ho
theorem No (h:gy r=0) {v:Int} {o:ByteArray} (ho:o≠⟨#[]⟩):(pT r.po v 8 o).getLastD ⟨#[]⟩=iI r.po v 7 o:=by
 rw [Np h ho,List.getLastD_cons];unfold iI;cases fJ r.po v 7 o with
 | nil=>rfl
 | cons a l=>rw [List.getLastD_eq_getLast?]
theorem vH (h:gy r=0) (v:Int) {o:ByteArray} (ho:o≠⟨#[]⟩):Fu r v o=j4 r v o:=by
 rw [xJ (A2 h).wJ (A2 h).val];unfold Fu Ca qy;rw [No h ho,Np h ho];split
 ·rfl
 ·rw [List.reverse_cons];unfold iI;cases e:fJ r.po v 7 o with
  | nil=>rfl
  | cons a l =>
   rw [List.headD_eq_head?_getD,List.head?_append,List.head?_reverse];cases q:(a::l).getLast? with
   | none=>exact absurd (List.getLast?_eq_none_iff.1 q) (by simp)
   | some y=>rfl
theorem My (h:gy r=0) {o:ByteArray} (ho:o≠⟨#[]⟩):mO r o=cU r o:=by
 unfold mO cU;exact Zbe fun k _=>vH h k ho
def ckQ (r:Ro):Int:=if n9 r≠0 then n9 r else if kB r≠0 then kB r else AS r
theorem Vu (r:Ro):ckQ r=gy r:=by
 unfold ckQ gy;by_cases h1:n9 r=0
 ·rw [if_neg (not_not_intro h1),if_neg (not_not_intro h1)];by_cases h2:kB r=0
  ·rw [if_neg (not_not_intro h2),if_neg (not_not_intro h2),Pv (prt h2)]
  ·rw [if_pos h2,if_pos h2]
 ·rw [if_pos h1,if_pos h1]
def AR (r:Ro) (k:Nat):Int:=((eL r)[k]?.map fun x=>aZ [cn (!kR x) 8,cn (jr ((eL r).take k) x) 9]).getD 0
theorem Pu (h:k<(eL r).length):AR r k=aZ [cn (!kR (eL r)[k]) 8,cn (jr ((eL r).take k) (eL r)[k]) 9]:=by
 unfold AR;rw [Zc h];rfl
theorem tW (a b:Int) (l:List Int):aZ (aZ [a,b]::l)=aZ (a::b::l):=by
 by_cases ha:a=0
 ·subst ha;have e:aZ [0,b]=b:=by
   unfold aZ;rw [if_neg (by decide)];unfold aZ;split
   ·rfl
   ·rename_i q;rw [Zp] at q;rw [q];rfl
  rw [e]
  conv=>rhs;unfold aZ
  rw [if_neg (by decide)]
 ·have e:aZ [a,b]=a:=by unfold aZ;rw [if_pos ha]
  rw [e];unfold aZ;rw [if_pos ha,if_pos ha]
theorem Fk (a b:Int) (l:List Int):aZ [a,b,aZ l]=aZ (a::b::l):=by
 have h1:∀ x:Int,∀ m,aZ (x::m)=if x≠0 then x else aZ m:=fun x m=>by rw [aZ]
 have h2:∀ x:Int,aZ [x]=x:=fun x=>by
  rw [h1];split
  ·rfl
  ·rename_i q;rw [Zp] at q;rw [q];rfl
 rw [h1,h1 b,h2,h1 a,h1 b]
theorem NM (r:Ro):(eL r).length=r.sr.length+r.de.length+r.ti.length:=by
 unfold eL cK cE cQ;simp only [Zg,Zd]
theorem NL (h:k<r.sr.length):(eL r)[k]? = some (r.sr[k]).nm/\(eL r).take k=[]++(r.sr.take k).map Sr.nm:=by
 have e1:(cK r).length=r.sr.length:=by unfold cK;rw [Zd]
 unfold eL;rw [Zh];refine ⟨?_,?_⟩
 ·rw [ZB (by omega)];unfold cK;rw [ZE,Zc h];rfl
 ·rw [Zah (by omega)];unfold cK;rw [ZaX];rfl
theorem NN (h:k<r.de.length):(eL r)[r.sr.length+k]? = some (r.de[k]).nm/\(eL r).take (r.sr.length+k)=cK r++(r.de.take k).map De.nm:=by
 have e1:(cK r).length=r.sr.length:=by unfold cK;rw [Zd]
 have e2:(cE r).length=r.de.length:=by unfold cE;rw [Zd]
 unfold eL;rw [Zh];refine ⟨?_,?_⟩
 ·rw [ZC (by omega),ZB (by omega),show r.sr.length+k-(cK r).length=k by omega];unfold cE;rw [ZE,Zc h];rfl
 ·rw [<- e1,List.take_length_add_append,Zah (by omega)];unfold cE;rw [ZaX]
theorem NK (h:k<r.ti.length):(eL r)[r.sr.length+r.de.length+k]? = some (r.ti[k]).nm/\(eL r).take (r.sr.length+r.de.length+k)=(cK r++cE r)++(r.ti.take k).map Ti.nm:=by
 have e1:(cK r++cE r).length=r.sr.length+r.de.length:=by unfold cK cE;rw [Zg,Zd,Zd]
 have e2:(cQ r).length=r.ti.length:=by unfold cQ;rw [Zd]
 unfold eL;refine ⟨?_,?_⟩
 ·rw [ZC (by omega),e1,show r.sr.length+r.de.length+k-(r.sr.length+r.de.length)=k by omega];unfold cQ;rw [ZE,Zc h];rfl
 ·rw [<- e1,List.take_length_add_append];unfold cQ;rw [ZaX]
theorem EH {j:Nat} {x:ByteArray} {l:List ByteArray} (h:(eL r)[j]? = some x) (h2:(eL r).take j=l):AR r j=aZ [cn (!kR x) 8,cn (jr l x) 9]:=by
 unfold AR;rw [h,h2];rfl
theorem WY (h:k<r.sr.length):aZ [AR r k,fQ r (r.sr[k]).mx]=yp [] Sr.nm (fun x=>fQ r x.mx) r.sr k:=by
 rw [pb h,EH (NL h).1 (NL h).2,tW]
theorem WZ (h:k<r.de.length):aZ [AR r (r.sr.length+k),fQ r (r.de[k]).mx]=yp (cK r) De.nm (fun x=>fQ r x.mx) r.de k:=by
 rw [pb h,EH (NN h).1 (NN h).2,tW]
theorem WX (h:k<r.ti.length):aZ [AR r (r.sr.length+r.de.length+k),fQ r (r.ti[k]).fr,fQ r (r.ti[k]).to,cn (decide ((r.ti[k]).fr=(r.ti[k]).to)) 24]=yp (cK r++cE r) Ti.nm (oG r) r.ti k:=by
 rw [pb h,EH (NK h).1 (NK h).2,tW];unfold oG;rw [Fk]
theorem EI (h1:fO 8 [] Sr.nm (fun x=>fQ r x.mx) r.sr=0) (h2:fO 8 (cK r) De.nm (fun x=>fQ r x.mx) r.de=0):kB r=fO 6 (cK r++cE r) Ti.nm (oG r) r.ti:=by
 rw [po3 h1 h2];unfold aZ;split
 ·rfl
 ·rename_i q;rw [Zp] at q;rw [q];rfl
theorem TJ {hs hs':List bd} (hm:Mem c hs w) {g gc:Nat} {L:List ByteArray} {cur:List Value} {E:TypeId} {fz:Nat×Nat} (ht:Take hs (bE g (.cells (aR L++cur).toArray E fz)) hs') (hc:L.length<=gc) (hx:gc<=maxLen):Rd w (.w g L.length gc) 1 (gi L):=by
 refine ⟨_,gc,g,0,by rw [bG],by rw [bG];exact hc,hx,fun _=>rfl,fun i r hr=>?_⟩;have hi:=(Zn.1 hr).1;rw [bG] at hi;rw [fM hi] at hr;obtain rfl:=Option.some.inj hr;refine ⟨I,fun j u hu=>?_⟩;cases j with
 | zero =>
  simp only [ZaC,Option.some.injEq] at hu;subst hu;rw [cell_of_block (hm.bE ht)];simp [aR,ZB,hi]
 | succ j=>simp at hu
theorem La {hs hs':List bd} (hm:Mem c hs w) {g gc:Nat} {L:List ByteArray} {cur:List Value} {E:TypeId} {fz:Nat×Nat} (ht:Take hs (bE g (.cells (aR L++cur).toArray E fz)) hs') (hc:L.length<=gc) (hx:gc<=maxLen) {k:Nat} (hk:k<=L.length):Rd w (Go.sliced (some ⟨g,0,none⟩) 0 (k:Int).toNat gc 1) 1 (gi (L.take k)):=by
 have:=(TJ hm ht hc hx).sliced (l:=0) (m:=k) (Zi _) hk;rw [ZH];rwa [List.drop_zero,show (gi L).take k=gi (L.take k) by unfold gi;rw [ZaX]] at this
theorem Nn (m:Int) {w w1:World} (h:RR w1 r s d t p):aj T_ 162 [RA r s d t p,.q m] w (.q (fQ r m)):=by
 obtain ⟨h1,h2,h3,h4⟩:=h.one;unfold RA;refine ah func162 I I ?_
 (refine Jr<|Jy I I fun _ _=>Ja I<|Ji<|Jv I<|JA I<|Jv I<|iQ I I I I<|aF I I inferInstance (fun hg br=>(aq (.of I) ae)) I<|aF I I inferInstance (fun hg br=>(ag (.bF hg I) (At.lit .here I))) I<|aF I I inferInstance (fun hg br=>(AO (.bF hg I) (.bF hg I))) I<|ab (bA (.of I) I) I<|ai bb I (fun w' aB=>(k9 _ 10 w'))<|Ja I<|Jn<|Je<|JT ?_)
 rfl
theorem DJ (k:Nat) {w:World} (h:RR w r s d t p) (hf:jv r) (hk:k<(eL r).length):aj T_ 229 [RA r s d t p,.q (k:Nat)] w (.q (AR r k)):=by
 obtain ⟨h1,h2,h3,h4⟩:=h.one;have zI:∀ w',aJ [] w w'->a8 T_ 77 [.agg #[.int .i64 r.lv,.int .i64 r.ma,s,d,t,p]] w' [] (fun _:Value=>True) id (fun x=>[row 9 1 x (eL r).length (aR (eL r))]):=fun w' hk=>Gw (h.keeps hk) hf
 rw [Pu hk];have uE:(eL r).length<=3000000:=by
  obtain ⟨f1,f2,f3,f4⟩:=hf;unfold eL cK cE cQ;simp only [Zg,Zd];omega
 generalize eL r=L at zI hk uE ⊢;have hkk:k<=L.length:=by omega
 unfold RA;refine ah func229 I I ?_;refine Jr<|Jy I I fun _ _=>Ja I<|Ji<|ab (cm .here) I ?_;refine JN bM I (fun w1 aT=>zI w1 aT.keeps) ?_;intro x _;dsimp only [id_eq,Zb,Za];refine dy (E:=9) (sz:=1) (v:=x) (by exact .here) (by omega) ?_;rintro g gc cur e dd Bj _ _;subst e;have iy:(aR L++cur)[k*1]? = some (.string L[k]):=rS L cur hk;refine Ja I<|Jn<|Jq ?_
 with_reducible refine cY 15 (by kernel_rfl) ?_
 (refine ar k8 I ?_;refine ar k8 I ?_;refine ar (an (.of I) (.of I) I (by omega) (by omega) aW) I ?_;refine ar (ag (.of I) (At.mz .here iy)) I ?_;refine aX bM I (fun w' aB=>(abt _ w')) ?_;refine ar k8 I ?_;refine ar k8 I ?_;refine ar (iU (.of I) (.of I) (by omega) (by omega)) I ?_;refine ar k8 I ?_;refine ar k8 I ?_;refine ar (an (.of I) (.of I) I (by omega) (by omega) aW) I ?_;refine ar (ag (.of I) (At.mz .here iy)) I ?_;refine aX bb I (fun w' aB=>(MH _ (La aB .here dd Bj hkk))) ?_;refine aX bb I (fun w' aB=>(k9 _ 9 w')) ?_;refine eC (aG (.o I (.o I .nil)) I I I I) I I ?_)
 with_reducible refine dA I fun bq ml=>?_
 (refine ai bM I (fun w' aB=>(jG (Mem.dz aB .here I I) (bY.cons (bY.cons bY.nil))))<|Ja I<|Jn<|Je<|JT ?_)
 rfl
set_option maxHeartbeats 1000000 in
theorem BF (h:RR w r s d t p) (hf:jv r):aj T_ 127 [RA r s d t p] w (.q (kB r)):=by
 obtain ⟨h1,h2,h3,h4⟩:=h.one;have Uz:∀ k,k<(eL r).length->∀ w',aJ [] w w'->aj T_ 229 [.agg #[.int .i64 r.lv,.int .i64 r.ma,s,d,t,p],.int .i64 (k:Nat)] w' (.int .i64 (AR r k)):=fun k hk w' hkk=>DJ k (h.keeps hkk) hf hk
 have gr:∀ (m:Int) {w'},aJ [] w w'->aj T_ 162 [.agg #[.q r.lv,.q r.ma,s,d,t,p],.q m] w' (.q (fQ r m)):=fun m _ hk=>Nn m (h.keeps hk)
 have eO:=NM r;have Db:=h.sr;have Dn:=h.de;have yt:=h.ti;obtain ⟨a1,eo,I7,IU,rfl,oC,ix,mm,kL⟩:=Db;obtain ⟨a2,c6,I6,IT,rfl,kd,eU,jV,ke⟩:=Dn;obtain ⟨a3,dT,Ha,Gp,rfl,mP,gF,rN,oR⟩:=yt;rw [cy] at *;rw [cd] at *;rw [bV] at *;unfold maxLen at ix eU gF;obtain ⟨f1,f2,f3,f4⟩:=hf;unfold RA;refine ah func127 I I ?_
 (refine Jr<|Jy I I fun _ _=>Ja I<|Ji<|Ja I<|Jn<|Jq<|Jr<|bJ I I ae<|JL I .here I<|JI I<|JE I<|Jn<|gm I (fun az=>?_) fun az=>?_;refine Jr<|Ja I<|Jn<|Ju<|JT ?_;rotate_left;refine Jk<|Jq<|Jr<|Ja I<|Jn<|J0 ?_;rotate_right)
 ·skip
  have e:fO 8 [] Sr.nm (fun x=>fQ r x.mx) r.sr=5:=by unfold fO;rw [if_pos (show (8:Int)<(r.sr.length:Int) by omega)]
  rw [po1 (by rw [e];decide),e]
 rename_i b1 tT;refine aV (ι:=Nat) (fun x=>x<=r.sr.length/\∀ i,i<x->yp [] Sr.nm (fun x=>fQ r x.mx) r.sr i=0) (fun x=>[(4,.q (x:Nat)),(3,.q ((x:Nat):Int)),(1,.p b1)]) (fun x=>[JQ b1 r (.slice a1 r.sr.length eo) (.slice a2 r.de.length c6) (.slice a3 r.ti.length dT) p]) (fun x=>r.sr.length-x) ?_ ?_
 ·apply aI (0:Nat) ⟨Zi _,fun i h=>absurd h (ZN _)⟩
  case hs1=>exact bS
  case ht=>(try simp only [Ze,Zf,Za]);exact .h1 .nil
 rintro k ⟨hk,hz⟩;by_cases aK:k<r.sr.length
 ·have cq:=mm (iF aK);obtain ⟨fo,aC⟩:=kL k _ (fZ aK);unfold Sr.cells at aC;have cc0:=aC 0 _ I;have cc1:=aC 1 _ I;have UA:=Uz (k) (by omega);have hq:=WY (r:=r) aK
  (refine Jq<|Jr<|Jv I<|bJ I I ae<|JL I .here I<|JI I<|JA I<|Jn<|Jd I fun az=>Jk<|Jq<|J0<|Jq<|Jq ?_)
  with_reducible refine cY 12 (by kernel_rfl) ?_
  (refine ar (cm .here) I<|ar k8 I<|aX bb I (fun w' aB=>(UA w' (Mem.keeps aB)))<|ar (cm .here) I<|ar k6 I<|ar (gX .here) I<|ar k8 I<|ar (fT cq az) I<|ar k6 I<|ar (ag (.of I) (At.base cc1 I)) I<|aX bb I (fun w' aB=>(gr _ (Mem.keeps aB)))<|eC (aG (.o I (.o I .nil)) I I I I) I I ?_)
  with_reducible refine dA I fun bq ml=>?_
  (refine ai bM I (fun w' aB=>(jG (Mem.dz aB .here I I) (bY.cons (bY.cons bY.nil))))<|Ja I<|Ji<|Jv I<|JD I<|Jn<|gm I (fun az=>?_) fun az=>?_;refine Jr<|Jv I<|Ja I<|Jn<|Ju<|Jm<|Jh<|Jh<|Jm<|Jh<|JT ?_;rotate_left;refine Jk<|Jg<|Jv I<|JB I (by omega)<|Ja I<|Jx<|Jj<|Jt<|Jg<|Jv I<|JB I (by omega)<|Ja I<|Jn ?_;rotate_right)
  ·rw [hq] at az ⊢;have hb:fO 8 [] Sr.nm (fun x=>fQ r x.mx) r.sr=yp [] Sr.nm (fun x=>fQ r x.mx) r.sr k:=by unfold fO;rw [if_neg (by omega)];exact eV hz aK az
   rw [po1 (by rw [hb];exact az),hb]
  have Mc:yp [] Sr.nm (fun x=>fQ r x.mx) r.sr k=0:=by rw [<- hq];exact Zp.1 az
  apply aH (k+1) ⟨(show k+1<=r.sr.length from aK),fun i hi=>by
   by_cases e:i=k
   ·rw [e];exact Mc
   ·exact hz i (by omega)⟩ (show r.sr.length-(k+1)<r.sr.length-k by omega)
  case hs1=>exact bS
  case ht=>(try simp only [Ze,Zf,Za]);exact .cons (.there .here) .nil
 obtain rfl:k=r.sr.length:=by omega
 have z1:fO 8 [] Sr.nm (fun x=>fQ r x.mx) r.sr=0:=by unfold fO;rw [if_neg (by omega)];exact dQ.2 hz
 clear hk aK hz
 (refine Jq<|Jr<|Jv I<|bJ I I ae<|JL I .here I<|JI I<|JA I<|Jn<|Jc I fun az=>Jp<|Jl<|Jo<|Jt<|Jq<|Jr<|bJ I I ae<|JL I .here I<|JI I<|JE I<|Jn<|gm I (fun az=>?_) fun az=>?_;refine Jr<|Ja I<|Jn<|Ju<|JT ?_;rotate_left;refine Jk<|Jq<|Jr<|Ja I<|Jn<|J0 ?_;rotate_right)
 ·have e:fO 8 (cK r) De.nm (fun x=>fQ r x.mx) r.de=5:=by unfold fO;rw [if_pos (show (8:Int)<(r.de.length:Int) by omega)]
  rw [po2 z1 (by rw [e];decide),e]
 refine aV (ι:=Nat) (fun x=>x<=r.de.length/\∀ i,i<x->yp (cK r) De.nm (fun x=>fQ r x.mx) r.de i=0) (fun x=>[(6,.q (x:Nat)),(3,.q ((r.sr.length+x:Nat):Int)),(1,.p b1)]) (fun x=>[JQ b1 r (.slice a1 r.sr.length eo) (.slice a2 r.de.length c6) (.slice a3 r.ti.length dT) p]) (fun x=>r.de.length-x) ?_ ?_
 ·apply aI (0:Nat) ⟨Zi _,fun i h=>absurd h (ZN _)⟩
  case hs1=>exact bS
  case ht=>(try simp only [Ze,Zf,Za]);exact .h1 .nil
 rintro k ⟨hk,hz⟩;by_cases aK:k<r.de.length
 ·have cq:=jV (iq aK);obtain ⟨fo,aC⟩:=ke k _ (fR aK);unfold De.cells at aC;have cc0:=aC 0 _ I;have cc1:=aC 1 _ I;have UA:=Uz (r.sr.length+k) (by omega);have hq:=WZ (r:=r) aK
  (refine Jq<|Jr<|Jv I<|bJ I I ae<|JL I .here I<|JI I<|JA I<|Jn<|Jd I fun az=>Jk<|Jq<|J0<|Jq<|Jq ?_)
  with_reducible refine cY 12 (by kernel_rfl) ?_
  (refine ar (cm .here) I<|ar k8 I<|aX bb I (fun w' aB=>(UA w' (Mem.keeps aB)))<|ar (cm .here) I<|ar k6 I<|ar (gX .here) I<|ar k8 I<|ar (fT cq az) I<|ar k6 I<|ar (ag (.of I) (At.base cc1 I)) I<|aX bb I (fun w' aB=>(gr _ (Mem.keeps aB)))<|eC (aG (.o I (.o I .nil)) I I I I) I I ?_)
  with_reducible refine dA I fun bq ml=>?_
  (refine ai bM I (fun w' aB=>(jG (Mem.dz aB .here I I) (bY.cons (bY.cons bY.nil))))<|Ja I<|Ji<|Jv I<|JD I<|Jn<|gm I (fun az=>?_) fun az=>?_;refine Jr<|Jv I<|Ja I<|Jn<|Ju<|Jm<|Jh<|Jh<|Jm<|Jh<|JT ?_;rotate_left;refine Jk<|Jg<|Jv I<|JB I (by omega)<|Ja I<|Jx<|Jj<|Jt<|Jg<|Jv I<|JB I (by omega)<|Ja I<|Jn ?_;rotate_right)
  ·rw [hq] at az ⊢;have hb:fO 8 (cK r) De.nm (fun x=>fQ r x.mx) r.de=yp (cK r) De.nm (fun x=>fQ r x.mx) r.de k:=by unfold fO;rw [if_neg (by omega)];exact eV hz aK az
   rw [po2 z1 (by rw [hb];exact az),hb]
  have Mc:yp (cK r) De.nm (fun x=>fQ r x.mx) r.de k=0:=by rw [<- hq];exact Zp.1 az
  apply aH (k+1) ⟨(show k+1<=r.de.length from aK),fun i hi=>by
   by_cases e:i=k
   ·rw [e];exact Mc
   ·exact hz i (by omega)⟩ (show r.de.length-(k+1)<r.de.length-k by omega)
  case hs1=>exact bS
  case ht=>(try simp only [Ze,Zf,Za]);exact .cons (.there .here) .nil
 obtain rfl:k=r.de.length:=by omega
 have z2:fO 8 (cK r) De.nm (fun x=>fQ r x.mx) r.de=0:=by unfold fO;rw [if_neg (by omega)];exact dQ.2 hz
 clear hk aK hz
 (refine Jq<|Jr<|Jv I<|bJ I I ae<|JL I .here I<|JI I<|JA I<|Jn<|Jc I fun az=>Jp<|Jl<|Jo<|Jt<|Jq<|Jr<|bJ I I ae<|JL I .here I<|JI I<|JE I<|Jn<|gm I (fun az=>?_) fun az=>?_;refine Jr<|Ja I<|Jn<|Ju<|JT ?_;rotate_left;refine Jk<|Jq<|Jr<|Ja I<|Jn<|J0 ?_;rotate_right)
 ·have e:fO 6 (cK r++cE r) Ti.nm (oG r) r.ti=5:=by unfold fO;rw [if_pos (show (6:Int)<(r.ti.length:Int) by omega)]
  rw [EI z1 z2,e]
 refine aV (ι:=Nat) (fun x=>x<=r.ti.length/\∀ i,i<x->yp (cK r++cE r) Ti.nm (oG r) r.ti i=0) (fun x=>[(8,.q (x:Nat)),(3,.q (((r.sr.length+r.de.length)+x:Nat):Int)),(1,.p b1)]) (fun x=>[JQ b1 r (.slice a1 r.sr.length eo) (.slice a2 r.de.length c6) (.slice a3 r.ti.length dT) p]) (fun x=>r.ti.length-x) ?_ ?_
 ·apply aI (0:Nat) ⟨Zi _,fun i h=>absurd h (ZN _)⟩
  case hs1=>exact bS
  case ht=>(try simp only [Ze,Zf,Za]);exact .h1 .nil
 rintro k ⟨hk,hz⟩;by_cases aK:k<r.ti.length
 ·have cq:=rN (fm aK);obtain ⟨fo,aC⟩:=oR k _ (ei aK);unfold Ti.cells at aC;have cc0:=aC 0 _ I;have cc1:=aC 1 _ I;have UA:=Uz ((r.sr.length+r.de.length)+k) (by omega);have hq:=WX (r:=r) aK
  (refine Jq<|Jr<|Jv I<|bJ I I ae<|JL I .here I<|JI I<|JA I<|Jn<|Jd I fun az=>Jk<|Jq<|J0<|Jr<|bJ I I ae<|JL I .here I<|Jv I<|ab (fT cq az) I<|ab (iO (eZ.base aC I)) I<|Jz I I fun _ _=>ao (.of I) (.of I) .here I I (fx I I I) (bz I) ak<|Jn<|Jq<|Jq ?_)
  with_reducible refine cY 18 (by kernel_rfl) ?_
  (refine ar (cm (.there .here)) I<|ar k8 I<|aX bb I (fun w' aB=>(UA w' (Mem.keeps aB)))<|ar (cm (.there .here)) I<|ar k6 I<|ar (gX .here) I<|aX bb I (fun w' aB=>(gr _ (Mem.keeps aB)))<|ar (cm (.there .here)) I<|ar k6 I<|ar (gX .here) I<|aX bb I (fun w' aB=>(gr _ (Mem.keeps aB)))<|ar k6 I<|ar (gX .here) I<|ar k6 I<|ar (gX .here) I<|ar (lk (.of I) (.of I)) I<|aX bb I (fun w' aB=>(k9 _ 24 w'))<|eC (aG (.o I (.o I (.o I (.o I .nil)))) I I I I) I I ?_)
  with_reducible refine dA I fun bq ml=>?_
  (refine ai bM I (fun w' aB=>(jG (Mem.dz aB .here I I) (bY.cons (bY.cons (bY.cons (bY.cons bY.nil))))))<|Ja I<|Ji<|Jv I<|JD I<|Jn<|gm I (fun az=>?_) fun az=>?_;refine Jr<|Jv I<|Ja I<|Jn<|Ju<|Jm<|Jh<|Jh<|Jm<|Jh<|JT ?_;rotate_left;refine Jk<|Jg<|Jv I<|JB I (by omega)<|Ja I<|Jx<|Jj<|Jt<|Jg<|Jv I<|JB I (by omega)<|Ja I<|Jn ?_;rotate_right)
  ·rw [hq] at az ⊢;have hb:fO 6 (cK r++cE r) Ti.nm (oG r) r.ti=yp (cK r++cE r) Ti.nm (oG r) r.ti k:=by unfold fO;rw [if_neg (by omega)];exact eV hz aK az
   rw [EI z1 z2,hb]
  have Mc:yp (cK r++cE r) Ti.nm (oG r) r.ti k=0:=by rw [<- hq];exact Zp.1 az
  apply aH (k+1) ⟨(show k+1<=r.ti.length from aK),fun i hi=>by
   by_cases e:i=k
   ·rw [e];exact Mc
   ·exact hz i (by omega)⟩ (show r.ti.length-(k+1)<r.ti.length-k by omega)
  case hs1=>exact bS
  case ht=>(try simp only [Ze,Zf,Za]);exact .cons bL .nil
 obtain rfl:k=r.ti.length:=by omega
 have z3:fO 6 (cK r++cE r) Ti.nm (oG r) r.ti=0:=by unfold fO;rw [if_neg (by omega)];exact dQ.2 hz
 clear hk aK hz
 (refine Jq<|Jr<|Jv I<|bJ I I ae<|JL I .here I<|JI I<|JA I<|Jn<|Jc I fun az=>Jp<|Jl<|Jo<|Jt<|Jr<|Ja I<|Jn<|Je<|JT ?_)
 rw [EI z1 z2,z3]
theorem TM (h:k<r.po.length):HH r k=if N3 r r.po[k]≠0 then N3 r r.po[k] else if 0<k/\(r.po[k].lv<((r.po[k-1]?).getD r.po[k]).lv\/r.po[k].lv=((r.po[k-1]?).getD r.po[k]).lv/\eE r r.po[k].ou<=eE r ((r.po[k-1]?).getD r.po[k]).ou) then 11 else 0:=by
 unfold HH;rw [Zc h];rfl
def Io (r:Ro) (v:Int) (x:Ti):Bool:=decide ((pT r.po v 8 x.nm).length=8)
def Gr (r:Ro) (v:Int) (x:Ti):Bool:=nf r.po v x.nm != !decide ((eD r.po v x.nm).getD ⟨#[]⟩=⟨#[]⟩)
theorem Pw (r:Ro):W0 r=if kD r (fun v=>r.ti.any (Io r v)) then 33 else if kD r (fun v=>r.ti.any (Gr r v)) then 32 else 0:=rfl
theorem DR {v i:Nat} (hv:(v:Int)<r.lv) (hi:i<r.ti.length) (h:q v r.ti[i]=true):kD r (fun v=>r.ti.any (q v))=true:=by
 unfold kD;exact ZR.2 ⟨v,ZW.2 (by omega),ZR.2 ⟨_,Zj hi,h⟩⟩
theorem zZ (h:∀ v:Nat,v<r.lv.toNat->∀ (i:Nat) (hi:i<r.ti.length),q v r.ti[i]=false):kD r (fun v=>r.ti.any (q v))=false:=by
 refine mf.2 fun v h0 h1=>Zam.2 fun x hx=>?_;obtain ⟨i,hi,rfl⟩:=Zw hx;have:=h v.toNat (by omega) i hi;rw [show ((v.toNat:Nat):Int)=v by omega] at this;rw [this];decide
set_option maxHeartbeats 2000000 in
theorem yI (h:RR w r s d t p) (hf:jv r) (aiG:1<=r.lv/\r.lv<=3):aj T_ 128 [RA r s d t p] w (.q (AS r)):=by
 obtain ⟨h1,h2,h3,h4⟩:=h.one;have UD:∀ (o:ByteArray) {w'},aJ [] w w'->aj T_ 230 [.agg #[.int .i64 r.lv,.int .i64 r.ma,s,d,t,p],.string o] w' (.int .i64 (eE r o)):=fun o _ hk=>Gn o (h.keeps hk) hf
 have XV:∀ (o:ByteArray) {w'},aJ [] w w'->aj T_ 231 [.agg #[.q r.lv,.q r.ma,s,d,t,p],.string o] w' (.q (kq r o)):=fun o _ hk=>P9 o (h.keeps hk)
 have aca:∀ (o:ByteArray) {w'},aJ [] w w'->aj T_ 232 [.agg #[.q r.lv,.q r.ma,s,d,t,p],.string o] w' (.q (kP r o)):=fun o _ hk=>Lo o (h.keeps hk)
 have Xl:∀ (v:Int) (o:ByteArray) {w'},aJ [] w w'->aj T_ 233 [.agg #[.q r.lv,.q r.ma,s,d,t,p],.q v,.string o] w' (.bool (nf r.po v o)):=fun v o _ hk=>Kd v o (h.keeps hk)
 have yx:∀ (v:Int) (o:ByteArray) {w'},aJ [] w w'->aj T_ 133 [.agg #[.q r.lv,.q r.ma,s,d,t,p],.q v,.string o] w' (.string ((eD r.po v o).getD ⟨#[]⟩)):=fun v o _ hk=>qq v o (h.keeps hk)
 have QC:∀ (v:Int) (o:ByteArray) w',aJ [] w w'->a8 T_ 132 [.agg #[.q r.lv,.q r.ma,s,d,t,p],.q v,.string o,.q 8] w' [] (fun _:Option Addr×Nat=>True) (fun z=>.slice z.1 (pT r.po v 8 o).length z.2) (fun z=>[row 9 1 (.slice z.1 (pT r.po v 8 o).length z.2) (pT r.po v 8 o).length (aR (pT r.po v 8 o))]):=fun v o w' hk=>a8.Ey (val:=id) (G8 v o 8 (by decide) (h.keeps hk))
 have E7:=h.po;have yt:=h.ti;obtain ⟨a4,eW,Ol,IS,rfl,qT,jE,zM,tR⟩:=E7;obtain ⟨a3,dT,Ha,Gp,rfl,mP,gF,rN,oR⟩:=yt;rw [cR] at *;rw [bV] at *;unfold maxLen at gF jE;obtain ⟨f1,f2,f3,f4⟩:=hf;unfold RA;refine ah func128 I I ?_;refine Jr<|Jy I I fun _ _=>Ja I<|Jn<|Jq<|Jr<|Ja I<|Jn<|J0 ?_;rename_i b1 tT;refine aV (ι:=Nat) (fun x=>x<=r.po.length/\∀ i,i<x->HH r i=0) (fun x=>[(3,.int .i64 (x:Nat)),(1,.pointer (some ⟨b1,0,none⟩))]) (fun x=>[JQ b1 r s d (.slice a3 r.ti.length dT) (.slice a4 r.po.length eW)]) (fun x=>r.po.length-x) ?_ ?_
 ·apply aI (0:Nat) ⟨Zi _,fun i h=>absurd h (ZN _)⟩
  case hs1=>exact bS
  case ht=>(try simp only [Ze,Zf,Za]);exact .h1 .nil
 rintro k ⟨hk,hz⟩;by_cases aK:k<r.po.length
 ·have cq:=zM (j8 aK);obtain ⟨fo,aC⟩:=tR k _ (ie aK);unfold Po.cells at aC;have iy:=TM (r:=r) aK;have V9:∀ e:Int,HH r k=e->e≠0->AS r=e:=fun e he hne=>by
   have hb:jd (HH r) r.po.length=e:=by rw [<- he];exact eV hz aK (by rw [he];exact hne)
   unfold AS;rw [hb,if_pos hne]
  have gQ:HH r k=0->∀ i,i<k+1->HH r i=0:=fun e i hi=>by
   by_cases e2:i=k
   ·rw [e2];exact e
   ·exact hz i (by omega)
  generalize hx:r.po[k]=x at aC iy
  (refine Jq<|Jr<|Jv I<|bJ I I ae<|JL I .here I<|JI I<|JA I<|Jn<|Jd I fun az=>Jk<|Jq<|J0<|Jr<|bJ I I ae<|JL I .here I<|Jv I<|ab (fT cq az) I<|ab (iO (eZ.base aC I)) I<|Jz I I fun _ _=>ao (.of I) (.of I) .here I I (fx I I I) (bz I) ak<|Jn<|Jq<|Jq ?_)
  with_reducible refine cY 29 (by kernel_rfl) ?_
  (refine ar k6 I<|ar (gX .here) I<|ar k6 I<|ar (gX (.there .here)) I<|ar (q8 (.of I) (.of I) (R3 (by omega))) I<|aX ef I (fun w' aB=>(r7 _ 0 _ w'))<|ar (cm (.there .here)) I<|ar k6 I<|ar (gX .here) I<|aX bb I (fun w' aB=>(UD _ (Mem.keeps aB)))<|ar (lh (.of I) (.of I)) I<|aX bb I (fun w' aB=>(k9 _ 10 w'))<|ar (cm (.there .here)) I<|ar k6 I<|ar (gX .here) I<|aX bb I (fun w' aB=>(XV _ (Mem.keeps aB)))<|ar (lh (.of I) (.of I)) I<|aX bb I (fun w' aB=>(k9 _ 10 w'))<|ar (cm (.there .here)) I<|ar k6 I<|ar (gX .here) I<|aX bb I (fun w' aB=>(aca _ (Mem.keeps aB)))<|ar (cm (.there .here)) I<|ar k6 I<|ar (gX .here) I<|aX bb I (fun w' aB=>(XV _ (Mem.keeps aB)))<|ar (jl (.of I) (.of I)) I<|aX bb I (fun w' aB=>(k9 _ 24 w'))<|eC (aG (.o I (.o I (.o I (.o I .nil)))) I I I I) I I ?_)
  with_reducible refine dA I fun bq ml=>?_
  (refine ai bM I (fun w' aB=>(jG (Mem.dz aB .here I I) (bY.cons (bY.cons (bY.cons (bY.cons bY.nil))))))<|Ja I<|Ji<|Jv I<|JD I<|Jn<|gm I (fun az=>?_) fun az=>?_;refine Jr<|Jv I<|Ja I<|Jn<|Ju<|Jm<|Jh<|Jh<|Jm<|Jh<|JT ?_;rotate_left;refine Jk<|Jr<|Jv I<|JE I<|Jn<|gm I (fun az=>?_) fun az=>?_;refine Jr<|bJ I I ae<|JL I bL I<|Jv I<|JS I (by omega)<|ab (an (.of I) (.of I) cq (by omega) (by omega) aW) I ?_;rotate_left;refine Jw<|Jj<|Jt<|Jg<|Jv I<|JB I (by omega)<|Ja I<|Jn ?_;rotate_right;rotate_right)
  ·have e:=V9 (N3 r x) (by rw [iy,if_pos (show N3 r x≠0 from az)]) az;rw [e];rfl
  ·rename_i b4 tS hE;have hE:N3 r x=0:=Zp.1 hE;have Ob:0<k:=by omega
   have Qw:k-1<r.po.length:=by omega
   obtain ⟨aea,fF⟩:=tR (k-1) _ (ie Qw);unfold Po.cells at fF;rw [show IS+(k-1)*3=IS+((k:Int)-1).toNat*3 by rw [show ((k:Int)-1).toNat=k-1 by omega]] at fF;rw [if_neg (not_not_intro hE),Zc Qw,Zaj] at iy;generalize r.po[k-1]=y at fF iy
   (refine ab (iO (eZ.base fF I)) I<|Jz I I fun _ _=>ao (.of I) (.of I) .here I I (fx I I I) (bz I) ak<|Jn<|Jq ?_)
   with_reducible refine cN 23 (by kernel_rfl) ?_
   (refine lS I I ae<|aA (gX bL) I<|lS I I ae<|aA (gX .here) I<|aA (lh (.of I) (.of I)) I<|gn I I<|bN I I inferInstance (fun hg br=>(aq (.of I) ae)) I<|bN I I inferInstance (fun hg br=>(ag (.bF hg I) (At.lit bL I))) I<|bN I I inferInstance (fun hg br=>(aq (.of I) ae)) I<|bN I I inferInstance (fun hg br=>(ag (.bF hg I) (At.lit .here I))) I<|bN I I inferInstance (fun hg br=>(lk (.bF hg I) (.bF hg I))) I<|bN I I inferInstance (fun hg br=>(aP (.bF hg I))) I<|gM I I inferInstance (fun hg br=>(bK (.of I) cX ak (by rfl))) I<|gM I I inferInstance (fun hg br=>(aq (.of I) ae)) I<|gM I I inferInstance (fun hg br=>(ag (.bF hg I) (At.lit bL I))) I<|nH I I (fun hg=>(a7 (.of I) (.cons (.bF hg I) (.cons (.bF hg I) .nil)) inferInstance dZ)) I (fun hg w' aB=>(UD _ (Mem.keeps aB)))<|gM I I inferInstance (fun hg br=>(bK (.of I) cX ak (by rfl))) I<|gM I I inferInstance (fun hg br=>(aq (.of I) ae)) I<|gM I I inferInstance (fun hg br=>(ag (.bF hg I) (At.lit .here I))) I<|nH I I (fun hg=>(a7 (.of I) (.cons (.bF hg I) (.cons (.bF hg I) .nil)) inferInstance dZ)) I (fun hg w' aB=>(UD _ (Mem.keeps aB)))<|gM I I inferInstance (fun hg br=>(lj (.bF hg I) (.bF hg I))) I<|bN I I inferInstance (fun hg br=>(gE hg (.bF hg I) I)) I<|aA (bA (.of I) I) I ?_)
   with_reducible refine cT ?_
   (refine Jn<|nj I (fun az=>?_) fun az=>?_;refine Jr<|Ja I<|Jn<|Je<|Jm<|Jh<|Jh<|Jm<|Jh<|JT ?_;rotate_left;refine Jw<|Jj<|Jt<|Jg<|Jv I<|JB I (by omega)<|Ja I<|Jn ?_;rotate_right)
   ·have U7:0<k/\(x.lv<y.lv\/x.lv=y.lv/\eE r x.ou<=eE r y.ou):=⟨Ob,az⟩;have e:=V9 11 (by rw [iy,if_pos U7]) (by decide);rw [e]
   ·apply aH (k+1) ⟨(show k+1<=r.po.length from aK),gQ (by rw [iy,if_neg (fun q=>q.2.elim az.1 fun z=>az.2.elim (fun z2=>z2 z.1) fun z2=>z2 z.2)])⟩ (show r.po.length-(k+1)<r.po.length-k by omega)
    case hs1=>exact bS
    case ht=>(try simp only [Ze,Zf,Za]);exact .cons cX .nil
  ·rename_i b4 tS hE;have hE:N3 r x=0:=Zp.1 hE;apply aH (k+1) ⟨(show k+1<=r.po.length from aK),gQ (by rw [iy,if_neg (not_not_intro hE),if_neg (fun q=>az (by omega))])⟩ (show r.po.length-(k+1)<r.po.length-k by omega)
   case hs1=>exact bS
   case ht=>(try simp only [Ze,Zf,Za]);exact .cons bL .nil
 obtain rfl:k=r.po.length:=by omega
 have hzz:jd (HH r) r.po.length=0:=dQ.2 hz;have hqs:AS r=W0 r:=by unfold AS;rw [hzz];rfl
 rw [hqs,Pw];clear hk aK hz
 (refine Jq<|Jr<|Jv I<|bJ I I ae<|JL I .here I<|JI I<|JA I<|Jn<|Jc I fun az=>Jp<|Jl<|Jo<|Jt<|Jq<|Jr<|Ja I<|Jn<|J0 ?_)
 refine aV (ι:=Nat) (fun v=>v<=r.lv.toNat/\∀ u,u<v->∀ (i:Nat) (hi:i<r.ti.length),Io r (u:Nat) r.ti[i]=false) (fun v=>[(7,.q (v:Nat)),(1,.p b1)]) (fun _=>[JQ b1 r s d (.slice a3 r.ti.length dT) (.slice a4 r.po.length eW)]) (fun v=>r.lv.toNat-v) ?_ ?_
 ·apply aI (0:Nat) ⟨Zi _,fun i h=>absurd h (ZN _)⟩
  case hs1=>exact bS
  case ht=>(try simp only [Ze,Zf,Za]);exact .h1 .nil
 rintro v ⟨hv,hz⟩;by_cases IV:v<r.lv.toNat
 ·have Uk:((v:Nat):Int)<r.lv:=by omega
  (refine Jq<|Jr<|Jv I<|bJ I I ae<|JL I .here I<|JA I<|Jn<|Jd I fun az=>Jk<|Jq<|J0<|Jr<|Ja I<|Jn<|J0 ?_)
  refine aV (ι:=Nat) (fun i=>i<=r.ti.length/\∀ (j:Nat) (hj:j<r.ti.length),j<i->Io r (v:Nat) r.ti[j]=false) (fun i=>[(8,.q (i:Nat)),(7,.q (v:Nat)),(1,.p b1)]) (fun _=>[JQ b1 r s d (.slice a3 r.ti.length dT) (.slice a4 r.po.length eW)]) (fun i=>r.ti.length-i) ?_ ?_
  ·apply aI (0:Nat) ⟨Zi _,fun j _ h=>absurd h (ZN _)⟩
   case hs1=>exact bS
   case ht=>(try simp only [Ze,Zf,Za]);exact .h1 .nil
  rintro i ⟨hi,hy⟩;by_cases jO:i<r.ti.length
  ·have cq:=rN (fm jO);have c0:w.cell? ⟨Ha,Gp+i*3,none⟩=some (.string r.ti[i].nm):=(oR i _ (ei jO)).2 0 _ I;have hqq:∀ b,Io r (v:Nat) r.ti[i]=b->Io r (v:Nat) r.ti[i]=b:=fun _ h=>h
   unfold Io at hqq;have gQ:Io r (v:Nat) r.ti[i]=false->∀ (j:Nat) (hj:j<r.ti.length),j<i+1->Io r (v:Nat) r.ti[j]=false:=fun e j hj tq=>by
    by_cases e2:j=i
    ·subst e2;exact e
    ·exact hy j hj (by omega)
   have UP:Io r (v:Nat) r.ti[i]=true->kD r (fun v=>r.ti.any (Io r v))=true:=DR Uk jO
   generalize hxx:r.ti[i].nm=x at c0
   (refine Jq<|Jr<|Jv I<|bJ I I ae<|JL I .here I<|JI I<|JA I<|Jn<|Jd I fun az=>Jk<|Jq<|J0<|Jq ?_)
   have Yc:=QC (v:Nat) x;have R8:=BG r.po (v:Nat) 8 x;have Yb:Io r (v:Nat) r.ti[i]=decide ((pT r.po (v:Nat) 8 x).length=8):=by unfold Io;rw [hxx]
   generalize pT r.po (v:Nat) 8 x=C at Yc R8 Yb
   with_reducible refine dE 9 (by kernel_rfl) ?_
   (refine au (fun β=>(bK (.of I) .here ak (by rfl))) bh I<|au (fun β=>(aP (.of I))) bh I<|au (fun β=>(aq (.of I) ae)) bh I<|au (fun β=>(ag (.of I) (At.lit .here I))) bh I<|au (fun β=>(aP (.of I))) bh I<|au (fun β=>(an (.of I) (.of I) cq (by omega) az aW)) bh I<|au (fun β=>(aq (.of I) ae)) bh I<|au (fun β=>(ag (.of I) (At.base c0 I))) bh I ?_)
   dsimp only [Nat.zero_add,Nat.reduceAdd]
   with_reducible apply eB (ι:=Option Addr×Nat) (Φ:=fun _=>True) (val:=fun z=>.slice z.1 C.length z.2) (own:=fun z=>[row 9 1 (.slice z.1 C.length z.2) C.length (aR C)]) (g:=U8) (B:=[]) (args:=fun _=>[.agg #[.q r.lv,.q r.ma,s,d,.slice a3 r.ti.length dT,.slice a4 r.po.length eW],.q (v:Nat),.string x,.q 8])
   case hg=>exact Ff
   case hB=>rfl
   case hr=>exact fun β=>a7 (.of I) (.o I (.o I (.o I (.o I .nil)))) inferInstance I
   case hd=>rfl
   case hc=>exact fun β w' hb=>Yc w' hb.mem.keeps
   dsimp only [Nat.reduceAdd];refine eS fun β=>?_;dsimp only [dY,Za,Zb,List.append_eq,Nat.reduceAdd];generalize U8 (β 8)=y;obtain ⟨ya,yc⟩:=y;clear β;dsimp only;refine bI (rs:=[9]) (by kernel_rfl) (by simp) (Zq.2 ⟨?_,fun _ h=>absurd h Zo⟩);refine bP I ?_;refine JI I<|Jn ?_;refine bI (rs:=[10]) (by kernel_rfl) (by simp) (Zq.2 ⟨?_,fun _ h=>absurd h Zo⟩);refine bP I ?_;refine JC I<|Jn ?_
   with_reducible refine cu (by kernel_rfl) ?_
   (refine Jt<|gm I (fun az=>?_) fun az=>?_;refine Jr<|Ja I<|Jn<|Je<|Jm<|Jh<|Jh<|Jm<|Jm<|Jh<|Jh<|Jm<|Jh<|JT ?_;rotate_left;refine Jw<|Jj<|Jt<|Jg<|Jv I<|JB I (by omega)<|Ja I<|Jn ?_;rotate_right)
   ·rw [if_pos (UP (by rw [Yb];exact decide_eq_true (by omega)))]
   apply aH (i+1) ⟨(show i+1<=r.ti.length from jO),gQ (by rw [Yb];exact decide_eq_false (by omega))⟩ (show r.ti.length-(i+1)<r.ti.length-i by omega)
   case hs1=>exact bS
   case ht=>(try simp only [Ze,Zf,Za]);exact .cons (.there .here) .nil
  obtain rfl:i=r.ti.length:=by omega
  clear hi jO
  (refine Jq<|Jr<|Jv I<|bJ I I ae<|JL I .here I<|JI I<|JA I<|Jn<|Jc I fun az=>Jp<|Jl<|Jo<|Jj<|Jt<|Jg<|Jv I<|JB I (by omega)<|Ja I<|Jn ?_)
  apply aH (v+1) ⟨(show v+1<=r.lv.toNat from IV),fun u hu j hj=>by
   by_cases e2:u=v
   ·subst e2;exact hy j hj hj
   ·exact hz u (by omega) j hj⟩ (show r.lv.toNat-(v+1)<r.lv.toNat-v by omega)
  case hs1=>exact bS
  case ht=>(try simp only [Ze,Zf,Za]);exact .h1 .nil
 obtain rfl:v=r.lv.toNat:=by omega
 have aT:kD r (fun v=>r.ti.any (Io r v))=false:=zZ hz
 clear hv IV hz
 (refine Jq<|Jr<|Jv I<|bJ I I ae<|JL I .here I<|JA I<|Jn<|Jc I fun az=>Jp<|Jl<|Jo<|Jt<|Jq<|Jr<|Ja I<|Jn<|J0 ?_)
 rw [if_neg (by rw [aT];decide)];refine aV (ι:=Nat) (fun v=>v<=r.lv.toNat/\∀ u,u<v->∀ (i:Nat) (hi:i<r.ti.length),Gr r (u:Nat) r.ti[i]=false) (fun v=>[(9,.q (v:Nat)),(1,.p b1)]) (fun _=>[JQ b1 r s d (.slice a3 r.ti.length dT) (.slice a4 r.po.length eW)]) (fun v=>r.lv.toNat-v) ?_ ?_
 ·apply aI (0:Nat) ⟨Zi _,fun i h=>absurd h (ZN _)⟩
  case hs1=>exact bS
  case ht=>(try simp only [Ze,Zf,Za]);exact .h1 .nil
 rintro v ⟨hv,hz⟩;by_cases IV:v<r.lv.toNat
 ·have Uk:((v:Nat):Int)<r.lv:=by omega
  (refine Jq<|Jr<|Jv I<|bJ I I ae<|JL I .here I<|JA I<|Jn<|Jd I fun az=>Jk<|Jq<|J0<|Jr<|Ja I<|Jn<|J0 ?_)
  refine aV (ι:=Nat) (fun i=>i<=r.ti.length/\∀ (j:Nat) (hj:j<r.ti.length),j<i->Gr r (v:Nat) r.ti[j]=false) (fun i=>[(10,.q (i:Nat)),(9,.q (v:Nat)),(1,.p b1)]) (fun _=>[JQ b1 r s d (.slice a3 r.ti.length dT) (.slice a4 r.po.length eW)]) (fun i=>r.ti.length-i) ?_ ?_
  ·apply aI (0:Nat) ⟨Zi _,fun j _ h=>absurd h (ZN _)⟩
   case hs1=>exact bS
   case ht=>(try simp only [Ze,Zf,Za]);exact .h1 .nil
  rintro i ⟨hi,hy⟩;by_cases jO:i<r.ti.length
  ·have cq:=rN (fm jO);have c0:w.cell? ⟨Ha,Gp+i*3,none⟩=some (.string r.ti[i].nm):=(oR i _ (ei jO)).2 0 _ I;have hqq:∀ b,Gr r (v:Nat) r.ti[i]=b->Gr r (v:Nat) r.ti[i]=b:=fun _ h=>h
   unfold Gr at hqq;have gQ:Gr r (v:Nat) r.ti[i]=false->∀ (j:Nat) (hj:j<r.ti.length),j<i+1->Gr r (v:Nat) r.ti[j]=false:=fun e j hj tq=>by
    by_cases e2:j=i
    ·subst e2;exact e
    ·exact hy j hj (by omega)
   have UP:Gr r (v:Nat) r.ti[i]=true->kD r (fun v=>r.ti.any (Gr r v))=true:=DR Uk jO
   generalize hxx:r.ti[i].nm=x at c0
   (refine Jq<|Jr<|Jv I<|bJ I I ae<|JL I .here I<|JI I<|JA I<|Jn<|Jd I fun az=>Jk<|Jq<|J0<|Jr<|bJ I I ae<|JL I .here I<|Jv I<|ab (fT cq az) I<|bJ I I ae<|ab (ag (.of I) (At.base c0 I)) I<|Ja I<|Jn<|Jq ?_)
   have hop:Gr r (v:Nat) r.ti[i]=(nf r.po (v:Nat) x != !decide ((eD r.po (v:Nat) x).getD ⟨#[]⟩=⟨#[]⟩)):=by unfold Gr;rw [hxx]
   have XH:Gr r (v:Nat) r.ti[i]=(nf r.po (v:Nat) x != decide ((eD r.po (v:Nat) x).getD ⟨#[]⟩≠⟨#[]⟩)):=by rw [hop,decide_not]
   with_reducible refine cN 9 (by kernel_rfl) ?_
   (refine aA (cm .here) I<|gn I I<|gn I I<|dp ef I (fun w' aB=>(Xl _ x (Mem.keeps aB)))<|aA (cm .here) I<|gn I I<|gn I I<|dp ef I (fun w' aB=>(yx _ x (Mem.keeps aB)))<|aA (fN (.of I) (.of I)) I ?_)
   with_reducible refine cT ?_
   skip
   refine ab (CK (.of I) (.of I)) I ?_
   (refine Jn<|nj I (fun az=>?_) fun az=>?_;refine Jr<|Ja I<|Jn<|Je<|Jm<|Jh<|Jh<|Jm<|Jm<|Jh<|Jh<|Jm<|Jh<|JT ?_;rotate_left;refine Jw<|Jj<|Jt<|Jg<|Jv I<|JB I (by omega)<|Ja I<|Jn ?_;rotate_right)
   ·rw [if_pos (UP (by rw [XH];exact az))]
   apply aH (i+1) ⟨(show i+1<=r.ti.length from jO),gQ (by rw [XH];exact az)⟩ (show r.ti.length-(i+1)<r.ti.length-i by omega)
   case hs1=>exact bS
   case ht=>(try simp only [Ze,Zf,Za]);exact .h1 .nil
  obtain rfl:i=r.ti.length:=by omega
  clear hi jO
  (refine Jq<|Jr<|Jv I<|bJ I I ae<|JL I .here I<|JI I<|JA I<|Jn<|Jc I fun az=>Jp<|Jl<|Jo<|Jj<|Jt<|Jg<|Jv I<|JB I (by omega)<|Ja I<|Jn ?_)
  apply aH (v+1) ⟨(show v+1<=r.lv.toNat from IV),fun u hu j hj=>by
   by_cases e2:u=v
   ·subst e2;exact hy j hj hj
   ·exact hz u (by omega) j hj⟩ (show r.lv.toNat-(v+1)<r.lv.toNat-v by omega)
  case hs1=>exact bS
  case ht=>(try simp only [Ze,Zf,Za]);exact .h1 .nil
 obtain rfl:v=r.lv.toNat:=by omega
 have ni:kD r (fun v=>r.ti.any (Gr r v))=false:=zZ hz
 clear hv IV hz
 (refine Jq<|Jr<|Jv I<|bJ I I ae<|JL I .here I<|JA I<|Jn<|Jc I fun az=>Jp<|Jl<|Jo<|Jt<|Jr<|Ja I<|Jn<|Je<|JT ?_)
 rw [if_neg (by rw [ni];decide)]
theorem yH (h:RR w r s d t p) (hf:jv r):aj T_ 25 [RA r s d t p] w (.q (gy r)):=by
 obtain ⟨h1,h2,h3,h4⟩:=h.one;have hcp:∀ {w'},aJ [] w w'->aj T_ 127 [.agg #[.int .i64 r.lv,.int .i64 r.ma,s,d,t,p]] w' (.int .i64 (kB r)):=fun hk=>BF (h.keeps hk) hf
 have acU:n9 r=0->∀ {w'},aJ [] w w'->aj T_ 128 [.agg #[.q r.lv,.q r.ma,s,d,t,p]] w' (.q (AS r)):=fun e _ hk=>yI (h.keeps hk) hf ⟨(wQ e).1,(wQ e).2.1⟩
 rw [<- Vu];unfold RA ckQ;refine ah func25 I I ?_;refine Jr<|Jy I I fun _ _=>Ja I<|Jn<|Jq<|Jq ?_
 with_reducible refine cY 7 (by kernel_rfl) ?_
 (refine ar k6 I<|ar (gX .here) I<|aX ef I (fun w' aB=>(r7 _ 1 3 w'))<|ar k6 I<|ar (gX .here) I<|aX ef I (fun w' aB=>(r7 _ 1 4 w'))<|eC (aG (.o I (.o I .nil)) I I I I) I I ?_)
 with_reducible refine dA I fun bq ml=>?_
 refine ai bM I (fun w' aB=>jG (Mem.dz aB .here I I) (bY.cons (bY.cons bY.nil))) ?_;have hlE:n9 r=aZ [fK r.lv 1 3,fK r.ma 1 4]:=rfl;rw [<- hlE]
 (refine Ja I<|Ji<|Jv I<|JD I<|Jn<|gm I (fun az=>?_) fun az=>?_;refine Jr<|Jv I<|Ja I<|Jn<|Ju<|JT ?_;rotate_left;refine Jk<|Jq<|Jr<|ab (cm (.there .here)) I ?_;rotate_right)
 ·rw [if_pos az]
 have hl:n9 r=0:=Zp.1 az;have V7:=fun {w'}=>acU hl (w':=w')
 rw [if_neg (not_not_intro hl)]
 (refine ai bM I (fun w' aB=>(hcp (Mem.keeps aB)))<|Ja I<|Ji<|Jv I<|JD I<|Jn<|gm I (fun az=>?_) fun az=>?_;refine Jr<|Jv I<|Ja I<|Jn<|Ju<|JT ?_;rotate_left;refine Jk<|Jr<|ab (cm (.there .here)) I<|ai bM I (fun w' aB=>(V7 (Mem.keeps aB)))<|Ja I<|Jn<|Je<|JT ?_;rotate_right)
 ·rw [if_pos az]
 rw [if_neg az]
def uT (l:List ByteArray):Bool:=l.all fun s=>decide (s.size<=40)
theorem Cu {l:List ByteArray} (h:Rd w lv 1 (gi l)):aj T_ 69 [lv] w (.bool (uT l)):=by
 obtain ⟨a,cp,b,o',rfl,dd,bO,ha,hc⟩:=h;rw [bG] at *;unfold maxLen at bO;refine ah func69 I I ?_;refine Jr<|Ja I<|Jn<|Jq<|Jr<|Ja I<|Jn<|J0 ?_;refine aV (ι:=Nat) (fun k=>k<=l.length/\∀ j (hj:j<l.length),j<k->l[j].size<=40) (fun k=>[(3,.int .i64 (k:Nat)),(0,.slice a l.length cp)]) (fun _=>[]) (fun k=>l.length-k) ?_ ?_
 ·apply aI (0:Nat) ⟨Zi _,fun j _ hj=>absurd hj (ZN _)⟩
  case hs1=>exact bS
  case ht=>(try simp only [Ze,Zf,Za]);exact .nil
 rintro k ⟨hk,hf⟩;by_cases aK:k<l.length
 ·have cq:=ha (iE aK);have c0:w.cell? ⟨b,o'+k*1,none⟩=some (.string l[k]):=(hc k _ (fM aK)).2 0 _ I;have hm:=Zj aK;have uG:l[k].size<=40->∀ j (hj:j<l.length),j<k+1->l[j].size<=40:=fun q j hj Mr=>by
   by_cases e:j=k
   ·subst e;exact q
   ·exact hf j hj (by omega)
  generalize l[k]=x at c0 hm uG
  (refine Jq<|Jr<|Jv I<|Jv I<|JI I<|JA I<|Jn<|Jd I fun az=>Jk<|Jq<|J0<|Jr<|Jv I<|Jv I<|ab (fT cq az) I<|ab (ag (.of I) (At.base c0 I)) I<|ab (fg (.of I)) I<|JE I<|Jn<|gm I (fun az=>?_) fun az=>?_;refine Jr<|Ja I<|Jn<|Je<|Jm<|Jh<|Jh<|Jm<|Jh<|JT ?_;rotate_left;refine Jw<|Jj<|Jt<|Jg<|Jv I<|JB I (by omega)<|Ja I<|Jn ?_;rotate_right)
  ·have uz:(40:Int)<(x.size:Nat):=az;have e:uT l=false:=List.all_eq_false.2 ⟨x,hm,by simp;omega⟩;rw [e]
  ·have uz:¬ (40:Int)<(x.size:Nat):=az;apply aH (k+1) ⟨(show k+1<=l.length from aK),uG (by omega)⟩ (show l.length-(k+1)<l.length-k by omega)
   case hs1=>exact bS
   case ht=>(try simp only [Ze,Zf,Za]);exact .nil
 ·have e:uT l=true:=Z4.2 fun x hx=>by
   obtain ⟨j,hj,rfl⟩:=Zw hx;exact decide_eq_true (hf j hj (by omega))
  obtain rfl:k=l.length:=by omega
  rw [e];refine Jq<|Jr<|Jv I<|Jv I<|JI I<|JA I<|Jn<|Jc I fun az=>Jp<|Jl<|Jo<|Jt<|Jr<|Ja I<|Jn<|Je<|JT ?_
  rfl
def VH (so de:ByteArray):Bool:=decide ((so.size:Int)<=40)&&decide ((de.size:Int)<=40)
theorem FB (v:Int) (so de:ByteArray) (w:World):aj T_ 19 [.agg #[.q v,.string so,.string de]] w (.bool (VH so de)):=by
 refine ah func19 I I ?_
 (refine Jr<|Jy I I fun _ _=>Ja I<|Ji<|bJ I I ae<|JL I .here I<|ab (fg (.of I)) I<|JF I<|Jv I<|aF I I inferInstance (fun hg br=>(aq (.of I) ae)) I<|aF I I inferInstance (fun hg br=>(ag (.bF hg I) (At.lit .here I))) I<|aF I I inferInstance (fun hg br=>(fg (.bF hg I))) I<|aF I I inferInstance (fun hg br=>(lj (.bF hg I) (.of I))) I<|ab (bX (.of I) I) I<|Ja I<|Jn<|Je<|JT ?_)
 rfl
def T3 (l1 l2:List ByteArray) (e bad:Int):Bool:=decide (e=bad)&&((decide (bad≠0)&&decide ((l1.length:Int)=0))||(decide (bad=0)&&decide (l1=l2)))
theorem PQ {v1 v2:Value} (h1:Rd w v1 1 (gi l1)) (h2:Rd w v2 1 (gi l2)):aj T_ 35 [v1,.q e,.q bad,v2] w (.bool (T3 l1 l2 e bad)):=by
 have yE:=h1;obtain ⟨a,cap,b,o,rfl,dd,bO,ha,hc⟩:=yE;have UN:=bG l1;refine ah func35 I I ?_
 (refine Jr<|Ja I<|Ji<|Jv I<|Jv I<|JC I<|Jv I<|iQ I I I I<|aF I I inferInstance (fun hg br=>(jl (.bF hg I) (.of I))) I<|aF I I inferInstance (fun hg br=>(aP (.bF hg I))) I<|fk I I inferInstance (fun hg br=>(aP (.of I))) I<|fk I I inferInstance (fun hg br=>(bZ (.bF hg I))) I<|fk I I inferInstance (fun hg br=>(lk (.bF hg I) (.of I))) I<|aF I I inferInstance (fun hg br=>(gE hg (.bF hg I) I)) I<|aF I I inferInstance (fun hg br=>(aP (.bF hg I))) I<|fk I I inferInstance (fun hg br=>(aP (.of I))) I<|fk I I inferInstance (fun hg br=>(lk (.bF hg I) (.of I))) I<|fk I I inferInstance (fun hg br=>(aP (.bF hg I))) I<|fk I I inferInstance (fun hg br=>(aP (.of I))) I<|fk I I inferInstance (fun hg br=>(aP (.of I))) I<|y6 I I (fun hg=>(a7 (.of I) (.cons (.bF hg I) (.cons (.bF hg I) .nil)) inferInstance dZ)) I (fun hg w' aB=>(AI (Rd.keeps h1 (Mem.keeps aB)) (Rd.keeps h2 (Mem.keeps aB))))<|fk I I inferInstance (fun hg br=>(gE hg (.bF hg I) I)) I<|aF I I inferInstance (fun hg br=>(jS hg (.bF hg I) I)) I<|ab (bX (.of I) I) I<|Ja I<|Jn<|Je<|JT ?_)
 rw [UN];rfl
def poN (p:Po):List ByteArray:=[p.ou,p.ip]
def Cy (r:Ro) (k:Nat):List ByteArray:=eL r++((r.po.take k).map poN).flatten
def ym (r:Ro):Bool:=decide (r.sr.length<=10)&&decide (r.de.length<=10)&&decide (r.ti.length<=10)&&decide (r.po.length<=48)
def Cz (r:Ro):Bool:=ym r&&uT (Cy r r.po.length)
theorem zg (h:k<r.po.length):Cy r (k+1)=Cy r k++[r.po[k].ou,r.po[k].ip]:=by
 unfold Cy;rw [Zl h,Zv,Zaf,Zh]
 rfl
theorem rW (h:ym r=true):r.sr.length<=10/\r.de.length<=10/\r.ti.length<=10/\r.po.length<=48:=by
 unfold ym at h;simp only [Zm,decide_eq_true_eq] at h;exact ⟨h.1.1.1,h.1.1.2,h.1.2,h.2⟩
theorem CA (h:ym r=true):jv r:=by
 have:=rW h;exact ⟨by omega,by omega,by omega,by omega⟩
theorem KL (h:ym r=true):nk r:=by
 have:=rW h;exact ⟨by omega,by omega,by omega⟩
theorem Cw (r:Ro):∀ k,k<=r.po.length->(Cy r k).length=(eL r).length+2*k
 | 0,_=>by unfold Cy;simp
 | k+1,h=>by rw [zg (by omega),Zg,Cw r k (by omega)];simp;omega
theorem O6 (h:RR w r s d t p):aj T_ 18 [RA r s d t p] w (.bool (Cz r)):=by
 obtain ⟨h1,h2,h3,h4⟩:=h.one;have acg:ym r=true->∀ w',aJ [] w w'->a8 T_ 77 [.agg #[.int .i64 r.lv,.int .i64 r.ma,s,d,t,p]] w' [] (fun _:Value=>True) id (fun x=>[row 9 1 x (eL r).length (aR (eL r))]):=fun e w' hk=>Gw (h.keeps hk) (CA e)
 have Db:=h.sr;have Dn:=h.de;have E7:=h.po;have yt:=h.ti;obtain ⟨a1,eo,I7,IU,rfl,oC,ix,mm,kL⟩:=Db;obtain ⟨a2,c6,I6,IT,rfl,kd,eU,jV,ke⟩:=Dn;obtain ⟨a3,dT,Ha,Gp,rfl,mP,gF,rN,oR⟩:=yt;obtain ⟨a4,eW,Ol,IS,rfl,qT,jE,zM,tR⟩:=E7;rw [cy] at *;rw [cd] at *;rw [bV] at *;rw [cR] at *;unfold maxLen at ix eU gF jE;unfold RA;refine ah func18 I I ?_
 (refine Jr<|Jy I I fun _ _=>Ja I<|Jn<|Jq<|Jr<|bJ I I ae<|JL I .here I<|JI I<|JE I<|Jv I<|aF I I inferInstance (fun hg br=>(aq (.of I) ae)) I<|aF I I inferInstance (fun hg br=>(ag (.bF hg I) (At.lit .here I))) I<|aF I I inferInstance (fun hg br=>(bZ (.bF hg I))) I<|aF I I inferInstance (fun hg br=>(lV (.bF hg I) (.of I))) I<|ab (bA (.of I) I) I<|Jv I<|aF I I inferInstance (fun hg br=>(aq (.of I) ae)) I<|aF I I inferInstance (fun hg br=>(ag (.bF hg I) (At.lit .here I))) I<|aF I I inferInstance (fun hg br=>(bZ (.bF hg I))) I<|aF I I inferInstance (fun hg br=>(lV (.bF hg I) (.of I))) I<|ab (bA (.of I) I) I<|Jv I<|aF I I inferInstance (fun hg br=>(aq (.of I) ae)) I<|aF I I inferInstance (fun hg br=>(ag (.bF hg I) (At.lit .here I))) I<|aF I I inferInstance (fun hg br=>(bZ (.bF hg I))) I<|aF I I inferInstance (fun hg br=>(lV (.bF hg I) (.of I))) I<|ab (bA (.of I) I) I<|Jn<|nj I (fun az=>?_) fun az=>?_;refine Jr<|Ja I<|Jn<|Ju<|JT ?_;rotate_left;refine Jk<|Jr<|ab (cm .here) I ?_;rotate_right)
 ·have e:Cz r=false:=by
   unfold Cz;have e2:ym r=false:=by
    rw [<- Zap];intro q;have:=rW q;omega
   rw [e2];rfl
  rw [e]
 have hA:ym r=true:=by
  unfold ym;simp only [Zm,decide_eq_true_eq];omega
 obtain ⟨f1,f2,f3,f4⟩:=rW hA;have zI:=acg hA;clear az;rename_i b1 tT;have uE:(eL r).length<=30:=by
  unfold eL cK cE cQ;simp only [Zg,Zd];omega
 refine JN bM I (fun w1 aT=>zI w1 aT.keeps) ?_;intro x _;dsimp only [id_eq,Zb,Za];refine Ja I<|Jn<|Jq<|Jr<|Ja I<|Jn<|J0 ?_;refine aV (ι:=Nat×Value×List ByteArray) (fun y=>y.1<=r.po.length/\y.2.2=Cy r y.1) (fun y=>[(4,.q (y.1:Nat)),(3,y.2.1),(1,.p b1)]) (fun y=>[row 9 1 y.2.1 y.2.2.length (aR y.2.2),JQ b1 r (.slice a1 r.sr.length eo) (.slice a2 r.de.length c6) (.slice a3 r.ti.length dT) (.slice a4 r.po.length eW)]) (fun y=>r.po.length-y.1) ?_ ?_
 ·apply aI (0,x,eL r) ⟨Zi _,by unfold Cy;simp⟩
  case hs1=>exact bS
  case ht=>
   exact .h2 .nil
 rintro ⟨k,v',L⟩ ⟨hk,hL⟩;dsimp only at hk hL ⊢;have D8:L.length=(eL r).length+2*k:=by rw [hL,Cw r k hk]
 have hlen:(aR L).length=L.length*1:=by rw [dj];omega
 by_cases aK:k<r.po.length
 ·have cq:=zM (j8 aK);obtain ⟨fo,aC⟩:=tR k _ (ie aK);unfold Po.cells at aC;have c1:=aC 1 _ I;have c2:=aC 2 _ I;have gQ:=zg (r:=r) aK;rw [<- hL] at gQ;generalize r.po[k]=q at aC c1 c2 gQ
  (refine Jq<|Jr<|Jv I<|bJ I I ae<|JL I (.there .here) I<|JI I<|JA I<|Jn<|Jd I fun az=>Jk<|Jq<|J0 ?_)
  with_reducible refine cY 14 (by kernel_rfl) ?_
  (refine ar k8 I<|ar k6 I<|ar (gX (.there .here)) I<|ar k8 I<|ar (fT cq az) I<|ar k6 I<|ar (ag (.of I) (At.base c1 I)) I<|ar k6 I<|ar (gX (.there .here)) I<|ar k8 I<|ar (fT cq az) I<|ar k6 I<|ar (ag (.of I) (At.base c2 I)) I<|eC (aG (.o I (.o I .nil)) I I I I) I I ?_)
  with_reducible refine dA I fun bq ml=>?_
  refine bu (.of I) (.of I) (.there .here) .here ak (by rfl) (gO I I) (by rfl) (by rfl) (by rfl) ed (by rfl) ?_;intro z;refine Ja I<|Jx<|Jj<|Jt<|Jg<|Jv I<|JB I (by omega)<|Ja I<|Jn ?_;apply aH (k+1,z,L++[q.ou,q.ip]) ⟨(show k+1<=r.po.length from aK),gQ.symm⟩ (by show r.po.length-(k+1)<r.po.length-k;omega)
  case hs1=>exact bS
  case ht=>
   show bB _ [row 9 1 z (L++[q.ou,q.ip]).length (aR (L++[q.ou,q.ip])),JQ b1 r (.slice a1 r.sr.length eo) (.slice a2 r.de.length c6) (.slice a3 r.ti.length dT) (.slice a4 r.po.length eW)] _;rw [show aR (L++[q.ou,q.ip])=aR L++[.string q.ou,.string q.ip] from eT _ _,Zg,show [q.ou,q.ip].length=2 from I];exact .h1 (.cons (.there .here) .nil)
 obtain rfl:k=r.po.length:=by omega
 clear hk aK;have e:Cz r=uT L:=by unfold Cz;rw [hA,<- hL];rfl
 rw [e]
 (refine Jq<|Jr<|Jv I<|bJ I I ae<|JL I (.there .here) I<|JI I<|JA I<|Jn<|Jc I fun az=>Jp<|Jl<|Jo<|Jt<|Jr<|Jv I ?_)
 refine ai bM I (fun w' aB=>Cu (dS aB (by exact .here) I)) ?_;refine Ja I<|Jn<|Je<|JT ?_
 rfl
theorem oh {l:List Int}:aZ (0::l)=aZ l:=by
 conv=>lhs;unfold aZ
 rw [if_neg (by decide)]
theorem xr {a:Int} {l:List Int} (h:a≠0):aZ (a::l)=a:=by unfold aZ;rw [if_pos h]
theorem Vp (h:oL r o=0):o∈cE r:=by
 have:=(bT (by decide)).1 h;exact Classical.byContradiction fun q=>absurd (cH.2 q) (of_decide_eq_false this)
theorem PL (h1:e=bad) (h2:bad≠0->l1=[]) (h3:bad=0->l1=l2):T3 l1 l2 e bad=true:=by
 subst h1;unfold T3;by_cases h:e=0
 ·rw [h3 h,h];simp
 ·rw [h2 h];simp [h]
theorem sy {v1 v2:Value} (h1:Rd w v1 1 (gi l1)) (h2:Rd w v2 1 (gi l2)) (e1:e=bad) (e2:bad≠0->l1=[]) (e3:bad=0->l1=l2):aj T_ 35 [v1,.q e,.q bad,v2] w (.bool true):=by
 have:=PQ (e:=e) (bad:=bad) h1 h2;rwa [PL e1 e2 e3] at this
theorem mS {i:Nat} (hi:i<r.ti.length):ia r i=r.ti[i]:=by
 unfold ia;rw [Zk,Zc hi];rfl

theorem Fw (h:gy r=0) (v:Int) (x:ByteArray):(eD r.po v x).getD ⟨#[]⟩≠⟨#[]⟩↔gL r.po v x=true:=by
 unfold gL;cases e:eD r.po v x with
 | none=>simp
 | some i =>
  obtain ⟨p,hp,_,_,rfl⟩:=fG e;simpa using L4 h p hp
theorem Fv (h:gy r=0) (v:Int) (x:ByteArray):(eD r.po v x).getD ⟨#[]⟩=⟨#[]⟩↔gL r.po v x=false:=by
 have:=Fw h v x;rw [<- Zap,<- this,Zp]
theorem RI (hs:so∈cK r):∃ i:Nat,∃ hi:i<r.sr.length,bC (cK r) so=(i:Nat)/\oH r so=r.sr[i].mx:=by
 obtain ⟨nN,_⟩:=fD (dP hs);have uE:(cK r).length=r.sr.length:=by unfold cK;rw [Zd]
 have hl:=Nat.lt_of_lt_of_eq nN uE;have:=dP hs;refine ⟨(bC (cK r) so).toNat,hl,by omega,?_⟩;unfold oH;rw [Zk,Zc hl];rfl
theorem SM {de:ByteArray} (hs:de∈cE r):∃ i:Nat,∃ hi:i<r.de.length,bC (cE r) de=(i:Nat)/\k7 r de=r.de[i].mx:=by
 obtain ⟨nN,_⟩:=fD (dP hs);have uE:(cE r).length=r.de.length:=by unfold cE;rw [Zd]
 have hl:=Nat.lt_of_lt_of_eq nN uE;have:=dP hs;refine ⟨(bC (cE r) de).toNat,hl,by omega,?_⟩;unfold k7;rw [Zk,Zc hl];rfl
theorem RE (h:gy r=0) {i:Nat} (hi:i<r.ti.length):r.ti[i].nm≠⟨#[]⟩:=(vF h).ne (.inr (.inr (Zx.2 ⟨_,Zj hi,I⟩)))


def oe (r:Ro) (v:Int) (L:List ByteArray):Nat:=L.countP fun x=>decide ((eD r.po v x).getD ⟨#[]⟩=⟨#[]⟩)
theorem Ij {L:List ByteArray} (h:k<L.length):oe r v (L.take (k+1))=oe r v (L.take k)+if (eD r.po v L[k]).getD ⟨#[]⟩=⟨#[]⟩ then 1 else 0:=by
 unfold oe;rw [Zl h,List.countP_append,List.countP_singleton];congr 1;by_cases e:(eD r.po v L[k]).getD ⟨#[]⟩=⟨#[]⟩ <;> simp [e]
theorem QO (r:Ro) (v:Int) (L:List ByteArray):oe r v L<=L.length:=List.countP_le_length
theorem GR (v:Int) {L:List ByteArray} {w:World} (h:RR w r s d t p) (hl:Rd w lv 1 (gi L)):aj T_ 265 [RA r s d t p,.q v,lv] w (.q (oe r v L:Nat)):=by
 obtain ⟨h1,h2,h3,h4⟩:=h.one;have yx:∀ (o:ByteArray) {w'},aJ [] w w'->aj T_ 133 [.agg #[.int .i64 r.lv,.int .i64 r.ma,s,d,t,p],.int .i64 v,.string o] w' (.string ((eD r.po v o).getD ⟨#[]⟩)):=fun o _ hk=>qq v o (h.keeps hk)
 obtain ⟨a,cap,b,o,rfl,dd,bO,ha,hc⟩:=hl;rw [bG] at *;unfold maxLen at bO;unfold RA;refine ah func265 I I ?_;refine Jr<|Jy I I fun _ _=>Ja I<|Ji<|Ja I<|Jn<|Jq<|Jr<|Ja I<|Jn<|J0 ?_;rename_i b3 tr;refine aV (ι:=Nat) (fun k=>k<=L.length) (fun k=>[(8,.int .i64 (k:Nat)),(7,.int .i64 (oe r v (L.take k):Nat)),(1,.int .i64 v),(2,.slice a L.length cap),(3,.pointer (some ⟨b3,0,none⟩))]) (fun _=>[JQ b3 r s d t p]) (fun k=>L.length-k) ?_ ?_
 ·apply aI (0:Nat) (show (0:Nat)<=L.length from Zi _)
  case hs1=>exact bS
  case ht=>(try simp only [Ze,Zf,Za]);exact .h1 .nil
 rintro k hk;by_cases aK:k<L.length
 ·have cq:=ha (iE aK);have aC:=(hc k _ (fM aK)).2 0 _ I;have htk:=Ij (r:=r) (v:=v) aK;have hle:oe r v (L.take k)<=k:=by have:=QO r v (L.take k);rw [Zs] at this;omega
  generalize L[k]=x at aC htk;have ni:oe r v (L.take k)+1<=9223372036854775807:=by omega
  generalize oe r v (L.take k)=m at hle ni htk;refine Jq<|Jr<|Jv I<|Jv I<|JI I<|JA I<|Jn<|Jd I fun az=>Jk<|Jq<|J0<|Jq ?_
  with_reducible refine cN 8 (by kernel_rfl) ?_
  (refine aA (cm .here) I<|gn I I<|gn I I<|gn I I<|aA (fT cq az) I<|aA (ag (.of I) (At.base aC I)) I<|dp ef I (fun w' aB=>(yx x (Mem.keeps aB)))<|aA (dF (.of I) (.of I)) I ?_)
  with_reducible refine cT ?_
  (refine Jn<|gm I (fun az=>?_) fun az=>?_;refine Jg<|Jv I<|JB I (by omega)<|Ja I<|Jx<|Jj<|Jt<|Jg<|Jv I<|JB I (by omega)<|Ja I<|Jn ?_;rotate_left;refine Jw<|Jj<|Jt<|Jg<|Jv I<|JB I (by omega)<|Ja I<|Jn ?_;rotate_right)
  ·rw [if_pos az] at htk;apply aH (k+1) (show k+1<=L.length from aK) (show L.length-(k+1)<L.length-k by omega)
   case hs1=>
    rw [htk];exact .cons I (.cons I (.cons I (.cons I (.cons I .nil))))
   case ht=>exact iP
  ·rw [if_neg az] at htk;apply aH (k+1) (show k+1<=L.length from aK) (show L.length-(k+1)<L.length-k by omega)
   case hs1=>
    rw [htk];exact .cons I (.cons I (.cons I (.cons I (.cons I .nil))))
   case ht=>exact iP
 ·obtain rfl:k=L.length:=by omega
  refine Jq<|Jr<|Jv I<|Jv I<|JI I<|JA I<|Jn<|Jc I fun az=>Jp<|Jl<|Jo<|Jt<|Jr<|Jv I<|Ja I<|Jn<|Je<|JT ?_;rw [ZK]
def A7 (r:Ro):List ByteArray->List ByteArray->Bool
 | a::l,b::m=>if a=b then A7 r l m else decide (bC (cQ r) a<bC (cQ r) b)
 | _,_=>false
def P0 (r:Ro) (v:Int) (A B:List ByteArray):Bool:=if oe r v A=oe r v B then (if A.length=B.length then A7 r A B else decide (A.length<B.length)) else decide (oe r v A<oe r v B)
theorem HS {A B:List ByteArray} (ha:k<A.length) (hb:k<B.length):A7 r (A.drop k) (B.drop k)=if A[k]=B[k] then A7 r (A.drop (k+1)) (B.drop (k+1)) else decide (bC (cQ r) A[k]<bC (cQ r) B[k]):=by
 rw [Zt ha,Zt hb,A7]
theorem LU {s d t p av bv:Value} (v:Int) {A B:List ByteArray} {w:World} (h:RR w r s d t p) (hA:Rd w av 1 (gi A)) (hB:Rd w bv 1 (gi B)):aj T_ 183 [RA r s d t p,.q v,av,bv] w (.bool (P0 r v A B)):=by
 obtain ⟨h1,h2,h3,h4⟩:=h.one;have UT:∀ {w'},aJ [] w w'->aj T_ 265 [.agg #[.int .i64 r.lv,.int .i64 r.ma,s,d,t,p],.int .i64 v,av] w' (.int .i64 (oe r v A:Nat)):=fun hk=>GR v (h.keeps hk) (Rd.keeps hA hk)
 have US:∀ {w'},aJ [] w w'->aj T_ 265 [.agg #[.q r.lv,.q r.ma,s,d,t,p],.q v,bv] w' (.q (oe r v B:Nat)):=fun hk=>GR v (h.keeps hk) (Rd.keeps hB hk)
 have GM:∀ (o:ByteArray) {w'},aJ [] w w'->aj T_ 60 [.agg #[.q r.lv,.q r.ma,s,d,t,p],.string o] w' (.q (bC (cQ r) o)):=fun o _ hk=>qx o (h.keeps hk)
 unfold P0;generalize oe r v A=fa at UT ⊢;generalize oe r v B=fb at US ⊢;obtain ⟨a,cap,b,o,rfl,dd,bO,ha,hc⟩:=hA;obtain ⟨a2,c6,b2,o2,rfl,kd,eU,jV,ke⟩:=hB;rw [bG A] at *;rw [bG B] at *;unfold maxLen at bO eU;have Mw:=fun {w'}=>UT (w':=w')
 have Bm:=fun {w'}=>US (w':=w')
 clear UT US;unfold RA;refine ah func183 I I ?_;refine Jr<|Jy I I fun _ _=>Ja I<|Jn<|Jq<|Jq ?_;rename_i b4 tS
 with_reducible refine cN 9 (by kernel_rfl) ?_
 (refine aA (cm .here) I<|gn I I<|gn I I<|dp ef I (fun w' aB=>(Mw (Mem.keeps aB)))<|aA (cm .here) I<|gn I I<|gn I I<|dp ef I (fun w' aB=>(Bm (Mem.keeps aB)))<|aA (jl (.of I) (.of I)) I ?_)
 with_reducible refine cT ?_
 (refine Jn<|gm I (fun az=>?_) fun az=>?_;refine Jq ?_;rotate_left;refine Jk<|Jq<|Jr<|Jv I<|JI I<|Jv I<|JI I<|JD I<|Jn<|gm I (fun az=>?_) fun az=>?_;refine Jr<|Jv I<|JI I<|Jv I<|JI I<|JA I<|Ja I<|Jn<|Ju<|JT ?_;rotate_left;refine Jk<|Jq<|Jr<|Ja I<|Jn<|J0 ?_;rotate_right;rotate_right)
 ·with_reducible refine cN 8 (by kernel_rfl) ?_
  (refine aA (cm .here) I<|gn I I<|gn I I<|dp ef I (fun w' aB=>(Mw (Mem.keeps aB)))<|aA (cm .here) I<|gn I I<|gn I I<|dp ef I (fun w' aB=>(Bm (Mem.keeps aB))) ?_)
  with_reducible refine cT ?_
  refine JA I<|Ja I<|Jn<|Ju<|JT ?_;rw [if_neg (by omega)];congr 1;exact decide_eq_decide.2 (by omega)
 ·rw [if_pos (by omega),if_neg (by omega)];congr 1;exact decide_eq_decide.2 (by omega)
 have UR:fa=fb:=by omega
 have hle:A.length=B.length:=by omega
 rw [if_pos UR,if_pos hle];clear az Mw Bm UR;refine aV (ι:=Nat) (fun k=>k<=A.length/\A7 r A B=A7 r (A.drop k) (B.drop k)) (fun k=>[(9,.q (k:Nat)),(2,.slice a A.length cap),(3,.slice a2 B.length c6),(4,.p b4)]) (fun _=>[JQ b4 r s d t p]) (fun k=>A.length-k) ?_ ?_
 ·apply aI (0:Nat) ⟨Zi _,I⟩
  case hs1=>exact bS
  case ht=>(try simp only [Ze,Zf,Za]);exact .h1 .nil
 rintro k ⟨hk,hx⟩;by_cases aK:k<A.length
 ·have fY:k<B.length:=by omega
  have cq:=ha (iE aK);have dK:=jV (iE fY);have cA:=(hc k _ (fM aK)).2 0 _ I;have cB:=(ke k _ (fM fY)).2 0 _ I;rw [HS aK fY] at hx;generalize A[k]=x at cA hx;generalize B[k]=y at cB hx;refine Jq<|Jr<|Jv I<|Jv I<|JI I<|JA I<|Jn<|Jd I fun az=>Jk<|Jq<|J0<|Jq ?_
  with_reducible refine cN 9 (by kernel_rfl) ?_
  (refine gn I I<|gn I I<|aA (fT cq az) I<|aA (ag (.of I) (At.base cA I)) I<|gn I I<|gn I I<|aA (an (.of I) (.of I) dK (by omega) (by omega) aW) I<|aA (ag (.of I) (At.base cB I)) I<|aA (fN (.of I) (.of I)) I ?_)
  with_reducible refine cT ?_
  (refine Jn<|gm I (fun az=>?_) fun az=>?_;refine Jq ?_;rotate_left;refine Jw<|Jj<|Jt<|Jg<|Jv I<|JB I (by omega)<|Ja I<|Jn ?_;rotate_right)
  ·with_reducible refine cN 14 (by kernel_rfl) ?_
   (refine aA (cm .here) I<|gn I I<|gn I I<|aA (an (.of I) (.of I) cq (by omega) (by assumption) aW) I<|aA (ag (.of I) (At.base cA I)) I<|dp bb I (fun w' aB=>(GM x (Mem.keeps aB)))<|aA (cm .here) I<|gn I I<|gn I I<|aA (an (.of I) (.of I) dK (by omega) (by omega) aW) I<|aA (ag (.of I) (At.base cB I)) I<|dp bb I (fun w' aB=>(GM y (Mem.keeps aB)))<|aA (lh (.of I) (.of I)) I<|aA (cM (.of I)) I ?_)
   with_reducible refine cT ?_
   refine Jn<|Je<|Jm<|Jh<|Jh<|Jm<|Jh<|JT ?_;rw [hx,if_neg az]
  rw [if_pos (Zp.1 az)] at hx;apply aH (k+1) ⟨(show k+1<=A.length from aK),hx⟩ (show A.length-(k+1)<A.length-k by omega)
  case hs1=>exact bS
  case ht=>(try simp only [Ze,Zf,Za]);exact .h1 .nil
 ·obtain rfl:k=A.length:=by omega
  refine Jq<|Jr<|Jv I<|Jv I<|JI I<|JA I<|Jn<|Jc I fun az=>Jp<|Jl<|Jo<|Jt<|Jr<|Ja I<|Jn<|Je<|JT ?_;rw [hx,Z1]
  rfl
def Ep (r:Ro) (x:ByteArray):Ti:=ia r (bC (cQ r) x).toNat
theorem Ky {x:ByteArray} (h:x∈cQ r):∃ j:Nat,∃ hj:j<r.ti.length,bC (cQ r) x=(j:Nat)/\Ep r x=r.ti[j]/\r.ti[j].nm=x:=by
 obtain ⟨nN,hx⟩:=fD (dP h);have uE:(cQ r).length=r.ti.length:=by unfold cQ;rw [Zd]
 have hl:=Nat.lt_of_lt_of_eq nN uE;have:=dP h;refine ⟨(bC (cQ r) x).toNat,hl,by omega,?_,?_⟩
 ·unfold Ep;rw [mS hl]
 ·exact (ZZ (f:=Ti.nm) (l:=r.ti) (h:=nN)).symm.trans hx
def Tu (r:Ro) (v:Int) (so:ByteArray) (f:Bool) (m:Int) (x:ByteArray):Bool:=f&&gL r.po v x&&decide (j4 r v x=so)||!gL r.po v x&&decide ((Ep r x).fr=m)
def JM (r:Ro) (v:Int) (so:ByteArray):Bool->Int->List ByteArray->Option Int
 | _,m,[]=>some m
 | f,m,x::l=>if Tu r v so f m x=true then JM r v so false (Ep r x).to l else none
def iwQ (r:Ro) (v:Int) (so de:ByteArray) (L:List ByteArray):Bool:=decide (JM r v so true (oH r so) L=some (k7 r de))
theorem Js {f:Bool} {m:Int} {L:List ByteArray} (h:k<L.length):JM r v so f m (L.drop k)=if Tu r v so f m L[k]=true then JM r v so false (Ep r L[k]).to (L.drop (k+1)) else none:=by
 rw [Zt h,JM]
set_option maxHeartbeats 1000000 in
theorem P3 (v:Int) (so de:ByteArray) {L:List ByteArray} {w:World} (h:RR w r s d t p) (hb:gy r=0) (hs:so∈cK r) (hd:de∈cE r) (hl:Rd w lv 1 (gi L)) (hL:∀ x∈L,x∈cQ r):aj T_ 75 [RA r s d t p,.q v,.string so,.string de,lv] w (.bool (iwQ r v so de L)):=by
 obtain ⟨h1,h2,h3,h4⟩:=h.one;obtain ⟨i0,vB,ei0,em0⟩:=RI hs;obtain ⟨j0,uF,ej0,en0⟩:=SM hd;have Mu:∀ {w'},aJ [] w w'->aj T_ 130 [.agg #[.int .i64 r.lv,.int .i64 r.ma,s,d,t,p],.string so] w' (.int .i64 (i0:Nat)):=fun hk=>by rw [<- ei0];exact sT so (h.keeps hk)
 have Qy:∀ {w'},aJ [] w w'->aj T_ 56 [.agg #[.q r.lv,.q r.ma,s,d,t,p],.string de] w' (.q (j0:Nat)):=fun hk=>by rw [<- ej0];exact sU de (h.keeps hk)
 have acK:∀ (o:ByteArray) (j:Nat),bC (cQ r) o=(j:Nat)->∀ {w'},aJ [] w w'->aj T_ 60 [.agg #[.q r.lv,.q r.ma,s,d,t,p],.string o] w' (.q (j:Nat)):=fun o j e _ hk=>by rw [<- e];exact qx o (h.keeps hk)
 have yx:∀ (o:ByteArray) {w'},aJ [] w w'->aj T_ 133 [.agg #[.q r.lv,.q r.ma,s,d,t,p],.q v,.string o] w' (.string ((eD r.po v o).getD ⟨#[]⟩)):=fun o _ hk=>qq v o (h.keeps hk)
 have H9:∀ (o:ByteArray),o≠⟨#[]⟩->∀ {w'},aJ [] w w'->aj T_ 131 [.agg #[.q r.lv,.q r.ma,s,d,t,p],.q v,.string o] w' (.string (j4 r v o)):=fun o ho _ hk=>by rw [<- vH hb v ho];exact qC v o ho (h.keeps hk)
 have Db:=h.sr;have Dn:=h.de;have yt:=h.ti;obtain ⟨a1,eo,I7,IU,rfl,oC,ix,mm,kL⟩:=Db;obtain ⟨a2,c6,I6,IT,rfl,kd,eU,jV,ke⟩:=Dn;obtain ⟨a3,dT,Ha,Gp,rfl,mP,gF,rN,oR⟩:=yt;obtain ⟨a4,eW,Ol,IS,rfl,qT,jE,zM,tR⟩:=hl;rw [cy] at *;rw [cd] at *;rw [bV] at *;rw [bG] at *;unfold maxLen at ix eU gF jE;have xl:=mm (iF vB);have qI:=jV (iq uF);have cS:w.cell? ⟨I7,IU+i0*2+1,none⟩=some (.int .i64 (oH r so)):=by rw [em0];exact (kL i0 _ (fZ vB)).2 1 _ I
 have cD:w.cell? ⟨I6,IT+j0*3+1,none⟩=some (.q (k7 r de)):=by rw [en0];exact (ke j0 _ (fR uF)).2 1 _ I
 unfold RA iwQ;refine ah func75 I I ?_;refine Jr<|Jy I I fun _ _=>Ja I<|Jn<|Jq ?_;rename_i b5 Ia
 with_reducible refine cN 9 (by kernel_rfl) ?_
 (refine lS I I ae<|aA (gX .here) I<|aA (cm .here) I<|gn I I<|dp bb I (fun w' aB=>(Mu (Mem.keeps aB)))<|aA (an (.of I) (.of I) xl (by omega) (by omega) aW) I<|lS I I ae<|aA (ag (.of I) (At.base cS I)) I<|aA (cM (.of I)) I ?_)
 with_reducible refine cT ?_
 refine Jn<|Jq<|Jr<|Ja I<|Jn<|J0 ?_;clear cS xl;refine aV (ι:=Nat×Int) (fun y=>y.1<=L.length/\JM r v so true (oH r so) L=JM r v so (decide (y.1=0)) y.2 (L.drop y.1)) (fun y=>[(12,.q (y.1:Nat)),(11,.q y.2),(1,.q v),(2,.string so),(3,.string de),(4,.slice a4 L.length eW),(5,.p b5),(10,.bool false)]) (fun _=>[JQ b5 r (.slice a1 r.sr.length eo) (.slice a2 r.de.length c6) (.slice a3 r.ti.length dT) p]) (fun y=>L.length-y.1) ?_ ?_
 ·apply aI (0,oH r so) ⟨Zi _,I⟩
  case hs1=>exact bS
  case ht=>(try simp only [Ze,Zf,Za]);exact .h1 .nil
 rintro ⟨k,m⟩ ⟨hk,hx⟩;dsimp only at hk hx ⊢;by_cases aK:k<L.length
 ·have cq:=zM (iE aK);have cA:=(tR k _ (fM aK)).2 0 _ I;have mN:=hL _ (Zj aK);rw [Js aK] at hx;generalize L[k]=x at cA hx mN;obtain ⟨j,hj,ej,et,en⟩:=Ky mN;have GM:=fun {w'}=>acK x j ej (w':=w')
  have yC:=rN (fm hj);obtain ⟨fo,aC⟩:=oR j _ (ei hj);unfold Ti.cells at aC;have rL:=fun {w'}=>H9 r.ti[j].nm (RE hb hj) (w':=w')
  have g1:=Fw hb v r.ti[j].nm;have g2:=Fv hb v r.ti[j].nm;have hsq:Tu r v so (decide (k=0)) m x=(decide (k=0)&&gL r.po v r.ti[j].nm&&decide (j4 r v r.ti[j].nm=so)||!gL r.po v r.ti[j].nm&&decide (r.ti[j].fr=m)):=by unfold Tu;rw [et,en]
  rw [et] at hx;generalize r.ti[j]=z at aC rL g1 g2 hsq hx;refine Jq<|Jr<|Jv I<|Jv I<|JI I<|JA I<|Jn<|Jd I fun az=>Jk<|Jq<|J0<|Jq ?_
  with_reducible refine cY 11 (by kernel_rfl) ?_
  (refine ar k6 I<|ar (gX .here) I<|ar (cm .here) I<|ar k8 I<|ar k8 I<|ar (fT cq az) I<|ar (ag (.of I) (At.base cA I)) I<|aX bb I (fun w' aB=>(GM (Mem.keeps aB)))<|ar (an (.of I) (.of I) yC (by omega) (by omega) aW) I<|ar (iO (eZ.base aC I)) I<|eC (o8 I) I I ?_)
  with_reducible refine dA I fun bq ml=>?_
  (refine ao (.of I) (.of I) .here I I (fx I I I) (bz I) ak<|Ji<|ab (cm (.there .here)) I<|Jv I<|bJ I I ae<|JL I .here I<|ai ef I (fun w' aB=>(yx _ (Mem.keeps aB)))<|ab (fN (.of I) (.of I)) I<|Ja I<|Ji<|Jv I<|JC I<|Jv I<|iQ I I I I<|ab (bX (.of I) I) I<|Jv I<|aF I I inferInstance (fun hg br=>(bK (.of I) (.there .here) ak (by rfl))) I<|iQ I I I I<|aF I I inferInstance (fun hg br=>(aq (.of I) ae)) I<|aF I I inferInstance (fun hg br=>(ag (.bF hg I) (At.lit .here I))) I<|ep I I (fun hg=>(a7 (.of I) (.cons (.bF hg I) (.cons (.bF hg I) (.cons (.bF hg I) .nil))) inferInstance dZ)) I (fun hg w' aB=>(rL (Mem.keeps aB)))<|iQ I I I I<|aF I I inferInstance (fun hg br=>(dF (.bF hg I) (.bF hg I))) I<|ab (bX (.of I) I) I<|Ja I<|Jn<|Jq<|Jr<|Jv I<|JH I<|Jv I<|iQ I I I I<|aF I I inferInstance (fun hg br=>(aP (.bF hg I))) I<|fk I I inferInstance (fun hg br=>(aq (.of I) ae)) I<|fk I I inferInstance (fun hg br=>(ag (.bF hg I) (At.lit .here I))) I<|fk I I inferInstance (fun hg br=>(aP (.of I))) I<|fk I I inferInstance (fun hg br=>(jl (.bF hg I) (.bF hg I))) I<|aF I I inferInstance (fun hg br=>(jS hg (.bF hg I) I)) I<|ab (bX (.of I) I) I<|Jn<|nj I (fun az=>?_) fun az=>?_;refine Jr<|Ja I<|Jn<|Ju<|Jm<|Jh<|Jh<|Jm<|Jh<|JT ?_;rotate_left;refine Jk<|Jg<|bJ I I ae<|JL I .here I<|Ja I<|Jx<|Jj<|Jt<|Jg<|Jv I<|JB I (by omega)<|Ja I<|Jn ?_;rotate_right)
  ·have hz:Tu r v so (decide (k=0)) m x=false:=by
    rw [hsq];obtain ⟨q1,q2⟩:=az;cases eb:gL r.po v z.nm
    ·have:z.fr≠m:=q2.resolve_left fun q=>by rw [g1.1 q] at eb;cases eb
     rw [decide_eq_false this];simp
    ·have:¬ k=0\/¬ j4 r v z.nm=so:=q1.imp (fun q=>q.elim (fun q0=>by omega) (fun q0=>absurd (g1.2 eb) q0)) id
     rcases this with q | q
     ·rw [decide_eq_false q];simp
     ·rw [decide_eq_false q];simp
   rw [hz,if_neg (by decide)] at hx;rw [hx];simp
  have hz:Tu r v so (decide (k=0)) m x=true:=by
   rw [hsq];rcases az with ⟨⟨q1,q2⟩,q3⟩ | ⟨q1,q2⟩
   ·rw [g1.1 q2,decide_eq_true q3,decide_eq_true (show k=0 by omega)];rfl
   ·rw [g2.1 (Zp.1 q1),decide_eq_true (Zp.1 q2)];simp
  rw [hz,if_pos I] at hx;apply aH (k+1,z.to) ⟨(show k+1<=L.length from aK),by
   show _=JM r v so (decide (k+1=0)) z.to (L.drop (k+1));rw [show decide (k+1=0)=false from decide_eq_false (by omega)];exact hx⟩ (show L.length-(k+1)<L.length-k by omega)
  case hs1=>exact bS
  case ht=>(try simp only [Ze,Zf,Za]);exact .cons (.there .here) .nil
 ·obtain rfl:k=L.length:=by omega
  rw [Z1,JM] at hx;refine Jq<|Jr<|Jv I<|Jv I<|JI I<|JA I<|Jn<|Jc I fun az=>Jp<|Jl<|Jo<|Jt<|Jq ?_
  with_reducible refine cN 11 (by kernel_rfl) ?_
  (refine gn I I<|lS I I ae<|aA (gX .here) I<|aA (cm .here) I<|gn I I<|dp bb I (fun w' aB=>(Qy (Mem.keeps aB)))<|aA (an (.of I) (.of I) qI (by omega) (by omega) aW) I<|lS I I ae<|aA (ag (.of I) (At.base cD I)) I<|aA (lk (.of I) (.of I)) I<|aA (cM (.of I)) I ?_)
  with_reducible refine cT ?_
  refine Jn<|Je<|JT ?_;rw [hx];simp

theorem FO {r:Ro} (dU:rQ r) (hd:(cQ r).Nodup) {v:Int} {so:ByteArray}:∀ (L:List ByteArray) (b:Bool) (m:Int),(∀ x∈L,x∈cQ r)->VN r r.po v so b m L=JM r v so b m L
 | [],_,_,_=>rfl
 | x :: l, b, m, hL => by
  obtain ⟨j,hj,ej,et,en⟩:=Ky (hL x Zu);have ht:dh r j=x:=by unfold dh;rw [mS hj];exact en
  have e1:kP r x=(Ep r x).fr:=by rw [<- ht,AZ dU.wJ hd hj,ht,et,mS hj]
  have e2:kq r x=(Ep r x).to:=by rw [<- ht,vA dU.wJ hd hj,ht,et,mS hj]
  have e3:(gL r.po v x&&decide (qy r.po v (cK r) x=so))=(gL r.po v x&&decide (j4 r v x=so)):=by
   have:=rE dU.wJ dU.val v so j;unfold ye at this;rw [ht] at this;rw [this];show _=(gL r.po v (dh r j)&&decide (qy r.po v (cK r) (dh r j)=so));rw [ht]
  rw [VN,JM,e1,e2,e3];unfold Tu;rw [Bool.and_assoc];split
  ·exact FO dU hd l false _ fun y hy=>hL y (ZM _ hy)
  ·rfl
theorem MJ (hd:(cQ r).Nodup) {p:List Nat} (hp:∀ i∈p,i<r.ti.length) {j:Nat} (hj:j<r.ti.length):jr (p.map (dh r)) (dh r j)=p.contains j:=by
 rw [ZaQ,fI,ZaI,Zx];constructor
 ·rintro ⟨i,hi,e⟩;rw [<- vf hd (hp i hi) hj e];exact hi
 ·exact fun h=>⟨j,h,I⟩
theorem MR (hb:gy r=0) (v:Int) (L:List ByteArray):oe r v L=yG r.po v L:=by
 unfold oe yG;refine List.countP_congr fun x _=>?_;rw [decide_eq_true_iff,Zbb,Fv hb v x]
theorem LR (r:Ro):∀ A B:List ByteArray,A7 r A B=HT (bC (cQ r)) A B
 | [],[]=>rfl
 | [],_::_=>rfl
 | _::_,[]=>rfl
 | a::l,b::m=>by rw [A7,HT,LR r l m]
theorem PZ (hb:gy r=0) (hd:(cQ r).Nodup) {v:Int} (so:ByteArray) {a b:List Nat} (ha:∀ i∈a,i<r.ti.length) (hc:∀ i∈b,i<r.ti.length):P0 r v (a.map (dh r)) (b.map (dh r))=(dG r r.po v so).lt a b:=by
 rw [<- LN (po:=r.po) (v:=v) (s:=so) hd ha hc];unfold P0 lsN;rw [MR hb,MR hb,LR];by_cases h1:yG r.po v (a.map (dh r))=yG r.po v (b.map (dh r))
 ·rw [if_pos h1,if_neg (not_not_intro h1)];by_cases h2:(a.map (dh r)).length=(b.map (dh r)).length
  ·rw [if_pos h2,if_neg (not_not_intro h2)]
  ·rw [if_neg h2,if_pos h2]
 ·rw [if_neg h1,if_pos h1]
theorem Ua (dU:rQ r) (hd:(cQ r).Nodup) {v:Int} {so de:ByteArray} (hs:so∈cK r) {p:List Nat} (hp:(dG r r.po v so).ok p):iwQ r v so de (p.map (dh r))=decide ((dG r r.po v so).fin p=k7 r de):=by
 have aK:∀ i∈p,i<r.ti.length:=Wn.sq hp;have hL:∀ x∈p.map (dh r),x∈cQ r:=fun x hx=>by
  obtain ⟨i,hi,rfl⟩:=Zx.1 hx;exact mD (aK i hi)
 have hw:=Xd (po:=r.po) (v:=v) (s:=so) (m:=k7 r de) dU.wJ hd (Wn.wF hp) aK;rw [oZ hs,FO dU hd _ _ _ hL] at hw;unfold iwQ;exact decide_eq_decide.2 (hw.trans ⟨fun h=>h.2,fun h=>⟨hp,h⟩⟩)
theorem Tt (dU:rQ r) {v:Int} {so:ByteArray} {p:List Nat} {j:Nat} (hj:j<r.ti.length):(dG r r.po v so).step p j=(!p.contains j&&(p.isEmpty&&gL r.po v (dh r j)&&decide (j4 r v (dh r j)=so)||!gL r.po v (dh r j)&&decide ((ia r j).fr=(dG r r.po v so).fin p))):=by
 have e:(gL r.po v (dh r j)&&decide (j4 r v (dh r j)=so))=(dG r r.po v so).ca j:=rE dU.wJ dU.val v so j;unfold Wn.step;rw [Bool.and_assoc,e,show decide (j<(dG r r.po v so).n)=true from decide_eq_true hj,Zao]
 rfl
def JV (r:Ro) (v:Int) (so de:ByteArray) (k:Nat) (p:List Nat):List (List ByteArray):=((dG r r.po v so).all (k7 r de) k p).map fun q=>q.map (dh r)
theorem JU (r:Ro) (v:Int) (so de:ByteArray) (k:Nat) (p:List Nat):JV r v so de (k+1) p=(if (dG r r.po v so).fin p=k7 r de then [p.map (dh r)] else [])++(((List.range r.ti.length).filter ((dG r r.po v so).step p)).flatMap fun j=>JV r v so de k (p++[j])):=by
 unfold JV;rw [Wn.all,Zv,List.map_flatMap];congr 1;split <;> rfl
def S7 (r:Ro) (v:Int) (so de:ByteArray) (k:Nat) (p:List Nat) (i:Nat):List (List ByteArray):=((List.range i).filter ((dG r r.po v so).step p)).flatMap fun j=>JV r v so de k (p++[j])
theorem JR (r:Ro) (v:Int) (so de:ByteArray) (k:Nat) (p:List Nat) (i:Nat):S7 r v so de k p (i+1)=S7 r v so de k p i++if (dG r r.po v so).step p i=true then JV r v so de k (p++[i]) else []:=by
 unfold S7;rw [Zbw,Zay,List.flatMap_append];congr 1;by_cases h:(dG r r.po v so).step p i=true
 ·rw [ZbA,if_pos h,if_pos h];simp
 ·rw [ZbA,if_neg h,if_neg h];rfl
theorem ql {P:Program} {sl:aL} {hs:List bd} {dst:Option Tmp} {ty:TypeId} {pos:String} {af:Array Edge} {g:Option (Nat×Bool)} {t e:TypeId} {agg:Bool} {size:Nat} [hu:ja P t (.slice e)] [Ty P e agg size]:qL P c sl hs ⟨dst,.buildSlice t 0 #[],ty,pos,af,g⟩ (fun b=>.w b 0 0) (.cells #[] e):=
 kH (ps:=#[]) (fun a ha=>by simp) (fun w=>by
  unfold Instr.buildSlice;simp only [Sem.run_bind,aY hu.eq,Result.andThen_ok,gp (t:=e) (agg:=agg) (n:=size),Zbo];rw [if_neg (by omega)];simp only [if_true,Sem.run_bind,Sem.run_pure,Result.andThen_ok];simp [newRow,Instr.fill,show Array.range 0=#[] from I])
set_option maxHeartbeats 1000000 in
theorem Gm (h:RR w r s d t p) (hf:jv r):a8 T_ 76 [RA r s d t p] w [] (fun _:Value×Value×Value×Value=>True) (fun x=>RA r x.1 x.2.1 x.2.2.1 x.2.2.2) (fun x=>nQ r x):=by
 obtain ⟨h1,h2,h3,h4⟩:=h.one;obtain ⟨f1,f2,f3,f4⟩:=hf;unfold RA;refine aS func76 I I ?_;refine Jr<|Jy I I fun _ _=>Jz I I fun _ _=>Ji ?_
 with_reducible refine bj ql I (fun bq ml=>?_)
 refine bU (g:=bq) (E:=118) (ys:=[]) 0 2 (by exact .here) I I I ?_
 (refine bJ I I ae<|JL I bL I ?_)
 with_reducible apply eX
 case hx=>exact Is.of I
 case hy=>exact Is.of I
 case ht=>exact .here
 case hsrc=>exact fun w' aB=>Rd.keeps h.sr aB.keeps
 case h1=>exact Gd r.sr
 case hz=>exact I
 case hsz=>exact I
 case hb0=>exact I
 case hb=>rw [cy];omega
 case hd=>rfl
 intro v';rw [cy,ZD,Za,show (vk r.sr).flatten=ko r.sr from I];refine aM (v:=v') (by exact .here) fun a1 c1 e=>?_;subst e
 (refine bJ I I ae<|ao (.of I) (.of I) bL I I (dR I) (bz I) ak<|Ji ?_)
 with_reducible refine bj ql I (fun bq ml=>?_)
 refine bU (g:=bq) (E:=88) (ys:=[]) 0 3 (by exact .here) I I I ?_
 (refine bJ I I ae<|JL I (.there .here) I ?_)
 with_reducible apply eX
 case hx=>exact Is.of I
 case hy=>exact Is.of I
 case ht=>exact .here
 case hsrc=>exact fun w' aB=>Rd.keeps h.de aB.keeps
 case h1=>exact G6 r.de
 case hz=>exact I
 case hsz=>exact I
 case hb0=>exact I
 case hb=>rw [cd];omega
 case hd=>rfl
 intro v';rw [cd,ZD,Za,show (u0 r.de).flatten=jt r.de from I];refine aM (v:=v') (by exact .here) fun a2 c2 e=>?_;subst e
 (refine bJ I I ae<|ao (.of I) (.of I) (.there .here) I I (dR I) (bz I) ak<|Ji ?_)
 with_reducible refine bj ql I (fun bq ml=>?_)
 refine bU (g:=bq) (E:=122) (ys:=[]) 0 3 (by exact .here) I I I ?_
 (refine bJ I I ae<|JL I (.there .here) I ?_)
 with_reducible apply eX
 case hx=>exact Is.of I
 case hy=>exact Is.of I
 case ht=>exact .here
 case hsrc=>exact fun w' aB=>Rd.keeps h.ti aB.keeps
 case h1=>exact F7 r.ti
 case hz=>exact I
 case hsz=>exact I
 case hb0=>exact I
 case hb=>rw [bV];omega
 case hd=>rfl
 intro v';rw [bV,ZD,Za,show (uS r.ti).flatten=kz r.ti from I];refine aM (v:=v') (by exact .here) fun a3 c3 e=>?_;subst e
 (refine bJ I I ae<|ao (.of I) (.of I) (.there .here) I I (dR I) (bz I) ak<|Ji ?_)
 with_reducible refine bj ql I (fun bq ml=>?_)
 refine bU (g:=bq) (E:=180) (ys:=[]) 0 3 (by exact .here) I I I ?_
 (refine bJ I I ae<|JL I (.there .here) I ?_)
 with_reducible apply eX
 case hx=>exact Is.of I
 case hy=>exact Is.of I
 case ht=>exact .here
 case hsrc=>exact fun w' aB=>Rd.keeps h.po aB.keeps
 case h1=>exact AX r.po
 case hz=>exact I
 case hsz=>exact I
 case hb0=>exact I
 case hb=>rw [cR];omega
 case hd=>rfl
 intro v';rw [cR,ZD,Za,show (tG r.po).flatten=gl r.po from I];refine aM (v:=v') (by exact .here) fun a4 c4 e=>?_;subst e
 (refine bJ I I ae<|ao (.of I) (.of I) (.there .here) I I (dR I) (bz I) ak<|Ji<|ab (cm .here) I<|ao (.of I) (.of I) eu I I (eF I I I I I I) (bz I) ak<|Jn<|Je ?_)
 with_reducible first|apply aO|apply aQ
 case he=>exact iK I inferInstance I .here ak (by rfl)
 case hR=>
  intro w' aB;exact aD (.slice a1 r.sr.length c1,.slice a2 r.de.length c2,.slice a3 r.ti.length c3,.slice a4 r.po.length c4) trivial (by exact .cons eu (.cons dD (.cons cX (.cons bL .nil)))) aB I
def Hl (r:Ro) (v:Int) (o:ByteArray) (l:List Po):List Po:=l.filter fun p=>!rJ v o p
theorem Kg (h:k<l.length):Hl r v o (l.take (k+1))=Hl r v o (l.take k)++if rJ v o l[k]=true then [] else [l[k]]:=by
 unfold Hl;rw [Zl h,Zay];congr 1;by_cases e:rJ v o l[k]=true
 ·rw [if_pos e];simp [e]
 ·rw [if_neg e];simp [e]
set_option maxHeartbeats 1000000 in
theorem FV (v:Int) (o:ByteArray) (h:RR w r s d t p) (hf:jv r):a8 T_ 168 [RA r s d t p,.q v,.string o] w [] (fun _:Value×Value×Value×Value=>True) (fun x=>RA r x.1 x.2.1 x.2.2.1 x.2.2.2) (fun x=>nQ (r.wp (Hl r v o r.po)) x):=by
 obtain ⟨h1,h2,h3,h4⟩:=h.one;have E7:=h.po;obtain ⟨a4,eW,Ol,IS,rfl,qT,jE,zM,tR⟩:=E7;rw [cR] at *;unfold maxLen at jE;have hf4:=hf.2.2.2;unfold RA;refine aS func168 I I ?_;refine Jr<|Jy I I fun _ _=>Jz I I fun _ _=>Ji<|ab (cm (.there .here)) I ?_;rename_i b3 tr b6 hb6;refine JN bM I (fun w1 aT=>Gm (h.keeps aT.keeps) hf) ?_;rintro ⟨s1,d1,t1,p1⟩ _;dsimp only;unfold RA;refine iC (r:=r) (s:=s1) (d:=d1) (t:=t1) (p:=p1) (bo _ _) fun k1 k2 k3 k4=>?_
 (refine Jz I I fun _ _=>ao (.of I) (.of I) .here I I (eF I I k1 k2 k3 k4) (bz I) ak<|Ji<|bJ I I ae<|ao (.of I) (.of I) .here I I (dR I) (bz I) ak<|Jn<|Jq<|Jr<|Ja I<|Jn<|J0 ?_)
 rename_i b7 Sm;refine aN 180 3 ?_;refine aV (ι:=Nat×Option Addr×Nat×List Po) (fun y=>y.1<=r.po.length/\y.2.2.2=Hl r v o (r.po.take y.1)) (fun y=>[(8,.q (y.1:Nat)),(7,.p b7),(1,.q v),(2,.string o),(3,.p b3),(6,.p b6)]) (fun y=>[row 180 3 (.slice y.2.1 (y.2.2.2).length y.2.2.1) (y.2.2.2).length (gl (y.2.2.2)),JQ b7 r s1 d1 t1 (.slice y.2.1 (y.2.2.2).length y.2.2.1),row 118 2 s1 r.sr.length (ko r.sr),row 88 3 d1 r.de.length (jt r.de),row 122 3 t1 r.ti.length (kz r.ti),JQ b3 r s d t (.slice a4 r.po.length eW),bE b6 (.cells #[.q 0,.q 0,.z,.z,.z,.z] 27 (0,0))]) (fun y=>r.po.length-y.1) ?_ ?_
 ·apply aI (0,none,0,[]) ⟨Zi _,I⟩
  case hs1=>exact bS
  case ht=>
   exact .h5 (.cons bL (.cons (.there .here) .nil))
 rintro ⟨k,g1,qw,L⟩ ⟨hk,hL⟩;dsimp only at hk hL ⊢;by_cases aK:k<r.po.length
 ·have I3:L.length<=1000000:=by rw [hL];unfold Hl;have:=ZV (fun p=>!rJ v o p) (r.po.take k);rw [Zs] at this;omega
  have hlen:(gl L).length=L.length*3:=ic L;have cq:=zM (j8 aK);have aC:=(tR k _ (ie aK)).2;have gQ:=Kg (r:=r) (v:=v) (o:=o) aK;rw [<- hL] at gQ;unfold Po.cells at aC;generalize r.po[k]=x at aC gQ;have cL:=aC 0 _ I;have cO:=aC 1 _ I
  (refine Jq<|Jr<|Jv I<|bJ I I ae<|JL I eu I<|JI I<|JA I<|Jn<|Jd I fun az=>Jk<|Jq<|J0<|Jr<|bJ I I ae<|JL I eu I<|Jv I<|ab (fT cq az) I<|bJ I I ae<|ab (ag (.of I) (At.base cL I)) I<|Jv I<|JD I<|Jv I<|aF I I inferInstance (fun hg br=>(aq (.of I) ae)) I<|aF I I inferInstance (fun hg br=>(ag (.bF hg I) (At.lit eu I))) I<|iQ I I I I<|aF I I inferInstance (fun hg br=>(an (.bF hg I) (.bF hg I) cq (by omega) az aW)) I<|aF I I inferInstance (fun hg br=>(aq (.bF hg I) ae)) I<|aF I I inferInstance (fun hg br=>(ag (.bF hg I) (At.base cO I))) I<|iQ I I I I<|aF I I inferInstance (fun hg br=>(fN (.bF hg I) (.bF hg I))) I<|ab (bA (.of I) I) I<|Jn<|nj I (fun az=>?_) fun az=>?_;rotate_left;refine Jw<|Jj<|Jt<|Jg<|Jv I<|JB I (by omega)<|Ja I<|Jn ?_;rotate_right)
  ·have e:rJ v o x=false:=by
    unfold rJ;rcases az with q | q
    ·rw [decide_eq_false q];rfl
    ·rw [decide_eq_false q];simp
   rw [e,if_neg (by decide)] at gQ
   with_reducible refine dE 8 (by kernel_rfl) ?_
   (refine au (fun β=>(aq (.of I) ae)) bh I<|au (fun β=>(ag (.of I) (At.lit (.there .here) I))) bh I<|au (fun β=>(aq (.of I) ae)) bh I<|au (fun β=>(ag (.of I) (At.lit eu I))) bh I<|au (fun β=>(aP (.of I))) bh I<|au (fun β=>(an (.of I) (.of I) cq (by omega) (by assumption) aW)) bh I<|au (fun β=>(jA (.of I) (eZ.base aC I) I)) bh I ?_)
   refine kE (fun β=>(bn (.o I .nil) I I bH bH ak)) (fun _ _ _=>rfl) I ?_;dsimp only [Nat.zero_add,Nat.reduceAdd];refine eS fun β=>?_;dsimp only [dY,Za,Zb,List.append_eq,Nat.reduceAdd];generalize fu (β 7)=bq;clear β;refine bI (rs:=[8]) (by kernel_rfl) (by simp) (Zq.2 ⟨?_,fun _ h=>absurd h Zo⟩);refine bP I ?_;refine bu (.of I) (.of I) (.there .here) .here ak (by rfl) (fx I I I) (by rfl) (by rfl) (by rfl) ed (by rfl) ?_;intro z;refine Jn ?_;refine bI (rs:=[9]) (by kernel_rfl) (by simp) (Zq.2 ⟨?_,fun _ h=>absurd h Zo⟩);refine bP I ?_
   (refine bJ I I ae<|Jn ?_)
   refine aM (v:=z) (by exact .here) fun gx cx e0=>?_;subst e0;refine bI (rs:=[10]) (by kernel_rfl) (by simp) (Zq.2 ⟨?_,fun _ h=>absurd h Zo⟩);refine bP I ?_
   (refine ao (.of I) (.of I) bL I I (dR I) (bz I) ak<|Jn ?_)
   with_reducible refine cu (by kernel_rfl) ?_
   refine Jj<|Jt<|Jg<|Jv I<|JB I (by omega)<|Ja I<|Jn ?_;apply aH (k+1,gx,cx,L++[x]) ⟨(show k+1<=r.po.length from aK),gQ.symm⟩ (show r.po.length-(k+1)<r.po.length-k by omega)
   case hs1=>exact bS
   case ht=>
    have ba:gl (L++[x])=gl L++[.q x.lv,.string x.ou,.string x.ip]:=by rw [AW];rfl
    show bB _ [row 180 3 (.slice gx (L++[x]).length cx) (L++[x]).length (gl (L++[x])),bE b7 (.cells #[.q r.lv,.q r.ma,s1,d1,t1,.slice gx (L++[x]).length cx] 27 (0,0)),row 118 2 s1 r.sr.length (ko r.sr),row 88 3 d1 r.de.length (jt r.de),row 122 3 t1 r.ti.length (kz r.ti),JQ b3 r s d t (.slice a4 r.po.length eW),bE b6 (.cells #[.q 0,.q 0,.z,.z,.z,.z] 27 (0,0))] _;rw [ba,Zg,Z9];exact .cons (.there .here) (.h1 (.cons (.there .here) (.cons (.there .here) (.cons (.there .here) (.cons (.there .here) (.cons (.there .here) .nil))))))
  ·have e:rJ v o x=true:=by
    unfold rJ;have q:=az;simp at q;rw [decide_eq_true q.1,decide_eq_true q.2];rfl
   rw [e,if_pos I,ZJ] at gQ;apply aH (k+1,g1,qw,L) ⟨(show k+1<=r.po.length from aK),gQ.symm⟩ (show r.po.length-(k+1)<r.po.length-k by omega)
   case hs1=>exact bS
   case ht=>exact iP
 ·obtain rfl:k=r.po.length:=by omega
  rw [ZK] at hL;subst hL
  (refine Jq<|Jr<|Jv I<|bJ I I ae<|JL I eu I<|JI I<|JA I<|Jn<|Jc I fun az=>Jp<|Jl<|Jo<|Jt<|Jr<|ab (cm (.there .here)) I<|ao (.of I) (.of I) kr I I (eF I I k1 k2 k3 I) (bz I) ak<|Jn<|Je ?_)
  with_reducible first|apply aO|apply aQ
  case he=>exact iK I inferInstance I .here ak (by rfl)
  case hR=>
   intro w' aB;exact aD (s1,d1,t1,.slice g1 (Hl r v o r.po).length qw) trivial (by exact .cons cX (.cons cX (.cons cX (.cons (.there .here) .nil)))) aB I
theorem P5 {x b:Po} (h:ng r x b=true):eJ r x (b::l)=x::b::l:=if_pos h
theorem Ub {x b:Po} (h:ng r x b=false):eJ r x (b::l)=b::eJ r x l:=if_neg (by rw [h];decide)
theorem BC (h:k<l.length):l.drop k=l[k]::l.drop (k+1):=Zt h
theorem px {α:Type} (L:List α) (x:α):L.length+1=(L++[x]).length:=by simp
theorem sg (L:List Po) (x:Po):gl (L++[x])=gl L++[.q x.lv,.string x.ou,.string x.ip]:=by rw [AW];rfl
def tf (r:Ro) (x:Po) (k:Nat) (pl:Bool) (L:List Po):Prop:=(pl=true/\eJ r x r.po=L++r.po.drop k/\L.length=k+1)\/(pl=false/\eJ r x r.po=L++eJ r x (r.po.drop k)/\L.length=k)
theorem tf.pl {r:Ro} {x:Po} {k:Nat} {pl:Bool} {L:List Po} (h:tf r x k pl L) (hk:k<r.po.length) (hp:pl=true\/ng r x r.po[k]=false):tf r x (k+1) pl (L++[r.po[k]]):=by
 rcases h with ⟨e,h1,h2⟩ | ⟨e,h1,h2⟩
 ·exact .inl ⟨e,by rw [h1,BC hk];simp,by simp [h2]⟩
 ·refine .inr ⟨e,?_,by simp [h2]⟩;rcases hp with q | q
  ·rw [e] at q;cases q
  ·rw [h1,BC hk,Ub q];simp
theorem tf.put (h:tf r x k false L) (hk:k<r.po.length) (hp:ng r x r.po[k]=true):tf r x (k+1) true (L++[x]++[r.po[k]]):=by
 rcases h with ⟨e,h1,h2⟩ | ⟨e,h1,h2⟩
 ·cases e
 ·exact .inl ⟨I,by rw [h1,BC hk,P5 hp];simp,by simp [h2]⟩
theorem tf.adB (h:tf r x r.po.length true L):L=eJ r x r.po:=by
 rcases h with ⟨e,h1,h2⟩ | ⟨e,h1,h2⟩
 ·rw [h1,Z1,ZJ]
 ·cases e
theorem tf.adC (h:tf r x r.po.length false L):L++[x]=eJ r x r.po:=by
 rcases h with ⟨e,h1,h2⟩ | ⟨e,h1,h2⟩
 ·cases e
 ·rw [h1,Z1];rfl
theorem tf.B4 {pl:Bool} (h:tf r x k pl L):L.length<=k+1:=by
 rcases h with ⟨_,_,h2⟩ | ⟨_,_,h2⟩ <;> omega
set_option maxHeartbeats 1000000 in
theorem WI (h:RR w r s d t p) (hf:jv r):a8 T_ 170 [RA r s d t p,.agg #[.q x.lv,.string x.ou,.string x.ip]] w [] (fun _:Value×Value×Value×Value=>True) (fun y=>RA r y.1 y.2.1 y.2.2.1 y.2.2.2) (fun y=>nQ (r.wp (eJ r x r.po)) y):=by
 obtain ⟨h1,h2,h3,h4⟩:=h.one;have E7:=h.po;have XJ:∀ (o:ByteArray) {w'},aJ [] w w'->aj T_ 230 [.agg #[.int .i64 r.lv,.int .i64 r.ma,s,d,t,p],.string o] w' (.int .i64 (eE r o)):=fun o _ hk=>Gn o (h.keeps hk) hf
 obtain ⟨a4,eW,Ol,IS,rfl,qT,jE,zM,tR⟩:=E7;have hoa:=fun (o:ByteArray) {w'}=>XJ o (w':=w')
 clear XJ;rw [cR] at *;unfold maxLen at jE;have hf4:=hf.2.2.2;unfold RA;refine aS func170 I I ?_;refine Jr<|Jy I I fun _ _=>Jy I I fun _ _=>Jz I I fun _ _=>Ji<|ab (cm bL) I ?_;rename_i b2 rM b3 tr b4 tS;refine JN bM I (fun w1 aT=>Gm (h.keeps aT.keeps) hf) ?_;rintro ⟨s1,d1,t1,p1⟩ _;dsimp only;unfold RA;refine iC (r:=r) (s:=s1) (d:=d1) (t:=t1) (p:=p1) (bo _ _) fun k1 k2 k3 k4=>?_
 (refine Jz I I fun _ _=>ao (.of I) (.of I) .here I I (eF I I k1 k2 k3 k4) (bz I) ak<|Ji<|bJ I I ae<|ao (.of I) (.of I) .here I I (dR I) (bz I) ak<|Ji<|Ja I<|Jn<|Jq<|Jr<|Ja I<|Jn<|J0 ?_)
 rename_i b5 Ia;refine aN 180 3 ?_;refine aV (ι:=Nat×Bool×Option Addr×Nat×List Po) (fun y=>y.1<=r.po.length/\tf r x y.1 y.2.1 y.2.2.2.2) (fun y=>[(7,.q (y.1:Nat)),(6,.bool y.2.1),(5,.p b5),(2,.p b2),(3,.p b3),(4,.p b4)]) (fun y=>[row 180 3 (.slice y.2.2.1 (y.2.2.2.2).length y.2.2.2.1) (y.2.2.2.2).length (gl (y.2.2.2.2)),JQ b5 r s1 d1 t1 (.slice y.2.2.1 (y.2.2.2.2).length y.2.2.2.1),row 118 2 s1 r.sr.length (ko r.sr),row 88 3 d1 r.de.length (jt r.de),row 122 3 t1 r.ti.length (kz r.ti),JQ b2 r s d t (.slice a4 r.po.length eW),bE b3 (.cells #[.q x.lv,.string x.ou,.string x.ip] 180 (0,0)),bE b4 (.cells #[.q 0,.q 0,.z,.z,.z,.z] 27 (0,0))]) (fun y=>r.po.length-y.1) ?_ ?_
 ·apply aI (0,false,none,0,[]) ⟨Zi _,.inr ⟨I,I,I⟩⟩
  case hs1=>exact bS
  case ht=>
   exact .h5 (.cons cX (.cons bL (.cons (.there .here) .nil)))
 rintro ⟨k,pl,g1,qw,L⟩ ⟨hk,hL⟩;dsimp only at hk hL ⊢;have hLf:=hL.B4;by_cases aK:k<r.po.length
 ·have hlen:(gl L).length=L.length*3:=ic L;have cq:=zM (j8 aK);have aC:=(tR k _ (ie aK)).2;have oB:=fun q=>hL.pl aK q
  have hye:=fun (q1:pl=false) q2=>tf.put (r:=r) (x:=x) (k:=k) (L:=L) (by rw [<- q1];exact hL) aK q2
  unfold Po.cells at aC;generalize r.po[k]=z at aC oB hye
  (refine Jq<|Jr<|Jv I<|bJ I I ae<|JL I eu I<|JI I<|JA I<|Jn<|Jd I fun az=>Jk<|Jq<|J0<|Jr<|bJ I I ae<|JL I eu I<|Jv I<|ab (fT cq az) I<|ab (iO (eZ.base aC I)) I<|Jz I I fun _ _=>ao (.of I) (.of I) .here I I (fx I I I) (bz I) ak<|Jn<|Jq<|Jq ?_)
  rename_i b8 hb8
  with_reducible refine cN 27 (by kernel_rfl) ?_
  (refine gn I I<|aA (dN (.of I)) I<|gn I I<|bN I I inferInstance (fun hg br=>(aq (.of I) ae)) I<|bN I I inferInstance (fun hg br=>(ag (.bF hg I) (At.lit tt I))) I<|bN I I inferInstance (fun hg br=>(aq (.of I) ae)) I<|bN I I inferInstance (fun hg br=>(ag (.bF hg I) (At.lit .here I))) I<|bN I I inferInstance (fun hg br=>(lh (.bF hg I) (.bF hg I))) I<|bN I I inferInstance (fun hg br=>(aP (.bF hg I))) I<|gM I I inferInstance (fun hg br=>(aq (.of I) ae)) I<|gM I I inferInstance (fun hg br=>(ag (.bF hg I) (At.lit tt I))) I<|gM I I inferInstance (fun hg br=>(aq (.of I) ae)) I<|gM I I inferInstance (fun hg br=>(ag (.bF hg I) (At.lit .here I))) I<|gM I I inferInstance (fun hg br=>(lk (.bF hg I) (.bF hg I))) I<|gM I I inferInstance (fun hg br=>(aP (.bF hg I))) I<|gM I I inferInstance (fun hg br=>(bK (.of I) kr ak (by rfl))) I<|gM I I inferInstance (fun hg br=>(aq (.of I) ae)) I<|gM I I inferInstance (fun hg br=>(ag (.bF hg I) (At.lit tt I))) I<|nH I I (fun hg=>(a7 (.of I) (.cons (.bF hg I) (.cons (.bF hg I) .nil)) inferInstance dZ)) I (fun hg w' aB=>(hoa _ (Mem.keeps aB)))<|gM I I inferInstance (fun hg br=>(bK (.of I) kr ak (by rfl))) I<|gM I I inferInstance (fun hg br=>(aq (.of I) ae)) I<|gM I I inferInstance (fun hg br=>(ag (.bF hg I) (At.lit .here I))) I<|nH I I (fun hg=>(a7 (.of I) (.cons (.bF hg I) (.cons (.bF hg I) .nil)) inferInstance dZ)) I (fun hg w' aB=>(hoa _ (Mem.keeps aB)))<|gM I I inferInstance (fun hg br=>(lh (.bF hg I) (.bF hg I))) I<|gM I I inferInstance (fun hg br=>(gE hg (.bF hg I) I)) I<|bN I I inferInstance (fun hg br=>(jS hg (.bF hg I) I)) I<|aA (bX (.of I) I) I ?_)
  with_reducible refine cT ?_
  (refine Jn<|nj I (fun az=>?_) fun az=>?_;refine Jr<|bJ I I ae<|JL I bL I<|ab (cm tt) I<|bj (bn (.o I .nil) I I bH bH ak) I fun _ _=>?_;rotate_left;refine Jk<|Jg<|bJ I I ae<|JL I bL I<|ab (cm .here) I<|bj (bn (.o I .nil) I I bH bH ak) I fun _ _=>?_;rotate_right)
  ·have hp:ng r x z=true:=by
    unfold ng;rcases az.2 with q | ⟨q1,q2⟩
    ·rw [decide_eq_true q];rfl
    ·rw [decide_eq_true q1,decide_eq_true q2];simp
   have gQ:=hye az.1 hp;have D5:(L++[x]).length=L.length+1:=(px L x).symm;have aeh:(gl (L++[x])).length=(L++[x]).length*3:=ic _;refine bu (.of I) (.of I) bL .here ak (by rfl) (fx I I I) (by rfl) (by rfl) (by rfl) ed (by rfl) ?_;intro q;refine aM (v:=q) (by exact .here) fun gx cx e0=>?_;subst e0;rw [<- sg,px (L) x]
   (refine bJ I I ae<|ao (.of I) (.of I) cX I I (dR I) (bz I) ak<|Jn<|Jg<|Ja I<|Jn<|Jg<|bJ I I ae<|JL I .here I<|ab (cm cX) I<|bj (bn (.o I .nil) I I bH bH ak) I fun _ _=>?_)
   refine bu (.of I) (.of I) bL .here ak (by rfl) (fx I I I) (by rfl) (by rfl) (by rfl) ed (by rfl) ?_;intro q;refine aM (v:=q) (by exact .here) fun gx cx e0=>?_;subst e0;rw [<- sg,px (L++[x]) z]
   (refine bJ I I ae<|ao (.of I) (.of I) bL I I (dR I) (bz I) ak<|Jx<|Jj<|Jt<|Jg<|Jv I<|JB I (by omega)<|Ja I<|Jn ?_)
   apply aH (k+1,true,gx,cx,L++[x]++[z]) ⟨(show k+1<=r.po.length from aK),gQ⟩ (show r.po.length-(k+1)<r.po.length-k by omega)
   case hs1=>exact bS
   case ht=>exact iP
  ·have hq:pl=true\/ng r x z=false:=by
    cases pl with
    | true=>exact .inl rfl
    | false =>
     refine .inr ?_;unfold ng;obtain ⟨q1,q2⟩:=az.resolve_left (by decide);rw [decide_eq_false q1];rcases q2 with q2 | q2
     ·rw [decide_eq_false q2];rfl
     ·rw [decide_eq_false q2];simp
   have gQ:=oB hq;refine bu (.of I) (.of I) bL .here ak (by rfl) (fx I I I) (by rfl) (by rfl) (by rfl) ed (by rfl) ?_;intro q;refine aM (v:=q) (by exact .here) fun gx cx e0=>?_;subst e0;rw [<- sg,px (L) z]
   (refine bJ I I ae<|ao (.of I) (.of I) cX I I (dR I) (bz I) ak<|Jx<|Jj<|Jt<|Jg<|Jv I<|JB I (by omega)<|Ja I<|Jn ?_)
   apply aH (k+1,pl,gx,cx,L++[z]) ⟨(show k+1<=r.po.length from aK),gQ⟩ (show r.po.length-(k+1)<r.po.length-k by omega)
   case hs1=>exact bS
   case ht=>exact iP
 ·obtain rfl:k=r.po.length:=by omega
  have hlen:(gl L).length=L.length*3:=ic L;cases pl with
  | true =>
   have e:=hL.adB;subst e
   (refine Jq<|Jr<|Jv I<|bJ I I ae<|JL I eu I<|JI I<|JA I<|Jn<|Jc I fun az=>Jp<|Jl<|Jo<|Jt<|Jq<|Jr<|Jv I<|JH I<|Jn<|ch (.of I)<|Jk<|Jr<|ab (cm (.there .here)) I<|ao (.of I) (.of I) tt I I (eF I I k1 k2 k3 I) (bz I) ak<|Jn<|Je ?_)
   with_reducible first|apply aO|apply aQ
   case he=>exact iK I inferInstance I .here ak (by rfl)
   case hR=>
    intro w' aB;exact aD (s1,d1,t1,.slice g1 (eJ r x r.po).length qw) trivial (by exact .cons cX (.cons cX (.cons cX (.cons (.there .here) .nil)))) aB I
  | false =>
   have e:=hL.adC
   (refine Jq<|Jr<|Jv I<|bJ I I ae<|JL I eu I<|JI I<|JA I<|Jn<|Jc I fun az=>Jp<|Jl<|Jo<|Jt<|Jq<|Jr<|Jv I<|JH I<|Jn<|cW (.of I)<|Jg<|bJ I I ae<|JL I (.there .here) I<|ab (cm kr) I<|bj (bn (.o I .nil) I I bH bH ak) I fun _ _=>?_)
   refine bu (.of I) (.of I) (.there .here) .here ak (by rfl) (fx I I I) (by rfl) (by rfl) (by rfl) ed (by rfl) ?_;intro q;refine aM (v:=q) (by exact .here) fun gx cx e0=>?_;subst e0;rw [<- sg,px (L) x]
   (refine bJ I I ae<|ao (.of I) (.of I) bL I I (dR I) (bz I) ak<|Ji<|ab (cm .here) I<|ao (.of I) (.of I) IF I I (eF I I k1 k2 k3 I) (bz I) ak<|Jn<|Je ?_)
   rw [e]
   with_reducible first|apply aO|apply aQ
   case he=>exact iK I inferInstance I .here ak (by rfl)
   case hR=>
    intro w' aB;exact aD (s1,d1,t1,.slice gx (eJ r x r.po).length cx) trivial (by exact .cons dD (.cons dD (.cons dD (.cons bL .nil)))) aB I
end Go.Proofs.A1
