/- Parts of the proof: LZ MA MB MC PS P6d MD ME MF PC MG MH MI P6f P6g ML MM MN MO P6h GkPoolK MJ MK MP PW MQ MR MS PV MT P6i WH NA NB P6k PF NC PO ND NE NF NG TryzBits NH NI PP P6l PU P6j GkRegT. -/
import Derived.Test.YteonnodafmegaaaGreatDoorKM13
import Derived.Test.YteonnodafmegaaaGreatDoorKM04
import Derived.Test.YteonnodafmegaaaGreatDoorKM12
import Derived.Test.YteonnodafmegaaaGreatDoorKM06
import Derived.Test.YteonnodafmegaaaGreatDoorKM09
import Derived.Test.YteonnodafmegaaaGreatDoorKM03
import Derived.Test.YteonnodafmegaaaGreatDoorKM10
import Derived.Test.YteonnodafmegaaaGreatDoorKM08
import Derived.Test.YteonnodafmegaaaGreatDoorKM11
import Derived.Shelf.Bits.Mul64
import Derived.Ground.NamesProg
import Derived.Ground.Names2Prog
import Derived.Test.YteonnodafmegaaaGreatDoorProg
set_option linter.unusedSectionVars false
set_option linter.unusedVariables false
set_option linter.unusedSimpArgs false
namespace Go.Proofs.A1
open Go Go.SL
open Tryz
open Tryz renaming prog->T_
variable {k:Nat} {q:Int->Ti->Bool} {w:World}
theorem QY {c:Cx} {hs hs':List bh} (hm:Mem c hs w) {g gc:Nat} {L:List ByteArray} {cur:List Value} {E:TypeId} {fz:Nat×Nat} (ht:Take hs (bA g (.cells (aO L++cur).toArray E fz)) hs') (hc:L.length<=gc) (hx:gc<=maxLen):Rd w (.w g L.length gc) 1 (ie L):=by
 refine ⟨_,gc,g,0,by rw [cu],by rw [cu];exact hc,hx,fun _=>rfl,fun i r hr=>?_⟩;have hi:=(Zl.1 hr).1;rw [cu] at hi;rw [jf hi] at hr;obtain rfl:=Option.some.inj hr;refine ⟨I,fun j u hu=>?_⟩;cases j with
 | zero =>
  simp only [Zaz,Option.some.injEq] at hu;subst hu;rw [cell_of_block (hm.bA ht)];simp [aO,ZG,hi]
 | succ j=>simp at hu
theorem II {c:Cx} {hs hs':List bh} (hm:Mem c hs w) {g gc:Nat} {L:List ByteArray} {cur:List Value} {E:TypeId} {fz:Nat×Nat} (ht:Take hs (bA g (.cells (aO L++cur).toArray E fz)) hs') (hc:L.length<=gc) (hx:gc<=maxLen) {k:Nat} (hk:k<=L.length):Rd w (Go.sliced (some ⟨g,0,none⟩) 0 (k:Int).toNat gc 1) 1 (ie (L.take k)):=by
 have:=(QY hm ht hc hx).sliced (l:=0) (m:=k) (Zi _) hk;rw [Zy];rwa [List.drop_zero,show (ie L).take k=ie (L.take k) by unfold ie;rw [ZaN]] at this
theorem Ly {r:Ro} {s d t p:Value} (m:Int) {w w1:World} (h:RR w1 r s d t p):ao T_ 162 [RA r s d t p,.q m] w (.q (fo r m)):=by
 obtain ⟨h1,h2,h3,h4⟩:=h.one;unfold RA;refine ak func162 I I ?_
 (refine Jr<|Jy I I fun _ _=>Ja I<|Ji<|Jv I<|JA I<|Jv I<|gy I I I I<|au I I (fun hg bG=>(ai (.of I) ae)) I<|au I I (fun hg bG=>(ag (.bX hg I) (At.lit .here I))) I<|au I I (fun hg bG=>(Af (.bX hg I) (.bX hg I))) I<|ab (bE (.of I) I) I<|aj bo I (fun w' az=>(oy _ 10 w'))<|Ja I<|Jn<|Je<|JT ?_)
 rfl
theorem CV {r:Ro} {s d t p:Value} (k:Nat) {w:World} (h:RR w r s d t p) (hf:mu r) (hk:k<(cY r).length):ao T_ 229 [RA r s d t p,.q (k:Nat)] w (.q (Ak r k)):=by
 obtain ⟨h1,h2,h3,h4⟩:=h.one;have Dj:∀ w',aH [] w w'->bB T_ 77 [.agg #[.int .i64 r.lv,.int .i64 r.ma,s,d,t,p]] w' [] (fun _:Value=>True) id (fun x=>[row 9 1 x (cY r).length (aO (cY r))]):=fun w' hk=>uR (h.keeps hk) hf
 rw [Nv hk];have AN:(cY r).length<=3000000:=by
  obtain ⟨f1,f2,f3,f4⟩:=hf;unfold cY cz bY ct;simp only [Zg,Zd];omega
 generalize cY r=L at Dj hk AN ⊢;have Yt:k<=L.length:=by omega
 unfold RA;refine ak func229 I I ?_;refine Jr<|Jy I I fun _ _=>Ja I<|Ji<|ab (cN .here) I ?_;refine JN bS I (fun w1 aY=>Dj w1 aY.keeps) ?_;intro x _;dsimp only [id_eq,Zb,Za];refine dP (E:=9) (sz:=1) (v:=x) (by exact .here) (by omega) ?_;rintro g gc cur e dD xT _ _;subst e;have jJ:(aO L++cur)[k*1]? = some (.string L[k]):=BN L cur hk;refine Ja I<|Jn<|Jq ?_
 with_reducible refine cS 15 (by kernel_rfl) ?_
 (refine ar kL I ?_;refine ar kL I ?_;refine ar (aC (.of I) (.of I) I (by omega) (by omega) bu) I ?_;refine ar (ag (.of I) (At.pj .here jJ)) I ?_;refine aZ bS I (fun w' az=>(Xs _ w')) ?_;refine ar kL I ?_;refine ar kL I ?_;refine ar (gE (.of I) (.of I) (by omega) (by omega)) I ?_;refine ar kL I ?_;refine ar kL I ?_;refine ar (aC (.of I) (.of I) I (by omega) (by omega) bu) I ?_;refine ar (ag (.of I) (At.pj .here jJ)) I ?_;refine aZ bo I (fun w' az=>(K0 _ (II az .here dD xT Yt))) ?_;refine aZ bo I (fun w' az=>(oy _ 9 w')) ?_;refine eA (aB (.o I (.o I .nil)) I I I I) I I ?_)
 with_reducible refine dz I fun bq lN=>?_
 (refine aj bS I (fun w' az=>(mT (Mem.dB az .here I I) (cg.cons (cg.cons cg.nil))))<|Ja I<|Jn<|Je<|JT ?_)
 rfl
set_option maxHeartbeats 1000000 in
theorem A5 {r:Ro} {s d t p:Value} (h:RR w r s d t p) (hf:mu r):ao T_ 127 [RA r s d t p] w (.q (jy r)):=by
 obtain ⟨h1,h2,h3,h4⟩:=h.one;have R4:∀ k,k<(cY r).length->∀ w',aH [] w w'->ao T_ 229 [.agg #[.int .i64 r.lv,.int .i64 r.ma,s,d,t,p],.int .i64 (k:Nat)] w' (.int .i64 (Ak r k)):=fun k hk w' Yt=>CV k (h.keeps Yt) hf hk
 have fB:∀ (m:Int) {w'},aH [] w w'->ao T_ 162 [.agg #[.q r.lv,.q r.ma,s,d,t,p],.q m] w' (.q (fo r m)):=fun m _ hk=>Ly m (h.keeps hk)
 have dZ:=LS r;have GZ:=h.sr;have G7:=h.de;have Cz:=h.ti;obtain ⟨a1,eI,Qe,Ps,rfl,qp,jd,l7,kM⟩:=GZ;obtain ⟨a2,dL,Qd,Pr,rfl,kp,fh,js,jT⟩:=G7;obtain ⟨a3,ew,LH,I4,rfl,mS,gi,sX,qe⟩:=Cz;rw [cy] at *;rw [bZ] at *;rw [bU] at *;unfold maxLen at jd fh gi;obtain ⟨f1,f2,f3,f4⟩:=hf;unfold RA;refine ak func127 I I ?_
 (refine Jr<|Jy I I fun _ _=>Ja I<|Ji<|Ja I<|Jn<|Jq<|Jr<|bN I I ae<|JL I .here I<|JI I<|JE I<|Jn<|gR I (fun aA=>?_) fun aA=>?_;refine Jr<|Ja I<|Jn<|Ju<|JT ?_;rotate_left;refine Jk<|Jq<|Jr<|Ja I<|Jn<|J0 ?_;rotate_right)
 ·skip
  have e:fa 8 [] Sr.nm (fun x=>fo r x.mx) r.sr=5:=by unfold fa;rw [if_pos (show (8:Int)<(r.sr.length:Int) by omega)]
  rw [Xm (by rw [e];decide),e]
 rename_i b1 rW;refine bd (ι:=Nat) (fun x=>x<=r.sr.length/\∀ i,i<x->xM [] Sr.nm (fun x=>fo r x.mx) r.sr i=0) (fun x=>[(4,.q (x:Nat)),(3,.q ((x:Nat):Int)),(1,.p b1)]) (fun x=>[JQ b1 r (.slice a1 r.sr.length eI) (.slice a2 r.de.length dL) (.slice a3 r.ti.length ew) p]) (fun x=>r.sr.length-x) ?_ ?_
 ·apply aJ (0:Nat) ⟨Zi _,fun i h=>absurd h (ZW _)⟩
  case hs1=>exact cB
  case ht=>(try simp only [Ze,Zf,Za]);exact .h1 .nil
 rintro k ⟨hk,hz⟩;by_cases aN:k<r.sr.length
 ·have c8:=l7 (gW aN);obtain ⟨jc,aG⟩:=kM k _ (fG aN);unfold Sr.cells at aG;have cc0:=aG 0 _ I;have W8:=aG 1 _ I;have R5:=R4 (k) (by omega);have hq:=TY (r:=r) aN
  (refine Jq<|Jr<|Jv I<|bN I I ae<|JL I .here I<|JI I<|JA I<|Jn<|Jd I fun aA=>Jk<|Jq<|J0<|Jq<|Jq ?_)
  with_reducible refine cS 12 (by kernel_rfl) ?_
  (refine ar (cN .here) I<|ar kL I<|aZ bo I (fun w' az=>(R5 w' (Mem.keeps az)))<|ar (cN .here) I<|ar k9 I<|ar (ic .here) I<|ar kL I<|ar (gr c8 aA) I<|ar k9 I<|ar (ag (.of I) (At.base W8 I)) I<|aZ bo I (fun w' az=>(fB _ (Mem.keeps az)))<|eA (aB (.o I (.o I .nil)) I I I I) I I ?_)
  with_reducible refine dz I fun bq lN=>?_
  (refine aj bS I (fun w' az=>(mT (Mem.dB az .here I I) (cg.cons (cg.cons cg.nil))))<|Ja I<|Ji<|Jv I<|JD I<|Jn<|gR I (fun aA=>?_) fun aA=>?_;refine Jr<|Jv I<|Ja I<|Jn<|Ju<|Jm<|Jh<|Jh<|Jm<|Jh<|JT ?_;rotate_left;refine Jk<|Jg<|Jv I<|JB I (by omega)<|Ja I<|Jx<|Jj<|Jt<|Jg<|Jv I<|JB I (by omega)<|Ja I<|Jn ?_;rotate_right)
  ·rw [hq] at aA ⊢;have hb:fa 8 [] Sr.nm (fun x=>fo r x.mx) r.sr=xM [] Sr.nm (fun x=>fo r x.mx) r.sr k:=by unfold fa;rw [if_neg (by omega)];exact fj hz aN aA
   rw [Xm (by rw [hb];exact aA),hb]
  have Kr:xM [] Sr.nm (fun x=>fo r x.mx) r.sr k=0:=by rw [<- hq];exact Zr.1 aA
  apply aI (k+1) ⟨(show k+1<=r.sr.length from aN),fun i hi=>by
   by_cases e:i=k
   ·rw [e];exact Kr
   ·exact hz i (by omega)⟩ (show r.sr.length-(k+1)<r.sr.length-k by omega)
  case hs1=>exact cB
  case ht=>(try simp only [Ze,Zf,Za]);exact .cons (.there .here) .nil
 obtain rfl:k=r.sr.length:=by omega
 have z1:fa 8 [] Sr.nm (fun x=>fo r x.mx) r.sr=0:=by unfold fa;rw [if_neg (by omega)];exact dC.2 hz
 clear hk aN hz
 (refine Jq<|Jr<|Jv I<|bN I I ae<|JL I .here I<|JI I<|JA I<|Jn<|Jc I fun aA=>Jp<|Jl<|Jo<|Jt<|Jq<|Jr<|bN I I ae<|JL I .here I<|JI I<|JE I<|Jn<|gR I (fun aA=>?_) fun aA=>?_;refine Jr<|Ja I<|Jn<|Ju<|JT ?_;rotate_left;refine Jk<|Jq<|Jr<|Ja I<|Jn<|J0 ?_;rotate_right)
 ·have e:fa 8 (cz r) De.nm (fun x=>fo r x.mx) r.de=5:=by unfold fa;rw [if_pos (show (8:Int)<(r.de.length:Int) by omega)]
  rw [Xl z1 (by rw [e];decide),e]
 refine bd (ι:=Nat) (fun x=>x<=r.de.length/\∀ i,i<x->xM (cz r) De.nm (fun x=>fo r x.mx) r.de i=0) (fun x=>[(6,.q (x:Nat)),(3,.q ((r.sr.length+x:Nat):Int)),(1,.p b1)]) (fun x=>[JQ b1 r (.slice a1 r.sr.length eI) (.slice a2 r.de.length dL) (.slice a3 r.ti.length ew) p]) (fun x=>r.de.length-x) ?_ ?_
 ·apply aJ (0:Nat) ⟨Zi _,fun i h=>absurd h (ZW _)⟩
  case hs1=>exact cB
  case ht=>(try simp only [Ze,Zf,Za]);exact .h1 .nil
 rintro k ⟨hk,hz⟩;by_cases aN:k<r.de.length
 ·have c8:=js (gI aN);obtain ⟨jc,aG⟩:=jT k _ (fq aN);unfold De.cells at aG;have cc0:=aG 0 _ I;have W8:=aG 1 _ I;have R5:=R4 (r.sr.length+k) (by omega);have hq:=TZ (r:=r) aN
  (refine Jq<|Jr<|Jv I<|bN I I ae<|JL I .here I<|JI I<|JA I<|Jn<|Jd I fun aA=>Jk<|Jq<|J0<|Jq<|Jq ?_)
  with_reducible refine cS 12 (by kernel_rfl) ?_
  (refine ar (cN .here) I<|ar kL I<|aZ bo I (fun w' az=>(R5 w' (Mem.keeps az)))<|ar (cN .here) I<|ar k9 I<|ar (ic .here) I<|ar kL I<|ar (gr c8 aA) I<|ar k9 I<|ar (ag (.of I) (At.base W8 I)) I<|aZ bo I (fun w' az=>(fB _ (Mem.keeps az)))<|eA (aB (.o I (.o I .nil)) I I I I) I I ?_)
  with_reducible refine dz I fun bq lN=>?_
  (refine aj bS I (fun w' az=>(mT (Mem.dB az .here I I) (cg.cons (cg.cons cg.nil))))<|Ja I<|Ji<|Jv I<|JD I<|Jn<|gR I (fun aA=>?_) fun aA=>?_;refine Jr<|Jv I<|Ja I<|Jn<|Ju<|Jm<|Jh<|Jh<|Jm<|Jh<|JT ?_;rotate_left;refine Jk<|Jg<|Jv I<|JB I (by omega)<|Ja I<|Jx<|Jj<|Jt<|Jg<|Jv I<|JB I (by omega)<|Ja I<|Jn ?_;rotate_right)
  ·rw [hq] at aA ⊢;have hb:fa 8 (cz r) De.nm (fun x=>fo r x.mx) r.de=xM (cz r) De.nm (fun x=>fo r x.mx) r.de k:=by unfold fa;rw [if_neg (by omega)];exact fj hz aN aA
   rw [Xl z1 (by rw [hb];exact aA),hb]
  have Kr:xM (cz r) De.nm (fun x=>fo r x.mx) r.de k=0:=by rw [<- hq];exact Zr.1 aA
  apply aI (k+1) ⟨(show k+1<=r.de.length from aN),fun i hi=>by
   by_cases e:i=k
   ·rw [e];exact Kr
   ·exact hz i (by omega)⟩ (show r.de.length-(k+1)<r.de.length-k by omega)
  case hs1=>exact cB
  case ht=>(try simp only [Ze,Zf,Za]);exact .cons (.there .here) .nil
 obtain rfl:k=r.de.length:=by omega
 have z2:fa 8 (cz r) De.nm (fun x=>fo r x.mx) r.de=0:=by unfold fa;rw [if_neg (by omega)];exact dC.2 hz
 clear hk aN hz
 (refine Jq<|Jr<|Jv I<|bN I I ae<|JL I .here I<|JI I<|JA I<|Jn<|Jc I fun aA=>Jp<|Jl<|Jo<|Jt<|Jq<|Jr<|bN I I ae<|JL I .here I<|JI I<|JE I<|Jn<|gR I (fun aA=>?_) fun aA=>?_;refine Jr<|Ja I<|Jn<|Ju<|JT ?_;rotate_left;refine Jk<|Jq<|Jr<|Ja I<|Jn<|J0 ?_;rotate_right)
 ·have e:fa 6 (cz r++bY r) Ti.nm (nq r) r.ti=5:=by unfold fa;rw [if_pos (show (6:Int)<(r.ti.length:Int) by omega)]
  rw [D1 z1 z2,e]
 refine bd (ι:=Nat) (fun x=>x<=r.ti.length/\∀ i,i<x->xM (cz r++bY r) Ti.nm (nq r) r.ti i=0) (fun x=>[(8,.q (x:Nat)),(3,.q (((r.sr.length+r.de.length)+x:Nat):Int)),(1,.p b1)]) (fun x=>[JQ b1 r (.slice a1 r.sr.length eI) (.slice a2 r.de.length dL) (.slice a3 r.ti.length ew) p]) (fun x=>r.ti.length-x) ?_ ?_
 ·apply aJ (0:Nat) ⟨Zi _,fun i h=>absurd h (ZW _)⟩
  case hs1=>exact cB
  case ht=>(try simp only [Ze,Zf,Za]);exact .h1 .nil
 rintro k ⟨hk,hz⟩;by_cases aN:k<r.ti.length
 ·have c8:=sX (eV aN);obtain ⟨jc,aG⟩:=qe k _ (ed aN);unfold Ti.cells at aG;have cc0:=aG 0 _ I;have W8:=aG 1 _ I;have R5:=R4 ((r.sr.length+r.de.length)+k) (by omega);have hq:=TX (r:=r) aN
  (refine Jq<|Jr<|Jv I<|bN I I ae<|JL I .here I<|JI I<|JA I<|Jn<|Jd I fun aA=>Jk<|Jq<|J0<|Jr<|bN I I ae<|JL I .here I<|Jv I<|ab (gr c8 aA) I<|ab (iD (eO.base aG I)) I<|Jz I I fun _ _=>aq (.of I) (.of I) .here I I (fc I I I) (bF I) an<|Jn<|Jq<|Jq ?_)
  with_reducible refine cS 18 (by kernel_rfl) ?_
  (refine ar (cN (.there .here)) I<|ar kL I<|aZ bo I (fun w' az=>(R5 w' (Mem.keeps az)))<|ar (cN (.there .here)) I<|ar k9 I<|ar (ic .here) I<|aZ bo I (fun w' az=>(fB _ (Mem.keeps az)))<|ar (cN (.there .here)) I<|ar k9 I<|ar (ic .here) I<|aZ bo I (fun w' az=>(fB _ (Mem.keeps az)))<|ar k9 I<|ar (ic .here) I<|ar k9 I<|ar (ic .here) I<|ar (fR (.of I) (.of I)) I<|aZ bo I (fun w' az=>(oy _ 24 w'))<|eA (aB (.o I (.o I (.o I (.o I .nil)))) I I I I) I I ?_)
  with_reducible refine dz I fun bq lN=>?_
  (refine aj bS I (fun w' az=>(mT (Mem.dB az .here I I) (cg.cons (cg.cons (cg.cons (cg.cons cg.nil))))))<|Ja I<|Ji<|Jv I<|JD I<|Jn<|gR I (fun aA=>?_) fun aA=>?_;refine Jr<|Jv I<|Ja I<|Jn<|Ju<|Jm<|Jh<|Jh<|Jm<|Jh<|JT ?_;rotate_left;refine Jk<|Jg<|Jv I<|JB I (by omega)<|Ja I<|Jx<|Jj<|Jt<|Jg<|Jv I<|JB I (by omega)<|Ja I<|Jn ?_;rotate_right)
  ·rw [hq] at aA ⊢;have hb:fa 6 (cz r++bY r) Ti.nm (nq r) r.ti=xM (cz r++bY r) Ti.nm (nq r) r.ti k:=by unfold fa;rw [if_neg (by omega)];exact fj hz aN aA
   rw [D1 z1 z2,hb]
  have Kr:xM (cz r++bY r) Ti.nm (nq r) r.ti k=0:=by rw [<- hq];exact Zr.1 aA
  apply aI (k+1) ⟨(show k+1<=r.ti.length from aN),fun i hi=>by
   by_cases e:i=k
   ·rw [e];exact Kr
   ·exact hz i (by omega)⟩ (show r.ti.length-(k+1)<r.ti.length-k by omega)
  case hs1=>exact cB
  case ht=>(try simp only [Ze,Zf,Za]);exact .cons bO .nil
 obtain rfl:k=r.ti.length:=by omega
 have z3:fa 6 (cz r++bY r) Ti.nm (nq r) r.ti=0:=by unfold fa;rw [if_neg (by omega)];exact dC.2 hz
 clear hk aN hz
 (refine Jq<|Jr<|Jv I<|bN I I ae<|JL I .here I<|JI I<|JA I<|Jn<|Jc I fun aA=>Jp<|Jl<|Jo<|Jt<|Jr<|Ja I<|Jn<|Je<|JT ?_)
 rw [D1 z1 z2,z3]
theorem Q0 {r:Ro} (h:k<r.po.length):GJ r k=if Me r r.po[k]≠0 then Me r r.po[k] else if 0<k/\(r.po[k].lv<((r.po[k-1]?).getD r.po[k]).lv\/r.po[k].lv=((r.po[k-1]?).getD r.po[k]).lv/\dY r r.po[k].ou<=dY r ((r.po[k-1]?).getD r.po[k]).ou) then 11 else 0:=by
 unfold GJ;rw [Zc h];rfl
def Hh (r:Ro) (v:Int) (x:Ti):Bool:=decide ((uf r.po v 8 x.nm).length=8)
def Ft (r:Ro) (v:Int) (x:Ti):Bool:=nS r.po v x.nm != !decide ((eJ r.po v x.nm).getD ⟨#[]⟩=⟨#[]⟩)
theorem Nx (r:Ro):T0 r=if j6 r (fun v=>r.ti.any (Hh r v)) then 33 else if j6 r (fun v=>r.ti.any (Ft r v)) then 32 else 0:=rfl
theorem C6 {r:Ro} {v i:Nat} (hv:(v:Int)<r.lv) (hi:i<r.ti.length) (h:q v r.ti[i]=true):j6 r (fun v=>r.ti.any (q v))=true:=by
 unfold j6;exact ZR.2 ⟨v,ZU.2 (by omega),ZR.2 ⟨_,Zj hi,h⟩⟩
theorem zw {r:Ro} (h:∀ v:Nat,v<r.lv.toNat->∀ (i:Nat) (hi:i<r.ti.length),q v r.ti[i]=false):j6 r (fun v=>r.ti.any (q v))=false:=by
 refine lF.2 fun v h0 h1=>Zap.2 fun x hx=>?_;obtain ⟨i,hi,rfl⟩:=Zu hx;have:=h v.toNat (by omega) i hi;rw [show ((v.toNat:Nat):Int)=v by omega] at this;rw [this];decide
set_option maxHeartbeats 2000000 in
theorem yi {r:Ro} {s d t p:Value} (h:RR w r s d t p) (hf:mu r) (afd:1<=r.lv/\r.lv<=3):ao T_ 128 [RA r s d t p] w (.q (Al r)):=by
 obtain ⟨h1,h2,h3,h4⟩:=h.one;have R8:∀ (o:ByteArray) {w'},aH [] w w'->ao T_ 230 [.agg #[.int .i64 r.lv,.int .i64 r.ma,s,d,t,p],.string o] w' (.int .i64 (dY r o)):=fun o _ hk=>NG o (h.keeps hk) hf
 have U1:∀ (o:ByteArray) {w'},aH [] w w'->ao T_ 231 [.agg #[.q r.lv,.q r.ma,s,d,t,p],.string o] w' (.q (jH r o)):=fun o _ hk=>NY o (h.keeps hk)
 have Yc:∀ (o:ByteArray) {w'},aH [] w w'->ao T_ 232 [.agg #[.q r.lv,.q r.ma,s,d,t,p],.string o] w' (.q (jR r o)):=fun o _ hk=>I0 o (h.keeps hk)
 have XI:∀ (v:Int) (o:ByteArray) {w'},aH [] w w'->ao T_ 233 [.agg #[.q r.lv,.q r.ma,s,d,t,p],.q v,.string o] w' (.bool (nS r.po v o)):=fun v o _ hk=>Qw v o (h.keeps hk)
 have Oi:∀ (v:Int) (o:ByteArray) {w'},aH [] w w'->ao T_ 133 [.agg #[.q r.lv,.q r.ma,s,d,t,p],.q v,.string o] w' (.string ((eJ r.po v o).getD ⟨#[]⟩)):=fun v o _ hk=>FE v o (h.keeps hk)
 have Y0:∀ (v:Int) (o:ByteArray) w',aH [] w w'->bB T_ 132 [.agg #[.q r.lv,.q r.ma,s,d,t,p],.q v,.string o,.q 8] w' [] (fun _:Option Addr×Nat=>True) (fun z=>.slice z.1 (uf r.po v 8 o).length z.2) (fun z=>[row 9 1 (.slice z.1 (uf r.po v 8 o).length z.2) (uf r.po v 8 o).length (aO (uf r.po v 8 o))]):=fun v o w' hk=>bB.Ik (val:=id) (OY v o 8 (by decide) (h.keeps hk))
 have KD:=h.po;have Cz:=h.ti;obtain ⟨a4,gq,VZ,Rf,rfl,zj,mQ,HA,AS⟩:=KD;obtain ⟨a3,ew,LH,I4,rfl,mS,gi,sX,qe⟩:=Cz;rw [cO] at *;rw [bU] at *;unfold maxLen at gi mQ;obtain ⟨f1,f2,f3,f4⟩:=hf;unfold RA;refine ak func128 I I ?_;refine Jr<|Jy I I fun _ _=>Ja I<|Jn<|Jq<|Jr<|Ja I<|Jn<|J0 ?_;rename_i b1 rW;refine bd (ι:=Nat) (fun x=>x<=r.po.length/\∀ i,i<x->GJ r i=0) (fun x=>[(3,.int .i64 (x:Nat)),(1,.pointer (some ⟨b1,0,none⟩))]) (fun x=>[JQ b1 r s d (.slice a3 r.ti.length ew) (.slice a4 r.po.length gq)]) (fun x=>r.po.length-x) ?_ ?_
 ·apply aJ (0:Nat) ⟨Zi _,fun i h=>absurd h (ZW _)⟩
  case hs1=>exact cB
  case ht=>(try simp only [Ze,Zf,Za]);exact .h1 .nil
 rintro k ⟨hk,hz⟩;by_cases aN:k<r.po.length
 ·have c8:=HA (kE aN);obtain ⟨jc,aG⟩:=AS k _ (iK aN);unfold Po.cells at aG;have jJ:=Q0 (r:=r) aN;have W1:∀ e:Int,GJ r k=e->e≠0->Al r=e:=fun e he hne=>by
   have hb:jK (GJ r) r.po.length=e:=by rw [<- he];exact fj hz aN (by rw [he];exact hne)
   unfold Al;rw [hb,if_pos hne]
  have kc:GJ r k=0->∀ i,i<k+1->GJ r i=0:=fun e i hi=>by
   by_cases e2:i=k
   ·rw [e2];exact e
   ·exact hz i (by omega)
  generalize hx:r.po[k]=x at aG jJ
  (refine Jq<|Jr<|Jv I<|bN I I ae<|JL I .here I<|JI I<|JA I<|Jn<|Jd I fun aA=>Jk<|Jq<|J0<|Jr<|bN I I ae<|JL I .here I<|Jv I<|ab (gr c8 aA) I<|ab (iD (eO.base aG I)) I<|Jz I I fun _ _=>aq (.of I) (.of I) .here I I (fc I I I) (bF I) an<|Jn<|Jq<|Jq ?_)
  with_reducible refine cS 29 (by kernel_rfl) ?_
  (refine ar k9 I<|ar (ic .here) I<|ar k9 I<|ar (ic (.there .here)) I<|ar (Ab (.of I) (.of I) (Ug (by omega))) I<|aZ ek I (fun w' az=>(Aj _ 0 _ w'))<|ar (cN (.there .here)) I<|ar k9 I<|ar (ic .here) I<|aZ bo I (fun w' az=>(R8 _ (Mem.keeps az)))<|ar (oF (.of I) (.of I)) I<|aZ bo I (fun w' az=>(oy _ 10 w'))<|ar (cN (.there .here)) I<|ar k9 I<|ar (ic .here) I<|aZ bo I (fun w' az=>(U1 _ (Mem.keeps az)))<|ar (oF (.of I) (.of I)) I<|aZ bo I (fun w' az=>(oy _ 10 w'))<|ar (cN (.there .here)) I<|ar k9 I<|ar (ic .here) I<|aZ bo I (fun w' az=>(Yc _ (Mem.keeps az)))<|ar (cN (.there .here)) I<|ar k9 I<|ar (ic .here) I<|aZ bo I (fun w' az=>(U1 _ (Mem.keeps az)))<|ar (eE (.of I) (.of I)) I<|aZ bo I (fun w' az=>(oy _ 24 w'))<|eA (aB (.o I (.o I (.o I (.o I .nil)))) I I I I) I I ?_)
  with_reducible refine dz I fun bq lN=>?_
  (refine aj bS I (fun w' az=>(mT (Mem.dB az .here I I) (cg.cons (cg.cons (cg.cons (cg.cons cg.nil))))))<|Ja I<|Ji<|Jv I<|JD I<|Jn<|gR I (fun aA=>?_) fun aA=>?_;refine Jr<|Jv I<|Ja I<|Jn<|Ju<|Jm<|Jh<|Jh<|Jm<|Jh<|JT ?_;rotate_left;refine Jk<|Jr<|Jv I<|JE I<|Jn<|gR I (fun aA=>?_) fun aA=>?_;refine Jr<|bN I I ae<|JL I bO I<|Jv I<|JS I (by omega)<|ab (aC (.of I) (.of I) c8 (by omega) (by omega) bu) I ?_;rotate_left;refine Jw<|Jj<|Jt<|Jg<|Jv I<|JB I (by omega)<|Ja I<|Jn ?_;rotate_right;rotate_right)
  ·have e:=W1 (Me r x) (by rw [jJ,if_pos (show Me r x≠0 from aA)]) aA;rw [e];rfl
  ·rename_i b4 xB hE;have hE:Me r x=0:=Zr.1 hE;have wx:0<k:=by omega
   have Tu:k-1<r.po.length:=by omega
   obtain ⟨aa6,eF⟩:=AS (k-1) _ (iK Tu);unfold Po.cells at eF;rw [show Rf+(k-1)*3=Rf+((k:Int)-1).toNat*3 by rw [show ((k:Int)-1).toNat=k-1 by omega]] at eF;rw [if_neg (not_not_intro hE),Zc Tu,Zam] at jJ;generalize r.po[k-1]=y at eF jJ
   (refine ab (iD (eO.base eF I)) I<|Jz I I fun _ _=>aq (.of I) (.of I) .here I I (fc I I I) (bF I) an<|Jn<|Jq ?_)
   with_reducible refine eP 23 (by kernel_rfl) ?_
   (refine pZ I I ae<|aM (ic bO) I<|pZ I I ae<|aM (ic .here) I<|aM (oF (.of I) (.of I)) I<|mZ I I<|dT I I (fun hg bG=>(ai (.of I) ae)) I<|dT I I (fun hg bG=>(ag (.bX hg I) (At.lit bO I))) I<|dT I I (fun hg bG=>(ai (.of I) ae)) I<|dT I I (fun hg bG=>(ag (.bX hg I) (At.lit .here I))) I<|dT I I (fun hg bG=>(fR (.bX hg I) (.bX hg I))) I<|dT I I (fun hg bG=>(aL (.bX hg I))) I<|qU I I (fun hg bG=>(bL (.of I) c6 an (by rfl))) I<|qU I I (fun hg bG=>(ai (.of I) ae)) I<|qU I I (fun hg bG=>(ag (.bX hg I) (At.lit bO I))) I<|tA I I (fun hg=>(a8 (.of I) (.cons (.bX hg I) (.cons (.bX hg I) .nil)) inferInstance gF)) I (fun hg w' az=>(R8 _ (Mem.keeps az)))<|qU I I (fun hg bG=>(bL (.of I) c6 an (by rfl))) I<|qU I I (fun hg bG=>(ai (.of I) ae)) I<|qU I I (fun hg bG=>(ag (.bX hg I) (At.lit .here I))) I<|tA I I (fun hg=>(a8 (.of I) (.cons (.bX hg I) (.cons (.bX hg I) .nil)) inferInstance gF)) I (fun hg w' az=>(R8 _ (Mem.keeps az)))<|qU I I (fun hg bG=>(mi (.bX hg I) (.bX hg I))) I<|dT I I (fun hg bG=>(iJ hg (.bX hg I) I)) I<|aM (bE (.of I) I) I ?_)
   with_reducible refine eU ?_
   (refine Jn<|oq I (fun aA=>?_) fun aA=>?_;refine Jr<|Ja I<|Jn<|Je<|Jm<|Jh<|Jh<|Jm<|Jh<|JT ?_;rotate_left;refine Jw<|Jj<|Jt<|Jg<|Jv I<|JB I (by omega)<|Ja I<|Jn ?_;rotate_right)
   ·have hE2:0<k/\(x.lv<y.lv\/x.lv=y.lv/\dY r x.ou<=dY r y.ou):=⟨wx,aA⟩;have e:=W1 11 (by rw [jJ,if_pos hE2]) (by decide);rw [e]
   ·apply aI (k+1) ⟨(show k+1<=r.po.length from aN),kc (by rw [jJ,if_neg (fun q=>q.2.elim aA.1 fun z=>aA.2.elim (fun z2=>z2 z.1) fun z2=>z2 z.2)])⟩ (show r.po.length-(k+1)<r.po.length-k by omega)
    case hs1=>exact cB
    case ht=>(try simp only [Ze,Zf,Za]);exact .cons c6 .nil
  ·rename_i b4 xB hE;have hE:Me r x=0:=Zr.1 hE;apply aI (k+1) ⟨(show k+1<=r.po.length from aN),kc (by rw [jJ,if_neg (not_not_intro hE),if_neg (fun q=>aA (by omega))])⟩ (show r.po.length-(k+1)<r.po.length-k by omega)
   case hs1=>exact cB
   case ht=>(try simp only [Ze,Zf,Za]);exact .cons bO .nil
 obtain rfl:k=r.po.length:=by omega
 have Wt:jK (GJ r) r.po.length=0:=dC.2 hz;have hqs:Al r=T0 r:=by unfold Al;rw [Wt];rfl
 rw [hqs,Nx];clear hk aN hz
 (refine Jq<|Jr<|Jv I<|bN I I ae<|JL I .here I<|JI I<|JA I<|Jn<|Jc I fun aA=>Jp<|Jl<|Jo<|Jt<|Jq<|Jr<|Ja I<|Jn<|J0 ?_)
 refine bd (ι:=Nat) (fun v=>v<=r.lv.toNat/\∀ u,u<v->∀ (i:Nat) (hi:i<r.ti.length),Hh r (u:Nat) r.ti[i]=false) (fun v=>[(7,.q (v:Nat)),(1,.p b1)]) (fun _=>[JQ b1 r s d (.slice a3 r.ti.length ew) (.slice a4 r.po.length gq)]) (fun v=>r.lv.toNat-v) ?_ ?_
 ·apply aJ (0:Nat) ⟨Zi _,fun i h=>absurd h (ZW _)⟩
  case hs1=>exact cB
  case ht=>(try simp only [Ze,Zf,Za]);exact .h1 .nil
 rintro v ⟨hv,hz⟩;by_cases RK:v<r.lv.toNat
 ·have RL:((v:Nat):Int)<r.lv:=by omega
  (refine Jq<|Jr<|Jv I<|bN I I ae<|JL I .here I<|JA I<|Jn<|Jd I fun aA=>Jk<|Jq<|J0<|Jr<|Ja I<|Jn<|J0 ?_)
  refine bd (ι:=Nat) (fun i=>i<=r.ti.length/\∀ (j:Nat) (hj:j<r.ti.length),j<i->Hh r (v:Nat) r.ti[j]=false) (fun i=>[(8,.q (i:Nat)),(7,.q (v:Nat)),(1,.p b1)]) (fun _=>[JQ b1 r s d (.slice a3 r.ti.length ew) (.slice a4 r.po.length gq)]) (fun i=>r.ti.length-i) ?_ ?_
  ·apply aJ (0:Nat) ⟨Zi _,fun j _ h=>absurd h (ZW _)⟩
   case hs1=>exact cB
   case ht=>(try simp only [Ze,Zf,Za]);exact .h1 .nil
  rintro i ⟨hi,hy⟩;by_cases iY:i<r.ti.length
  ·have c8:=sX (eV iY);have c0:w.cell? ⟨LH,I4+i*3,none⟩=some (.string r.ti[i].nm):=(qe i _ (ed iY)).2 0 _ I;have X1:∀ b,Hh r (v:Nat) r.ti[i]=b->Hh r (v:Nat) r.ti[i]=b:=fun _ h=>h
   unfold Hh at X1;have kc:Hh r (v:Nat) r.ti[i]=false->∀ (j:Nat) (hj:j<r.ti.length),j<i+1->Hh r (v:Nat) r.ti[j]=false:=fun e j hj nP=>by
    by_cases e2:j=i
    ·subst e2;exact e
    ·exact hy j hj (by omega)
   have Sg:Hh r (v:Nat) r.ti[i]=true->j6 r (fun v=>r.ti.any (Hh r v))=true:=C6 RL iY
   generalize RH:r.ti[i].nm=x at c0
   (refine Jq<|Jr<|Jv I<|bN I I ae<|JL I .here I<|JI I<|JA I<|Jn<|Jd I fun aA=>Jk<|Jq<|J0<|Jq ?_)
   have Vb:=Y0 (v:Nat) x;have Tp:=F9 r.po (v:Nat) 8 x;have Va:Hh r (v:Nat) r.ti[i]=decide ((uf r.po (v:Nat) 8 x).length=8):=by unfold Hh;rw [RH]
   generalize uf r.po (v:Nat) 8 x=C at Vb Tp Va
   with_reducible refine dy 9 (by kernel_rfl) ?_
   (refine ah (fun β=>(bL (.of I) .here an (by rfl))) aK I<|ah (fun β=>(aL (.of I))) aK I<|ah (fun β=>(ai (.of I) ae)) aK I<|ah (fun β=>(ag (.of I) (At.lit .here I))) aK I<|ah (fun β=>(aL (.of I))) aK I<|ah (fun β=>(aC (.of I) (.of I) c8 (by omega) aA bu)) aK I<|ah (fun β=>(ai (.of I) ae)) aK I<|ah (fun β=>(ag (.of I) (At.base c0 I))) aK I ?_)
   dsimp only [Nat.zero_add,Nat.reduceAdd]
   with_reducible apply cZ (ι:=Option Addr×Nat) (Φ:=fun _=>True) (val:=fun z=>.slice z.1 C.length z.2) (own:=fun z=>[row 9 1 (.slice z.1 C.length z.2) C.length (aO C)]) (g:=Vt) (B:=[]) (args:=fun _=>[.agg #[.q r.lv,.q r.ma,s,d,.slice a3 r.ti.length ew,.slice a4 r.po.length gq],.q (v:Nat),.string x,.q 8])
   case hg=>exact K7
   case hB=>rfl
   case hr=>exact fun β=>a8 (.of I) (.o I (.o I (.o I (.o I .nil)))) inferInstance I
   case hd=>rfl
   case hc=>exact fun β w' hb=>Vb w' hb.mem.keeps
   dsimp only [Nat.reduceAdd];refine eG fun β=>?_;dsimp only [dX,Za,Zb,List.append_eq,Nat.reduceAdd];generalize Vt (β 8)=y;obtain ⟨ya,yc⟩:=y;clear β;dsimp only;refine cI (rs:=[9]) (by kernel_rfl) (by simp) (Zt.2 ⟨?_,fun _ h=>absurd h Zo⟩);refine cQ I ?_;refine JI I<|Jn ?_;refine cI (rs:=[10]) (by kernel_rfl) (by simp) (Zt.2 ⟨?_,fun _ h=>absurd h Zo⟩);refine cQ I ?_;refine JC I<|Jn ?_
   with_reducible refine cn (by kernel_rfl) ?_
   (refine Jt<|gR I (fun aA=>?_) fun aA=>?_;refine Jr<|Ja I<|Jn<|Je<|Jm<|Jh<|Jh<|Jm<|Jm<|Jh<|Jh<|Jm<|Jh<|JT ?_;rotate_left;refine Jw<|Jj<|Jt<|Jg<|Jv I<|JB I (by omega)<|Ja I<|Jn ?_;rotate_right)
   ·rw [if_pos (Sg (by rw [Va];exact decide_eq_true (by omega)))]
   apply aI (i+1) ⟨(show i+1<=r.ti.length from iY),kc (by rw [Va];exact decide_eq_false (by omega))⟩ (show r.ti.length-(i+1)<r.ti.length-i by omega)
   case hs1=>exact cB
   case ht=>(try simp only [Ze,Zf,Za]);exact .cons (.there .here) .nil
  obtain rfl:i=r.ti.length:=by omega
  clear hi iY
  (refine Jq<|Jr<|Jv I<|bN I I ae<|JL I .here I<|JI I<|JA I<|Jn<|Jc I fun aA=>Jp<|Jl<|Jo<|Jj<|Jt<|Jg<|Jv I<|JB I (by omega)<|Ja I<|Jn ?_)
  apply aI (v+1) ⟨(show v+1<=r.lv.toNat from RK),fun u hu j hj=>by
   by_cases e2:u=v
   ·subst e2;exact hy j hj hj
   ·exact hz u (by omega) j hj⟩ (show r.lv.toNat-(v+1)<r.lv.toNat-v by omega)
  case hs1=>exact cB
  case ht=>(try simp only [Ze,Zf,Za]);exact .h1 .nil
 obtain rfl:v=r.lv.toNat:=by omega
 have aY:j6 r (fun v=>r.ti.any (Hh r v))=false:=zw hz
 clear hv RK hz
 (refine Jq<|Jr<|Jv I<|bN I I ae<|JL I .here I<|JA I<|Jn<|Jc I fun aA=>Jp<|Jl<|Jo<|Jt<|Jq<|Jr<|Ja I<|Jn<|J0 ?_)
 rw [if_neg (by rw [aY];decide)];refine bd (ι:=Nat) (fun v=>v<=r.lv.toNat/\∀ u,u<v->∀ (i:Nat) (hi:i<r.ti.length),Ft r (u:Nat) r.ti[i]=false) (fun v=>[(9,.q (v:Nat)),(1,.p b1)]) (fun _=>[JQ b1 r s d (.slice a3 r.ti.length ew) (.slice a4 r.po.length gq)]) (fun v=>r.lv.toNat-v) ?_ ?_
 ·apply aJ (0:Nat) ⟨Zi _,fun i h=>absurd h (ZW _)⟩
  case hs1=>exact cB
  case ht=>(try simp only [Ze,Zf,Za]);exact .h1 .nil
 rintro v ⟨hv,hz⟩;by_cases RK:v<r.lv.toNat
 ·have RL:((v:Nat):Int)<r.lv:=by omega
  (refine Jq<|Jr<|Jv I<|bN I I ae<|JL I .here I<|JA I<|Jn<|Jd I fun aA=>Jk<|Jq<|J0<|Jr<|Ja I<|Jn<|J0 ?_)
  refine bd (ι:=Nat) (fun i=>i<=r.ti.length/\∀ (j:Nat) (hj:j<r.ti.length),j<i->Ft r (v:Nat) r.ti[j]=false) (fun i=>[(10,.q (i:Nat)),(9,.q (v:Nat)),(1,.p b1)]) (fun _=>[JQ b1 r s d (.slice a3 r.ti.length ew) (.slice a4 r.po.length gq)]) (fun i=>r.ti.length-i) ?_ ?_
  ·apply aJ (0:Nat) ⟨Zi _,fun j _ h=>absurd h (ZW _)⟩
   case hs1=>exact cB
   case ht=>(try simp only [Ze,Zf,Za]);exact .h1 .nil
  rintro i ⟨hi,hy⟩;by_cases iY:i<r.ti.length
  ·have c8:=sX (eV iY);have c0:w.cell? ⟨LH,I4+i*3,none⟩=some (.string r.ti[i].nm):=(qe i _ (ed iY)).2 0 _ I;have X1:∀ b,Ft r (v:Nat) r.ti[i]=b->Ft r (v:Nat) r.ti[i]=b:=fun _ h=>h
   unfold Ft at X1;have kc:Ft r (v:Nat) r.ti[i]=false->∀ (j:Nat) (hj:j<r.ti.length),j<i+1->Ft r (v:Nat) r.ti[j]=false:=fun e j hj nP=>by
    by_cases e2:j=i
    ·subst e2;exact e
    ·exact hy j hj (by omega)
   have Sg:Ft r (v:Nat) r.ti[i]=true->j6 r (fun v=>r.ti.any (Ft r v))=true:=C6 RL iY
   generalize RH:r.ti[i].nm=x at c0
   (refine Jq<|Jr<|Jv I<|bN I I ae<|JL I .here I<|JI I<|JA I<|Jn<|Jd I fun aA=>Jk<|Jq<|J0<|Jr<|bN I I ae<|JL I .here I<|Jv I<|ab (gr c8 aA) I<|bN I I ae<|ab (ag (.of I) (At.base c0 I)) I<|Ja I<|Jn<|Jq ?_)
   have Yd:Ft r (v:Nat) r.ti[i]=(nS r.po (v:Nat) x != !decide ((eJ r.po (v:Nat) x).getD ⟨#[]⟩=⟨#[]⟩)):=by unfold Ft;rw [RH]
   have UL:Ft r (v:Nat) r.ti[i]=(nS r.po (v:Nat) x != decide ((eJ r.po (v:Nat) x).getD ⟨#[]⟩≠⟨#[]⟩)):=by rw [Yd,decide_not]
   with_reducible refine eP 9 (by kernel_rfl) ?_
   (refine aM (cN .here) I<|mZ I I<|mZ I I<|fQ ek I (fun w' az=>(XI _ x (Mem.keeps az)))<|aM (cN .here) I<|mZ I I<|mZ I I<|fQ ek I (fun w' az=>(Oi _ x (Mem.keeps az)))<|aM (jv (.of I) (.of I)) I ?_)
   with_reducible refine eU ?_
   skip
   refine ab (vu (.of I) (.of I)) I ?_
   (refine Jn<|oq I (fun aA=>?_) fun aA=>?_;refine Jr<|Ja I<|Jn<|Je<|Jm<|Jh<|Jh<|Jm<|Jm<|Jh<|Jh<|Jm<|Jh<|JT ?_;rotate_left;refine Jw<|Jj<|Jt<|Jg<|Jv I<|JB I (by omega)<|Ja I<|Jn ?_;rotate_right)
   ·rw [if_pos (Sg (by rw [UL];exact aA))]
   apply aI (i+1) ⟨(show i+1<=r.ti.length from iY),kc (by rw [UL];exact aA)⟩ (show r.ti.length-(i+1)<r.ti.length-i by omega)
   case hs1=>exact cB
   case ht=>(try simp only [Ze,Zf,Za]);exact .h1 .nil
  obtain rfl:i=r.ti.length:=by omega
  clear hi iY
  (refine Jq<|Jr<|Jv I<|bN I I ae<|JL I .here I<|JI I<|JA I<|Jn<|Jc I fun aA=>Jp<|Jl<|Jo<|Jj<|Jt<|Jg<|Jv I<|JB I (by omega)<|Ja I<|Jn ?_)
  apply aI (v+1) ⟨(show v+1<=r.lv.toNat from RK),fun u hu j hj=>by
   by_cases e2:u=v
   ·subst e2;exact hy j hj hj
   ·exact hz u (by omega) j hj⟩ (show r.lv.toNat-(v+1)<r.lv.toNat-v by omega)
  case hs1=>exact cB
  case ht=>(try simp only [Ze,Zf,Za]);exact .h1 .nil
 obtain rfl:v=r.lv.toNat:=by omega
 have mr:j6 r (fun v=>r.ti.any (Ft r v))=false:=zw hz
 clear hv RK hz
 (refine Jq<|Jr<|Jv I<|bN I I ae<|JL I .here I<|JA I<|Jn<|Jc I fun aA=>Jp<|Jl<|Jo<|Jt<|Jr<|Ja I<|Jn<|Je<|JT ?_)
 rw [if_neg (by rw [mr];decide)]
theorem yh {r:Ro} {s d t p:Value} (h:RR w r s d t p) (hf:mu r):ao T_ 25 [RA r s d t p] w (.q (fT r)):=by
 obtain ⟨h1,h2,h3,h4⟩:=h.one;have hcp:∀ {w'},aH [] w w'->ao T_ 127 [.agg #[.int .i64 r.lv,.int .i64 r.ma,s,d,t,p]] w' (.int .i64 (jy r)):=fun hk=>A5 (h.keeps hk) hf
 have YW:nE r=0->∀ {w'},aH [] w w'->ao T_ 128 [.agg #[.q r.lv,.q r.ma,s,d,t,p]] w' (.q (Al r)):=fun e _ hk=>yi (h.keeps hk) hf ⟨(vR e).1,(vR e).2.1⟩
 rw [<- SX];unfold RA ckQ;refine ak func25 I I ?_;refine Jr<|Jy I I fun _ _=>Ja I<|Jn<|Jq<|Jq ?_
 with_reducible refine cS 7 (by kernel_rfl) ?_
 (refine ar k9 I<|ar (ic .here) I<|aZ ek I (fun w' az=>(Aj _ 1 3 w'))<|ar k9 I<|ar (ic .here) I<|aZ ek I (fun w' az=>(Aj _ 1 4 w'))<|eA (aB (.o I (.o I .nil)) I I I I) I I ?_)
 with_reducible refine dz I fun bq lN=>?_
 refine aj bS I (fun w' az=>mT (Mem.dB az .here I I) (cg.cons (cg.cons cg.nil))) ?_;have hlE:nE r=ba [gC r.lv 1 3,gC r.ma 1 4]:=rfl;rw [<- hlE]
 (refine Ja I<|Ji<|Jv I<|JD I<|Jn<|gR I (fun aA=>?_) fun aA=>?_;refine Jr<|Jv I<|Ja I<|Jn<|Ju<|JT ?_;rotate_left;refine Jk<|Jq<|Jr<|ab (cN (.there .here)) I ?_;rotate_right)
 ·rw [if_pos aA]
 have hl:nE r=0:=Zr.1 aA;have Tw:=fun {w'}=>YW hl (w':=w')
 rw [if_neg (not_not_intro hl)]
 (refine aj bS I (fun w' az=>(hcp (Mem.keeps az)))<|Ja I<|Ji<|Jv I<|JD I<|Jn<|gR I (fun aA=>?_) fun aA=>?_;refine Jr<|Jv I<|Ja I<|Jn<|Ju<|JT ?_;rotate_left;refine Jk<|Jr<|ab (cN (.there .here)) I<|aj bS I (fun w' az=>(Tw (Mem.keeps az)))<|Ja I<|Jn<|Je<|JT ?_;rotate_right)
 ·rw [if_pos aA]
 rw [if_neg aA]
def Il (l:List ByteArray):Bool:=l.all fun s=>decide (s.size<=40)
theorem Im {lv:Value} {l:List ByteArray} (h:Rd w lv 1 (ie l)):ao T_ 69 [lv] w (.bool (Il l)):=by
 obtain ⟨a,cp,b,o',rfl,dD,cr,ha,hc⟩:=h;rw [cu] at *;unfold maxLen at cr;refine ak func69 I I ?_;refine Jr<|Ja I<|Jn<|Jq<|Jr<|Ja I<|Jn<|J0 ?_;refine bd (ι:=Nat) (fun k=>k<=l.length/\∀ j (hj:j<l.length),j<k->l[j].size<=40) (fun k=>[(3,.int .i64 (k:Nat)),(0,.slice a l.length cp)]) (fun _=>[]) (fun k=>l.length-k) ?_ ?_
 ·apply aJ (0:Nat) ⟨Zi _,fun j _ hj=>absurd hj (ZW _)⟩
  case hs1=>exact cB
  case ht=>(try simp only [Ze,Zf,Za]);exact .nil
 rintro k ⟨hk,hf⟩;by_cases aN:k<l.length
 ·have c8:=ha (lk aN);have c0:w.cell? ⟨b,o'+k*1,none⟩=some (.string l[k]):=(hc k _ (jf aN)).2 0 _ I;have hm:=Zj aN;have Bt:l[k].size<=40->∀ j (hj:j<l.length),j<k+1->l[j].size<=40:=fun q j hj WR=>by
   by_cases e:j=k
   ·subst e;exact q
   ·exact hf j hj (by omega)
  generalize l[k]=x at c0 hm Bt
  (refine Jq<|Jr<|Jv I<|Jv I<|JI I<|JA I<|Jn<|Jd I fun aA=>Jk<|Jq<|J0<|Jr<|Jv I<|Jv I<|ab (gr c8 aA) I<|ab (ag (.of I) (At.base c0 I)) I<|ab (gT (.of I)) I<|JE I<|Jn<|gR I (fun aA=>?_) fun aA=>?_;refine Jr<|Ja I<|Jn<|Je<|Jm<|Jh<|Jh<|Jm<|Jh<|JT ?_;rotate_left;refine Jw<|Jj<|Jt<|Jg<|Jv I<|JB I (by omega)<|Ja I<|Jn ?_;rotate_right)
  ·have tS:(40:Int)<(x.size:Nat):=aA;have e:Il l=false:=List.all_eq_false.2 ⟨x,hm,by simp;omega⟩;rw [e]
  ·have tS:¬ (40:Int)<(x.size:Nat):=aA;apply aI (k+1) ⟨(show k+1<=l.length from aN),Bt (by omega)⟩ (show l.length-(k+1)<l.length-k by omega)
   case hs1=>exact cB
   case ht=>(try simp only [Ze,Zf,Za]);exact .nil
 ·have e:Il l=true:=Z7.2 fun x hx=>by
   obtain ⟨j,hj,rfl⟩:=Zu hx;exact decide_eq_true (hf j hj (by omega))
  obtain rfl:k=l.length:=by omega
  rw [e];refine Jq<|Jr<|Jv I<|Jv I<|JI I<|JA I<|Jn<|Jc I fun aA=>Jp<|Jl<|Jo<|Jt<|Jr<|Ja I<|Jn<|Je<|JT ?_
  rfl
def poN (p:Po):List ByteArray:=[p.ou,p.ip]
def BW (r:Ro) (k:Nat):List ByteArray:=cY r++((r.po.take k).map poN).flatten
def BY (r:Ro):Bool:=decide (r.sr.length<=10)&&decide (r.de.length<=10)&&decide (r.ti.length<=10)&&decide (r.po.length<=48)
def uk (r:Ro):Bool:=BY r&&Il (BW r r.po.length)
theorem yJ {r:Ro} (h:k<r.po.length):BW r (k+1)=BW r k++[r.po[k].ou,r.po[k].ip]:=by
 unfold BW;rw [Zn h,Zz,Zab,Zh]
 rfl
theorem vq {r:Ro} (h:BY r=true):r.sr.length<=10/\r.de.length<=10/\r.ti.length<=10/\r.po.length<=48:=by
 unfold BY at h;simp only [Zm,decide_eq_true_eq] at h;exact ⟨h.1.1.1,h.1.1.2,h.1.2,h.2⟩
theorem BX {r:Ro} (h:BY r=true):mu r:=by
 have:=vq h;exact ⟨by omega,by omega,by omega,by omega⟩
theorem BV (r:Ro):∀ k,k<=r.po.length->(BW r k).length=(cY r).length+2*k
 | 0,_=>by unfold BW;simp
 | k+1,h=>by rw [yJ (by omega),Zg,BV r k (by omega)];simp;omega
theorem Nb {r:Ro} {s d t p:Value} (h:RR w r s d t p):ao T_ 18 [RA r s d t p] w (.bool (uk r)):=by
 obtain ⟨h1,h2,h3,h4⟩:=h.one;have Yg:BY r=true->∀ w',aH [] w w'->bB T_ 77 [.agg #[.int .i64 r.lv,.int .i64 r.ma,s,d,t,p]] w' [] (fun _:Value=>True) id (fun x=>[row 9 1 x (cY r).length (aO (cY r))]):=fun e w' hk=>uR (h.keeps hk) (BX e)
 have GZ:=h.sr;have G7:=h.de;have KD:=h.po;have Cz:=h.ti;obtain ⟨a1,eI,Qe,Ps,rfl,qp,jd,l7,kM⟩:=GZ;obtain ⟨a2,dL,Qd,Pr,rfl,kp,fh,js,jT⟩:=G7;obtain ⟨a3,ew,LH,I4,rfl,mS,gi,sX,qe⟩:=Cz;obtain ⟨a4,gq,VZ,Rf,rfl,zj,mQ,HA,AS⟩:=KD;rw [cy] at *;rw [bZ] at *;rw [bU] at *;rw [cO] at *;unfold maxLen at jd fh gi mQ;unfold RA;refine ak func18 I I ?_
 (refine Jr<|Jy I I fun _ _=>Ja I<|Jn<|Jq<|Jr<|bN I I ae<|JL I .here I<|JI I<|JE I<|Jv I<|au I I (fun hg bG=>(ai (.of I) ae)) I<|au I I (fun hg bG=>(ag (.bX hg I) (At.lit .here I))) I<|au I I (fun hg bG=>(bz (.bX hg I))) I<|au I I (fun hg bG=>(mj (.bX hg I) (.of I))) I<|ab (bE (.of I) I) I<|Jv I<|au I I (fun hg bG=>(ai (.of I) ae)) I<|au I I (fun hg bG=>(ag (.bX hg I) (At.lit .here I))) I<|au I I (fun hg bG=>(bz (.bX hg I))) I<|au I I (fun hg bG=>(mj (.bX hg I) (.of I))) I<|ab (bE (.of I) I) I<|Jv I<|au I I (fun hg bG=>(ai (.of I) ae)) I<|au I I (fun hg bG=>(ag (.bX hg I) (At.lit .here I))) I<|au I I (fun hg bG=>(bz (.bX hg I))) I<|au I I (fun hg bG=>(mj (.bX hg I) (.of I))) I<|ab (bE (.of I) I) I<|Jn<|oq I (fun aA=>?_) fun aA=>?_;refine Jr<|Ja I<|Jn<|Ju<|JT ?_;rotate_left;refine Jk<|Jr<|ab (cN .here) I ?_;rotate_right)
 ·have e:uk r=false:=by
   unfold uk;have e2:BY r=false:=by
    rw [<- Zae];intro q;have:=vq q;omega
   rw [e2];rfl
  rw [e]
 have hA:BY r=true:=by
  unfold BY;simp only [Zm,decide_eq_true_eq];omega
 obtain ⟨f1,f2,f3,f4⟩:=vq hA;have Dj:=Yg hA;clear aA;rename_i b1 rW;have AN:(cY r).length<=30:=by
  unfold cY cz bY ct;simp only [Zg,Zd];omega
 refine JN bS I (fun w1 aY=>Dj w1 aY.keeps) ?_;intro x _;dsimp only [id_eq,Zb,Za];refine Ja I<|Jn<|Jq<|Jr<|Ja I<|Jn<|J0 ?_;refine bd (ι:=Nat×Value×List ByteArray) (fun y=>y.1<=r.po.length/\y.2.2=BW r y.1) (fun y=>[(4,.q (y.1:Nat)),(3,y.2.1),(1,.p b1)]) (fun y=>[row 9 1 y.2.1 y.2.2.length (aO y.2.2),JQ b1 r (.slice a1 r.sr.length eI) (.slice a2 r.de.length dL) (.slice a3 r.ti.length ew) (.slice a4 r.po.length gq)]) (fun y=>r.po.length-y.1) ?_ ?_
 ·apply aJ (0,x,cY r) ⟨Zi _,by unfold BW;simp⟩
  case hs1=>exact cB
  case ht=>
   exact .h2 .nil
 rintro ⟨k,v',L⟩ ⟨hk,hL⟩;dsimp only at hk hL ⊢;have Et:L.length=(cY r).length+2*k:=by rw [hL,BV r k hk]
 have hlen:(aO L).length=L.length*1:=by rw [dj];omega
 by_cases aN:k<r.po.length
 ·have c8:=HA (kE aN);obtain ⟨jc,aG⟩:=AS k _ (iK aN);unfold Po.cells at aG;have c1:=aG 1 _ I;have c2:=aG 2 _ I;have kc:=yJ (r:=r) aN;rw [<- hL] at kc;generalize r.po[k]=q at aG c1 c2 kc
  (refine Jq<|Jr<|Jv I<|bN I I ae<|JL I (.there .here) I<|JI I<|JA I<|Jn<|Jd I fun aA=>Jk<|Jq<|J0 ?_)
  with_reducible refine cS 14 (by kernel_rfl) ?_
  (refine ar kL I<|ar k9 I<|ar (ic (.there .here)) I<|ar kL I<|ar (gr c8 aA) I<|ar k9 I<|ar (ag (.of I) (At.base c1 I)) I<|ar k9 I<|ar (ic (.there .here)) I<|ar kL I<|ar (gr c8 aA) I<|ar k9 I<|ar (ag (.of I) (At.base c2 I)) I<|eA (aB (.o I (.o I .nil)) I I I I) I I ?_)
  with_reducible refine dz I fun bq lN=>?_
  refine bH (.of I) (.of I) (.there .here) .here an (by rfl) (gK I I) (by rfl) (by rfl) (by rfl) eC (by rfl) ?_;intro z;refine Ja I<|Jx<|Jj<|Jt<|Jg<|Jv I<|JB I (by omega)<|Ja I<|Jn ?_;apply aI (k+1,z,L++[q.ou,q.ip]) ⟨(show k+1<=r.po.length from aN),kc.symm⟩ (by show r.po.length-(k+1)<r.po.length-k;omega)
  case hs1=>exact cB
  case ht=>
   show bK _ [row 9 1 z (L++[q.ou,q.ip]).length (aO (L++[q.ou,q.ip])),JQ b1 r (.slice a1 r.sr.length eI) (.slice a2 r.de.length dL) (.slice a3 r.ti.length ew) (.slice a4 r.po.length gq)] _;rw [show aO (L++[q.ou,q.ip])=aO L++[.string q.ou,.string q.ip] from fg _ _,Zg,show [q.ou,q.ip].length=2 from I];exact .h1 (.cons (.there .here) .nil)
 obtain rfl:k=r.po.length:=by omega
 clear hk aN;have e:uk r=Il L:=by unfold uk;rw [hA,<- hL];rfl
 rw [e]
 (refine Jq<|Jr<|Jv I<|bN I I ae<|JL I (.there .here) I<|JI I<|JA I<|Jn<|Jc I fun aA=>Jp<|Jl<|Jo<|Jt<|Jr<|Jv I ?_)
 refine aj bS I (fun w' az=>Im (dA az (by exact .here) I)) ?_;refine Ja I<|Jn<|Je<|JT ?_
 rfl
theorem th {l:List Int}:ba (0::l)=ba l:=by
 conv=>lhs;unfold ba
 rw [if_neg (by decide)]
theorem AY (a:Int):ba [a]=a:=by
 unfold ba;split
 ·rfl
 ·rename_i q;rw [Zr] at q;rw [q];rfl
theorem tq {r:Ro} (dw:qX r) {de:ByteArray} (hs:de∈bY r):0<=gQ r de/\gQ r de<r.ma:=by
 obtain ⟨oo,_⟩:=ei (cF hs);have AN:(bY r).length=r.de.length:=by unfold bY;rw [Zd]
 have hl:=Nat.lt_of_lt_of_eq oo AN;unfold gQ;rw [Zk,Zc hl];exact dw.dm _ (Zj hl)
theorem zT {r:Ro} {i:Nat} (hi:i<r.ti.length):fM r i=r.ti[i]:=by
 unfold fM;rw [Zk,Zc hi];rfl





def Gx (r:Ro) (x:ByteArray):Ti:=fM r (br (ct r) x).toNat
theorem QC {r:Ro} {x:ByteArray} (h:x∈ct r):∃ j:Nat,∃ hj:j<r.ti.length,br (ct r) x=(j:Nat)/\Gx r x=r.ti[j]/\r.ti[j].nm=x:=by
 obtain ⟨oo,hx⟩:=ei (cF h);have AN:(ct r).length=r.ti.length:=by unfold ct;rw [Zd]
 have hl:=Nat.lt_of_lt_of_eq oo AN;have:=cF h;refine ⟨(br (ct r) x).toNat,hl,by omega,?_,?_⟩
 ·unfold Gx;rw [zT hl]
 ·exact (Z2 (f:=Ti.nm) (l:=r.ti) (h:=oo)).symm.trans hx
def stQ (r:Ro) (v:Int) (so:ByteArray) (f:Bool) (m:Int) (x:ByteArray):Bool:=f&&ib r.po v x&&decide (kN r v x=so)||!ib r.po v x&&decide ((Gx r x).fr=m)
def TF (r:Ro) (v:Int) (so:ByteArray):Bool->Int->List ByteArray->Option Int
 | _,m,[]=>some m
 | f,m,x::l=>if stQ r v so f m x=true then TF r v so false (Gx r x).to l else none
def Wr (r:Ro) (v:Int) (so de:ByteArray) (L:List ByteArray):Bool:=decide (TF r v so true (mJ r so) L=some (gQ r de))
def VP (r:Ro) (L:List ByteArray):Int:=if (6:Int)<(L.length:Nat) then 5 else OT r L
theorem zJ {r:Ro} (dw:qX r) (hd:(ct r).Nodup) {v:Int} {so:ByteArray}:∀ (L:List ByteArray) (b:Bool) (m:Int),(∀ x∈L,x∈ct r)->L8 r r.po v so b m L=TF r v so b m L
 | [],_,_,_=>rfl
 | x :: l, b, m, hL => by
  obtain ⟨j,hj,ej,et,en⟩:=QC (hL x Zp);have ht:eY r j=x:=by unfold eY;rw [zT hj];exact en
  have e1:jR r x=(Gx r x).fr:=by rw [<- ht,rC dw.tL hd hj,ht,et,zT hj]
  have e2:jH r x=(Gx r x).to:=by rw [<- ht,pQ dw.tL hd hj,ht,et,zT hj]
  have e3:(ib r.po v x&&decide (pV r.po v (cz r) x=so))=(ib r.po v x&&decide (kN r v x=so)):=by
   have:=tx dw.tL dw.val v so j;unfold xE at this;rw [ht] at this;rw [this];show _=(ib r.po v (eY r j)&&decide (pV r.po v (cz r) (eY r j)=so));rw [ht]
  rw [L8,TF,e1,e2,e3];unfold stQ;rw [Bool.and_assoc];split
  ·exact zJ dw hd l false _ fun y hy=>hL y (ZT _ hy)
  ·rfl
theorem MI {r:Ro} (dw:qX r) (hd:(ct r).Nodup) {v:Int} {so de:ByteArray} (hb:kP r v so de=0) (L:List ByteArray):SR r v so de L=if VP r L≠0 then VP r L else if Wr r v so de L=true then 0 else 19:=by
 unfold SR VQ VP;rw [hb,th,AY];by_cases h6:(6:Int)<(L.length:Nat)
 ·rw [if_pos h6,decide_eq_true h6]
  rfl
 ·rw [if_neg h6,decide_eq_false h6];rw [if_neg (show ¬ bT false 5≠0 by decide)];by_cases h5:OT r L=0
  ·rw [if_neg (not_not_intro h5),if_neg (not_not_intro h5)];have hL:∀ x∈L,x∈ct r:=fun x hx=>by
    obtain ⟨k,hk,rfl⟩:=Zu hx;have e:Du r L k=0:=dC.1 h5 k hk;rw [uC hk,bP] at e;have e2:=e (bT (!fy (ct r) L[k]) 10) Zp;rw [bC (by decide)] at e2;rw [<- dN];cases q:fy (ct r) L[k]
    ·rw [q] at e2;cases e2
    ·rfl
   unfold Hi Wr;rw [zJ dw hd L true _ hL];cases q:TF r v so true (mJ r so) L with
   | none=>simp
   | some m =>
    by_cases e:m=gQ r de
    ·subst e;simp [bT]
    ·simp [bT,e]
  ·rw [if_pos h5,if_pos h5]
theorem Rz {r:Ro} (dw:qX r) (hd:(ct r).Nodup) {v:Int} {so de:ByteArray} (hs:so∈cz r) {p:List Nat} (hp:(eh r r.po v so).ok p):Wr r v so de (p.map (eY r))=decide ((eh r r.po v so).fin p=gQ r de):=by
 have aN:∀ i∈p,i<r.ti.length:=Wn.vJ hp;have hL:∀ x∈p.map (eY r),x∈ct r:=fun x hx=>by
  obtain ⟨i,hi,rfl⟩:=Zw.1 hx;exact pC (aN i hi)
 have hw:=Ud (po:=r.po) (v:=v) (s:=so) (m:=gQ r de) dw.tL hd (Wn.rD hp) aN;rw [nr hs,zJ dw hd _ _ _ hL] at hw;unfold Wr;exact decide_eq_decide.2 (hw.trans ⟨fun h=>h.2,fun h=>⟨hp,h⟩⟩)
theorem pJ {P:Program} {c:Cx} {sl:aD} {hs:List bh} {dst:Option Tmp} {ty:TypeId} {pos:String} {af:Array Edge} {g:Option (Nat×Bool)} {t e:TypeId} {agg:Bool} {size:Nat} [hu:gJ P t (.slice e)] [Ty P e agg size]:pt P c sl hs ⟨dst,.buildSlice t 0 #[],ty,pos,af,g⟩ (fun b=>.w b 0 0) (.cells #[] e):=
 j9 (ps:=#[]) (fun a ha=>by simp) (fun w=>by
  unfold Instr.buildSlice;simp only [Sem.run_bind,aW hu.eq,Result.andThen_ok,fK (t:=e) (agg:=agg) (n:=size),Zbn];rw [if_neg (by omega)];simp only [if_true,Sem.run_bind,Sem.run_pure,Result.andThen_ok];simp [newRow,Instr.fill,show Array.range 0=#[] from I])
set_option maxHeartbeats 1000000 in
theorem T3 {r:Ro} {s d t p:Value} (h:RR w r s d t p) (hf:mu r):bB T_ 76 [RA r s d t p] w [] (fun _:Value×Value×Value×Value=>True) (fun x=>RA r x.1 x.2.1 x.2.2.1 x.2.2.2) (fun x=>MV r x):=by
 obtain ⟨h1,h2,h3,h4⟩:=h.one;obtain ⟨f1,f2,f3,f4⟩:=hf;unfold RA;refine aV func76 I I ?_;refine Jr<|Jy I I fun _ _=>Jz I I fun _ _=>Ji ?_
 with_reducible refine bn pJ I (fun bq lN=>?_)
 refine bR (g:=bq) (E:=118) (ys:=[]) 0 2 (by exact .here) I I I ?_
 (refine bN I I ae<|JL I bO I ?_)
 with_reducible apply eK
 case hx=>exact Is.of I
 case hy=>exact Is.of I
 case ht=>exact .here
 case hsrc=>exact fun w' az=>Rd.keeps h.sr az.keeps
 case h1=>exact Fg r.sr
 case hz=>exact I
 case hsz=>exact I
 case hb0=>exact I
 case hb=>rw [cy];omega
 case hd=>rfl
 intro v';rw [cy,ZE,Za,show (uj r.sr).flatten=mw r.sr from I];refine aT (v:=v') (by exact .here) fun a1 c1 e=>?_;subst e
 (refine bN I I ae<|aq (.of I) (.of I) bO I I (dG I) (bF I) an<|Ji ?_)
 with_reducible refine bn pJ I (fun bq lN=>?_)
 refine bR (g:=bq) (E:=88) (ys:=[]) 0 3 (by exact .here) I I I ?_
 (refine bN I I ae<|JL I (.there .here) I ?_)
 with_reducible apply eK
 case hx=>exact Is.of I
 case hy=>exact Is.of I
 case ht=>exact .here
 case hsrc=>exact fun w' az=>Rd.keeps h.de az.keeps
 case h1=>exact F6 r.de
 case hz=>exact I
 case hsz=>exact I
 case hb0=>exact I
 case hb=>rw [bZ];omega
 case hd=>rfl
 intro v';rw [bZ,ZE,Za,show (ue r.de).flatten=j5 r.de from I];refine aT (v:=v') (by exact .here) fun a2 c2 e=>?_;subst e
 (refine bN I I ae<|aq (.of I) (.of I) (.there .here) I I (dG I) (bF I) an<|Ji ?_)
 with_reducible refine bn pJ I (fun bq lN=>?_)
 refine bR (g:=bq) (E:=122) (ys:=[]) 0 3 (by exact .here) I I I ?_
 (refine bN I I ae<|JL I (.there .here) I ?_)
 with_reducible apply eK
 case hx=>exact Is.of I
 case hy=>exact Is.of I
 case ht=>exact .here
 case hsrc=>exact fun w' az=>Rd.keeps h.ti az.keeps
 case h1=>exact E9 r.ti
 case hz=>exact I
 case hsz=>exact I
 case hb0=>exact I
 case hb=>rw [bU];omega
 case hd=>rfl
 intro v';rw [bU,ZE,Za,show (tE r.ti).flatten=nN r.ti from I];refine aT (v:=v') (by exact .here) fun a3 c3 e=>?_;subst e
 (refine bN I I ae<|aq (.of I) (.of I) (.there .here) I I (dG I) (bF I) an<|Ji ?_)
 with_reducible refine bn pJ I (fun bq lN=>?_)
 refine bR (g:=bq) (E:=180) (ys:=[]) 0 3 (by exact .here) I I I ?_
 (refine bN I I ae<|JL I (.there .here) I ?_)
 with_reducible apply eK
 case hx=>exact Is.of I
 case hy=>exact Is.of I
 case ht=>exact .here
 case hsrc=>exact fun w' az=>Rd.keeps h.po az.keeps
 case h1=>exact Aq r.po
 case hz=>exact I
 case hsz=>exact I
 case hb0=>exact I
 case hb=>rw [cO];omega
 case hd=>rfl
 intro v';rw [cO,ZE,Za,show (sq r.po).flatten=jb r.po from I];refine aT (v:=v') (by exact .here) fun a4 c4 e=>?_;subst e
 (refine bN I I ae<|aq (.of I) (.of I) (.there .here) I I (dG I) (bF I) an<|Ji<|ab (cN .here) I<|aq (.of I) (.of I) fx I I (hG I I I I I I) (bF I) an<|Jn<|Je ?_)
 with_reducible first|apply aP|apply aQ
 case he=>exact kd I inferInstance I .here an (by rfl)
 case hR=>
  intro w' az;exact aF (.slice a1 r.sr.length c1,.slice a2 r.de.length c2,.slice a3 r.ti.length c3,.slice a4 r.po.length c4) trivial (by exact .cons fx (.cons dF (.cons c6 (.cons bO .nil)))) az I

theorem mO {α:Type} (L:List α) (x:α):L.length+1=(L++[x]).length:=by simp

end Go.Proofs.A1
namespace Go.SL
open Go
section
variable {P:Program} {c:Cx} {D:List Nat} {sl:aD} {hs:List bh} {X:Act->World->Prop}
end
end Go.SL
namespace Go.Proofs.A1
open Go Go.SL
open Tryz
open Tryz renaming prog->T_





theorem pG (L:List ByteArray) (x:ByteArray):aO (L++[x])=aO L++[.string x]:=fg _ _
variable {w:World}
theorem Fa {r q:Ro} {k:Tk} {i e_:Int} {s d t p v:Value} (e:iv r [k]=(q,i,e_)) (h:RR w r s d t p) (hf:me r) (hv:Rd w v 1 (ie k.so)):bB T_ 48 [.agg #[.q r.lv,.q r.ma,s,d,t,p],.agg #[.string k.de,v]] w [] (fun _:Value×Value×Value×Value=>True) (fun y=>.tuple #[.agg #[.q q.lv,.q q.ma,y.1,y.2.1,y.2.2.1,y.2.2.2],.q e_]) (fun y=>kC q y):=by
 have:=Gg (x:=⟨k,v⟩) h hf hv;rw [show (gL.mk k v).tk=k from I,e] at this;exact this
set_option maxRecDepth 20000 in
theorem MK {r:Ro} {s d t p:Value} (h:RR w r s d t p):ao T_ 55 [RA r s d t p] w (.bool (uk r&&decide (fT r=0))):=by
 obtain ⟨h1,h2,h3,h4⟩:=h.one;have XS:∀ {w'},aH [] w w'->ao T_ 18 [.agg #[.int .i64 r.lv,.int .i64 r.ma,s,d,t,p]] w' (.bool (uk r)):=fun hk=>Nb (h.keeps hk)
 have YZ:∀ {w'},(uk r==true)=true->aH [] w w'->ao T_ 25 [.agg #[.q r.lv,.q r.ma,s,d,t,p]] w' (.q (fT r)):=fun e hk=>by
  have hb:uk r=true:=by simpa using e
  unfold uk at hb;exact yh (h.keeps hk) (BX (Zm _ _ ▸ hb).1)
 unfold RA;refine ak func55 I I ?_
 (refine Jr<|Jy I I fun _ _=>Ja I<|Ji<|ab (cN .here) I<|aj bS I (fun w' az=>(XS (Mem.keeps az)))<|Jv I<|au I I (fun hg bG=>(bL (.of I) .here an (by rfl))) I<|jj I I (fun hg=>(a8 (.of I) (.cons (.bX hg I) .nil) inferInstance gF)) I (fun hg w' az=>(YZ hg (Mem.keeps az)))<|au I I (fun hg bG=>(fR (.bX hg I) (.of I))) I<|ab (cE (.of I) I) I<|Ja I<|Jn<|Je<|JT ?_)
 rfl
theorem Ke {r:Ro} (AM:r.lv<=1000) {k:Nat} (hk:(k:Int)<r.lv):Dg r (k:Nat)=0:=by
 unfold Dg;rw [Pj (by omega) (by omega),gB];omega
theorem Ll {r:Ro} {y:ByteArray} (hy:y∈bY r):ux r y=0:=by
 unfold ux;rw [bC (by decide)];exact decide_eq_false fun c=>cm.1 c hy
theorem IA {r:Ro} {q:List Po} {s d t p:Value} (h1:Rd w s 2 (uj r.sr)) (h2:Rd w d 3 (ue r.de)) (h3:Rd w t 3 (tE r.ti)) (h4:Rd w p 3 (sq q)):RR w (r.wp q) s d t p:=⟨h1,h2,h3,h4⟩
theorem jw {P:Program} {c:Cx} {sl:aD} {hs:List bh} {dst:Option Tmp} {ty:TypeId} {pos:String} {af:Array Edge} {g:Option (Nat×Bool)} {k:IntKind} {t u:TypeId} {x y:Operand} {a b:Int} (hx:Is sl x (.int k a)) (hy:Is sl y (.int k b)) (e:a=b) :
  cM P c sl hs ⟨dst,.binOp .neq t x y u,ty,pos,af,g⟩ (.bool false):=by
 have:=eE (P:=P) (c:=c) (hs:=hs) (dst:=dst) (ty:=ty) (pos:=pos) (af:=af) (g:=g) (t:=t) (u:=u) hx hy;rwa [decide_eq_false (not_not_intro e)] at this
end Go.Proofs.A1
namespace Go.Proofs.A1
open Go Go.SL
end Go.Proofs.A1
namespace Go.Proofs.A1
open Go Go.SL
end Go.Proofs.A1
namespace Go.Proofs.A1
open Go Go.SL

end Go.Proofs.A1
namespace Go.Proofs.A1
open Go Go.SL
theorem DO (w:World):RR w Ro.nil (.z) (.z) (.z) (.z):=⟨Rd.nil w 2,Rd.nil w 3,Rd.nil w 3,Rd.nil w 3⟩
end Go.Proofs.A1
namespace Go.Proofs.A1
open Go Go.SL
end Go.Proofs.A1
namespace Go.Proofs.A1
open Go Go.SL
end Go.Proofs.A1
namespace Go.Proofs.A1
open Go Go.SL
end Go.Proofs.A1
namespace Go.Proofs
open Go.Shelf
end Go.Proofs
namespace Go.Proofs.A1
open Go Go.SL
section
variable {P:Program} {r:Option Nat} {c:Cx} {D:List Nat} {sl:aD} {hs hs':List bh} {ops:Array Oper} {Q:Exit->Act->World->Prop} {d:Nat} {ty:TypeId} {pos:String} {af:Array Edge} {rest:List Oper}
end
end Go.Proofs.A1
namespace Go.Proofs.A1
open Go Go.SL
end Go.Proofs.A1
namespace Go.Proofs.A1
open Go Go.SL
open Tryz
open Tryz renaming prog->T_
theorem tj {r:Ro} (h:fT r=0):me r:=by
 have:=(uo h).len;unfold me;omega
theorem pT {r:Ro} (h:fT r=0):mu r:=by
 have:=(uo h).len;have:=ni (uo h) (uo h).val;unfold mu;omega
theorem K1 {lv:Value} {l:List ByteArray} {o:ByteArray} {u:Bool} {w:World} (h:Rd w lv 1 (ie l)) (e:fy l o=u):ao T_ 59 [lv,.string o] w (.bool u):=e ▸ K0 o h
theorem Ii {r:Ro} {y:ByteArray} (hy:y∈cz r):Na r y=0:=by
 unfold Na;rw [bC (by decide)];exact decide_eq_false fun c=>cm.1 c hy
theorem sD {r:Ro} (fB:fT r=0) {k:Nat} (hk:(k:Int)<r.lv) {so de:ByteArray} (hs:so∈cz r) (hd:de∈bY r):kP r (k:Nat) so de=0:=by
 have hl:=(uo fB).lim;unfold kP;rw [fB,th,Ke (by omega) hk,th,Ii hs,th,AY,Ll hd]
def wB (r:Ro) (v:Int) (so de:ByteArray):Bool:=(kO r v so de).isSome
theorem Dx (r:Ro) (v:Int) (so de:ByteArray):Hv r v so (gQ r de)=wB r v so de:=by
 unfold Hv wB kO;cases (eh r r.po v so).all (gQ r de) ((eh r r.po v so).n+1) [] <;> rfl
variable {de so:ByteArray} {v:Int}
theorem HK {r:Ro}:wB r v so de=true↔(eh r r.po v so).Rc (gQ r de):=by
 rw [<- Dx,DY]
theorem ve {r:Ro} (hb:kP r v so de=0):sC r v so de=if wB r v so de then 0 else 18:=by
 unfold sC wB;rw [if_neg (not_not_intro hb)];cases kO r v so de <;> rfl
theorem Lq {r:Ro} (hb:kP r v so de=0):A4 r v so de=if wB r v so de then 24 else 0:=by
 unfold A4;rw [if_neg (not_not_intro hb),Dx]
theorem JR {l:List ByteArray} (h:l.Nodup) {i:Nat} (hi:i<l.length):br l l[i]=(i:Nat):=
 lx hi I fun j hj e=>ZY.1 (ZaQ.1 h) j i (by omega) hi hj e
theorem SM {r:Ro} (fB:fT r=0) {j:Nat} (hj:j<r.de.length):gQ r r.de[j].nm=r.de[j].mx:=by
 have hd:=(uo fB).EC.parts.2.1;have e:br (bY r) r.de[j].nm=(j:Nat):=by
  have:=JR hd (i:=j) (by unfold bY;rw [Zd];exact hj);unfold bY at this ⊢;rwa [Z2] at this
 unfold gQ;rw [e,Zy,Zk,Zc hj];rfl
theorem QK {r:Ro} (fB:fT r=0) {j:Nat} (hj:j<r.sr.length):mJ r r.sr[j].nm=r.sr[j].mx:=by
 have hd:=(uo fB).EC.parts.1;have e:br (cz r) r.sr[j].nm=(j:Nat):=by
  have:=JR hd (i:=j) (by unfold cz;rw [Zd];exact hj);unfold cz at this ⊢;rwa [Z2] at this
 unfold mJ;rw [e,Zy,Zk,Zc hj];rfl
theorem OS {r:Ro} (fB:fT r=0) {v:Int} {so de:ByteArray} (hb:kP r v so de=0) (hs:so∈cz r) (h:wB r v so de=true) :
  SR r v so de (qw r v so de)=0/\(qw r v so de).length<=r.ti.length/\(mJ r so=gQ r de->qw r v so de=[]):=by
 have dw:=uo fB;have hd:=dw.EC.parts.2.2.1;cases hp:kO r v so de with
 | none=>unfold wB at h;rw [hp] at h;cases h
 | some p =>
  have hl:=EZ hp;have e:qw r v so de=p.map (eY r):=by unfold qw;rw [if_neg (not_not_intro hb),hp];rfl
  rw [e];have aN:∀ i∈p,i<r.ti.length:=Wn.vJ hl.1;have jX:=Wn.rD hl.1;have cJ:p.length<=r.ti.length:=Wn.sP hl.1;have h6:=dw.len.2.2;refine ⟨?_,by rw [Zd];exact cJ,fun hm=>?_⟩
  ·have Yj:(p.map (eY r)).Nodup:=ZaQ.2 (Zbq.2 ((ZaQ.1 jX).imp_of_mem fun {a b} ha dK hne e=>hne (zS hd (aN a ha) (aN b dK) e)))
   have hB:OT r (p.map (eY r))=0:=dC.2 fun k hk=>by
    rw [uC hk];have h1:fy (ct r) (p.map (eY r))[k]=true:=by
     rw [dN,Z2];exact pC (aN _ (Zj _))
    have h2:fy ((p.map (eY r)).take k) (p.map (eY r))[k]=false:=by
     rw [<- Zae,dN];intro hc;obtain ⟨j,hj,ej⟩:=Zu hc;rw [Zs] at hj;rw [ZaE] at ej;exact ZY.1 (ZaQ.1 Yj) j k (by omega) hk (by omega) ej
    rw [h1,h2];rfl
   have hQ:VP r (p.map (eY r))=0:=by
    unfold VP;rw [if_neg (by rw [Zd];omega),hB]
   rw [MI dw hd hb,if_neg (not_not_intro hQ),if_pos];rw [Rz dw hd hs hl.1,decide_eq_true_iff];exact hl.2.1
  ·have hn:(eh r r.po v so).least (gQ r de) []:=y8 (show jH r so=_ by rw [nr hs];exact hm);rw [Wn.vS hl hn];rfl
theorem OV {r:Ro} (fB:fT r=0) {v:Int} {so de:ByteArray} (hb:kP r v so de=0) (hs:so∈cz r) (h:wB r v so de=false):SU r v so de (wU r v so de)=0/\(wU r v so de).length<=4:=by
 have dw:=uo fB;have e:wU r v so de=o9 r v so:=by
  unfold wU;rw [if_neg (not_not_intro hb),Dx,h];rfl
 rw [e];have h4:(o9 r v so).length<=4:=by
  unfold o9;refine ZZ (Z5 _ _) ?_;rw [Zd,Zar];have:=dw.lim;omega
 refine ⟨?_,h4⟩;have hA:TB r v so de (o9 r v so)=0:=by
  unfold TB;rw [hb,th,AY,decide_eq_false (by omega)];rfl
 have hB:SV r (o9 r v so)=0:=dC.2 fun k hk=>by
  have hm:=(wW dw hs (v:=v)).1 (Zj hk);have hr:=rm dw hs hm;rw [Lv hk,fA.2 hr,th,AY,bC (by decide),decide_eq_false_iff_not];cases k with
  | zero=>unfold y9;rw [if_pos rfl];omega
  | succ k =>
   rw [vU (by omega)];have:=ZY.1 (wV r v so) k (k+1) (by omega) hk (Nat.lt_succ_self k);omega
 have hC:P9 r v so de (o9 r v so)=false:=by
  have hm:=fun {m:Int}=>wW (m:=m) dw hs (v:=v)
  unfold P9;rw [Bool.or_eq_false_iff,Bool.or_eq_false_iff];refine ⟨⟨?_,?_⟩,?_⟩
  ·rw [Zap];intro x hx hc;obtain ⟨i,hi,rfl⟩:=Zu hx;unfold rK at hc;simp only [Zm,ZaP,List.contains_eq_mem,decide_eq_true_eq,decide_eq_false_iff_not] at hc;obtain ⟨⟨c1,c2⟩,c3⟩:=hc;refine c2 (hm.2 ?_);have:=Wn.Rc.fe (N:=eh r r.po v so) (i:=i) hi (by show (!ib r.po v (eY r i))=true;unfold eY;rw [iG hi,c3];rfl) (by show (eh r r.po v so).Rc (fM r i).fr;rw [iG hi];exact hm.1 c1);have e:(eh r r.po v so).to i=r.ti[i].to:=by show (fM r i).to=_;rw [iG hi]
   rwa [e] at this
  ·rw [Zap];intro x hx hc;have:=hm.2 (uJ dw hs _ (ZC _) x hx);simp [List.contains_eq_mem,this] at hc
  ·rw [List.contains_eq_mem,decide_eq_false_iff_not,hm,<- HK,h]
   decide
 unfold SU;rw [if_neg (not_not_intro hA),if_neg (not_not_intro hB),hC];rfl
theorem vM {r:Ro} (fB:fT r=0) (hx:nC ∉ cY r) (h8:r.de.length<8) {k:Nat} (hk:(k:Int)<r.lv) {so de:ByteArray} (hs:so∈cz r) (hd:de∈bY r) :
  ∃ Q IX,iv (r.more (gQ r de)) [jA r k so]=(Q,IX,if wB r (k:Nat) so de then 0 else 18):=by
 have dw:=uo fB;have hr:=dw.lim;have jT:fT (r.more (gQ r de))=0:=r9 fB (tq dw hd) h8 hx;have hT:HB (r.more (gQ r de)) [jA r k so]:=by
  refine ⟨fun t ht=>?_,by simp,fun t ht=>?_,fun t ht s hs'=>?_,by simp⟩
  ·rw [ZB.1 ht,ki];exact ZM _ (ZB.2 I)
  ·rw [ZB.1 ht];show (((List.range r.lv.toNat).map _).length:Int)=r.lv;rw [Zd,Zar];omega
  ·rw [ZB.1 ht] at hs';obtain ⟨i,_,rfl⟩:=Zw.1 hs';split
   ·exact .inr (.inr hs)
   ·exact .inl I
 have ht:Bm (r.more (gQ r de)) [jA r k so]=0:=uG.2 ⟨List.cons_ne_nil _ _,hT⟩;refine ⟨(kg (r.more (gQ r de)) [jA r k so]).1,(kg (r.more (gQ r de)) [jA r k so]).2.1,?_⟩;unfold iv;rw [if_neg (not_not_intro jT),if_neg (not_not_intro ht)];have:=JY fB hx h8 hk hs hd;unfold wB;rw [<- this]
theorem gV.nil (r:Ro):gV r []:=
 ⟨.nil,fun _ h=>absurd h Zo,fun _ h=>absurd h Zo,fun _ h=>absurd h Zo,fun _ h=>absurd h Zo,
 fun v ⟨t,_,ht⟩=>(by rw [sf I] at ht;cases ht),fun v t _=>⟨fun h=>(by cases h),fun h=>(by cases h)⟩⟩
theorem EX (r:Ro) (v:Int) (so:ByteArray):eh (r.wp []) (r.wp []).po v so=eh r [] v so:=rfl
theorem wL {r:Ro} (hs:so∈cz r) {i:Nat} (hi:i<r.ti.length) (h1:r.ti[i].fr=mJ r so) (h2:r.ti[i].to=gQ r de):wB (r.wp []) v so de=true:=by
 rw [HK,EX];have h0:(eh r [] v so).Rc ((eh r [] v so).fr i):=by
  have e:(eh r [] v so).fr i=(eh r [] v so).zu:=by
   show (fM r i).fr=jH r so;rw [iG hi,h1,nr hs]
  rw [e];exact .zu
 have:=Wn.Rc.fe (N:=eh r [] v so) (i:=i) hi I h0;have e:(eh r [] v so).to i=gQ (r.wp []) de:=by show (fM r i).to=gQ r de;rw [iG hi,h2]
 rwa [e] at this
theorem K8 {r:Ro} (fB:fT r=0) {v:Int} {so de:ByteArray} (h:wB r v so de=true):wB (r.wp []) v so de=true:=by
 have dw:=uo fB;rw [HK] at h ⊢;rw [EX];exact Nu dw.tL dw.EC.parts.2.2.1 dw.val h
end Go.Proofs.A1
namespace Go.SL.KT
open Go Go.SL
def kW (ops:Array Oper) (x y:Oper) (i:Nat):Bool:=
 (match x.dst with | some d=>!has (y.looksAt ops) d||dR y i | none=>true)&&(match y.dst with | some e=>!has (x.looksAt ops) e||dR y i | none=>true)&&(match x.dst,y.dst with | some d,some e=>!Nat.beq d e | _,_=>true)
variable {x y:Oper}
theorem IZ {ops:Array Oper} {i d e:Nat} (h:kW ops x y i=true) (hx:x.dst=some d) (hy:y.dst=some e):d≠e:=by
 simp only [kW,hx,hy,Zm] at h;exact fun e'=>by subst e';simp at h
theorem Rb {ops:Array Oper} {i d:Nat} (h:kW ops x y i=true) (hx:x.dst=some d) (hl:d∈y.looksAt ops):dR y i=true:=by
 simp only [kW,hx,Zm] at h;have:=h.1.1;rw [uZ.2 hl] at this;simpa using this
theorem Ra {ops:Array Oper} {i e:Nat} (h:kW ops x y i=true) (hy:y.dst=some e) (hl:e∈x.looksAt ops):dR y i=true:=by
 simp only [kW,hy,Zm] at h;have:=h.1.2;rw [uZ.2 hl] at this;simpa using this
def oK (ops:Array Oper):List Oper->Nat->Bool
 | [],_=>true
 | x::r,i=>r.all (fun y=>kW ops x y i)&&oK ops r (i+1)
theorem xO {ops:Array Oper} {l:List Oper}:∀ {s:Nat},oK ops l s=true->∀ {i j:Nat} {x y:Oper},i<j->l[i]? = some x->l[j]? = some y->kW ops x y (s+i)=true:=by
 induction l with
 | nil=>intro s _ i j x y _ h;simp at h
 | cons o r ih =>
  intro s h i j x y wA hx hy;simp only [oK,Zm,Z7] at h;cases j with
  | zero=>omega
  | succ j =>
   cases i with
   | zero =>
    simp at hx;subst hx;exact h.1 y (ZV (by simpa using hy))
   | succ i =>
    have:=ih h.2 (i:=i) (j:=j) (by omega) (by simpa using hx) (by simpa using hy);rwa [show s+1+i=s+(i+1) from by omega] at this
def DU (l:List Oper) (m:Nat):Bool:=
 l.all mo&&si l 0&&oK l.toArray (l.take m) 0&&(List.range' m (l.length-m)).all (fun k=>(List.range m).all fun i=>((ix l []).getD k 0).testBit i)&&Nat.ble m l.length
structure Pd (l:List Oper) (m:Nat):Prop where
 op:∀ o∈l,mo o=true
 ac:si l 0=true
 vH:oK l.toArray (l.take m) 0=true
 tail:∀ k,m<=k->k<l.length->∀ i,i<m->((ix l []).getD k 0).testBit i=true
 le:m<=l.length
theorem Cd {l:List Oper} {m:Nat} (h:DU l m=true):Pd l m:=by
 simp only [DU,Zm,Z7] at h;obtain ⟨⟨⟨⟨h1,h2⟩,h3⟩,h5⟩,h6⟩:=h;exact ⟨h1,h2,h3,fun k hk aN i hi=>h5 k (ZaF.2 ⟨hk,by omega⟩) i (ZU.2 hi),by simpa using h6⟩
theorem rA {l:List Oper} {m:Nat} (hc:Pd l m) {i j:Nat} {x y:Oper} (wA:i<j) (hj:j<m) (hx:l[i]? = some x) (hy:l[j]? = some y):kW l.toArray x y i=true:=by
 have:=xO hc.vH (i:=i) (j:=j) wA (by rw [ZH,if_pos (by omega)];exact hx) (by rw [ZH,if_pos hj];exact hy);simpa using this
theorem Cg {l:List Oper} {m:Nat} (hc:Pd l m) {listed:Array Bool} (hsz:listed.size=l.length) (ur:DC l (Ls listed)) {i:Nat} (hi:i∈Region.ready .any l.toArray listed) (hm:m<=i):∀ j,j<m->Ls listed j:=by
 intro j hj;obtain ⟨o,ho,hn,hd⟩:=(dQ hsz).1 hi;have aN:i<l.length:=(Zl.1 ho).1;have AP:DC l (fun k=>k=i\/Ls listed k):=by
  intro k ok hk hL e he hb;rcases hL with e' | hL
  ·subst e';rw [ho] at hk;cases hk;exact .inr (hd e he hb)
  ·exact .inr (ur k ok hk hL e he hb)
 rcases gA AP hc.ac i aN (.inl rfl) j (hc.tail i hm aN j hj) with h | h
 ·omega
 ·exact h
def zx (P:Program) (o:Oper) (a:Act) (w:World) (K:Value->World->Prop):Prop:=
 match (execOp a.eval o).run P w with
 | .ok (.value v) w'=>K v w'
 | .ok .skip w'=>o.dst=none/\K undef w'
 | .ok (.enter f args) w'=>w'=w/\Calls P f args w (fun e vf=>∃ v,e=.returned v/\K v vf)
 | _=>False
theorem zx.of {P:Program} {o:Oper} {a:Act} {w:World} {K:Value->World->Prop} (h:od P o a w K):zx P o a w K:=by
 unfold od at h;unfold zx
 revert h
 generalize (execOp a.eval o).run P w=res;intro h
 match res,h with
 | .ok (.value v) w',h=>exact h
 | .ok (.enter f args) w',h=>exact h
section
variable {P:Program} {c:Cx} {D:List Nat} {sl:aD} {hs:List bh} {Q:Exit->Act->World->Prop} {l:List Oper} {m:Nat} {tk:Nat->Nat}
structure LY (P:Program) (c:Cx) (hs:List bh) (l:List Oper) (tk:Nat->Nat) (i:Nat) (o:Oper) (SL:(Nat->Value)->aD) (S:List cj) (s:cj):Prop where
 xQ:lI l i s.F
 xR:lI l i s.A
 run:∃ B:List Nat,(∀ j∈B,jZ l o j=true/\tk j=0)/\∀ β a w oZ,bW (SL β) a->jm c hs S B β w->cA (hp w) (dM β (dW tk i) S 0) oZ->if Region.wanted o (yielded l.toArray a.tmps)=true then zx P o a w (zy i s β w oZ) else zy i s β w oZ undef w
 waits:∀ j,tk j=i->0<i->dR o j=true
def S6 (o:Option Tmp) (F:(Nat->Value)->Value) (SL:(Nat->Value)->aD):(Nat->Value)->aD:=match o with
 | some d=>fun β=>(d,F β)::SL β
 | none=>SL
inductive xj (P:Program) (c:Cx) (hs:List bh) (l:List Oper) (tk:Nat->Nat):Nat->List Oper->((Nat->Value)->aD)->List cj->List cj->((Nat->Value)->aD)->Prop
 | nil {i:Nat} {SL:(Nat->Value)->aD} {S:List cj}:xj P c hs l tk i [] SL S S SL
 | step {i:Nat} {o:Oper} {rest:List Oper} {SL kJ:(Nat->Value)->aD} {S S':List cj} {s:cj} (fF:∀ d,o.dst=some d->d<c.nt) (h:LY P c hs l tk i o SL S s)
   (t:xj P c hs l tk (i+1) rest (S6 o.dst s.F SL) (S++[s]) S' kJ):xj P c hs l tk i (o::rest) SL S S' kJ
theorem jP.stepT {pre:List Oper} {SL:(Nat->Value)->aD} {S:List cj} (h:jP sl pre SL S) (hl:S.length=pre.length) {o:Oper} {s:cj}:jP sl (pre++[o]) (S6 o.dst s.F SL) (S++[s]):=by
 cases hd:o.dst with
 | some d=>exact h.step hl hd
 | none =>
  intro β t v hv;rcases h β t v hv with ⟨j,oj,s',h1,h2,h3,h4⟩ | ⟨h1,h2⟩
  ·refine .inl ⟨j,oj,s',?_,h2,?_,h4⟩
   ·rw [ZG (Zl.1 h1).1];exact h1
   ·rw [ZG (Zl.1 h3).1];exact h3
  ·refine .inr ⟨fun oj CA=>?_,h2⟩;rcases Zq.1 CA with CA | CA
   ·exact h1 oj CA
   ·rw [ZB.1 CA,hd];exact fun e=>by cases e
theorem xj.spec {i:Nat} {rest:List Oper} {SL kJ:(Nat->Value)->aD} {S S':List cj} (h:xj P c hs l tk i rest SL S S' kJ):∀ pre:List Oper,pre.length=i->S.length=i->jP sl pre SL S ->
  S'.length=i+rest.length/\S <+: S'/\jP sl (pre++rest) kJ S'/\∀ k o,i<=k->(pre++rest)[k]? = some o->∃ C8 s,(∀ d,o.dst=some d->d<c.nt)/\S'[k]? = some s/\jP sl ((pre++rest).take k) C8 (S'.take k)/\LY P c hs l tk k o C8 (S'.take k) s:=by
 induction h with
 | @nil i SL S =>
  intro pre hp hS jI;refine ⟨by simpa using hS,List.prefix_rfl,by simpa using jI,fun k o hk ho=>?_⟩;have:=(Zl.1 ho).1;simp at this;omega
 | @step i o rest SL kJ S S' s fF bj t ih =>
  intro pre hp hS jI;obtain ⟨h1,h2,h3,h4⟩:=ih (pre++[o]) (by simp [hp]) (by simp [hS]) (jP.stepT jI (by omega));rw [Zh,List.singleton_append] at h3 h4;have FH:S <+: S':=(ZaL S [s]).trans h2;have qJ:S'[i]? = some s:=by
   obtain ⟨r,rfl⟩:=h2;rw [Zh,ZI (by omega),hS];simp
  have Vm:S'.take i=S:=by
   obtain ⟨r,rfl⟩:=FH;rw [<- hS];simp
  refine ⟨by rw [h1];simp;omega,FH,h3,fun k ok hk ho=>?_⟩;by_cases e:k=i
  ·subst e;have Di:ok=o:=by
    rw [ZI (by omega),hp] at ho;simpa using ho.symm
   subst Di;have htk:(pre++ok::rest).take k=pre:=by rw [<- hp];simp
   rw [htk,Vm];exact ⟨SL,s,fF,qJ,jI,bj⟩
  ·exact h4 k ok (by omega) ho
structure Wg (c:Cx) (D:List Nat) (hs:List bh) (l:List Oper) (tk:Nat->Nat) (m:Nat) (S:List cj) (a0:Act) (fuel:Nat) (listed:Array Bool) (a:Act) (w:World):Prop where
 sz:listed.size=l.length
 dc:DC l (Ls listed)
 hi:∀ k,m<=k->¬ Ls listed k
 defers:a.defers=D.map mark
 size:a.tmps.size=c.nt
 Bo:∀ t,(∀ (j:Nat) (o:Oper),l[j]? = some o->Ls listed j->o.dst≠some t)->a.tmps[t]? = a0.tmps[t]?
 left:∃ U:List Nat,U.Nodup/\(∀ i,i∈U↔i<l.length/\¬ Ls listed i)/\U.length=fuel
 own:∃ β:Nat->Value,Mem c (dM β (pk tk (fun i=>listed.getD i false)) S 0++(hs++mN D)) w/\∀ (j:Nat) (o:Oper) (d:Nat) (s:cj),l[j]? = some o->o.dst=some d->S[j]? = some s->Ls listed j->a.tmps[d]? = some (s.F β)
set_option maxHeartbeats 1000000 in
theorem Q7 (hc:Pd l m) (hQp:∀ c a w,¬ Q (.panic c) a w) {S:List cj} {kJ:(Nat->Value)->aD} (UH:xj P c hs l tk 0 (l.take m) (fun _=>sl) [] S kJ) {a0:Act} (h0:bW sl a0) (KH:a0.tmps.size=c.nt)
  (tail:∀ β a w,St c D (kJ β) (dM β (pk tk (fun i=>Nat.blt i m)) S 0++hs) a w->wpAnyIn (FR none) 0 P .any l.toArray Q (l.length-m) (kK l.length m) a w) :
  ∀ (fuel:Nat) (listed:Array Bool) (a:Act) (w:World),Wg c D hs l tk m S a0 fuel listed a w->wpAnyIn (FR none) 0 P .any l.toArray Q fuel listed a w:=by
 have hle:=hc.le;have KE:jP sl [] (fun _=>sl) []:=fun β t v hv=>.inr ⟨fun oj h=>(Zo h).elim,hv⟩
 obtain ⟨CH,_,jI,fI⟩:=UH.spec (sl:=sl) [] rfl rfl KE;rw [Za] at jI fI;rw [ZE,Zs,Zbk hle] at CH;have eo:∀ (j:Nat) (o:Oper),j<m->l[j]? = some o->(l.take m)[j]? = some o:=fun j o hj ho=>by rw [ZH,if_pos hj];exact ho
 have fJ:∀ (j:Nat) (o:Oper),(l.take m)[j]? = some o->j<m/\l[j]? = some o:=fun j o ho=>by
  rw [ZH] at ho;split at ho
  ·exact ⟨by assumption,ho⟩
  ·cases ho
 have PT:∀ j,j<m->∃ s,S[j]? = some s:=fun j hj=>⟨S[j]'(by omega),Zc (by omega)⟩
 have mR:∀ fuel listed a w,Wg c D hs l tk m S a0 fuel listed a w->(∀ i,i<m->Ls listed i)->wpAnyIn (FR none) 0 P .any l.toArray Q fuel listed a w:=by
  intro fuel listed a w hI dZ;have hL:∀ i,i<l.length->(Ls listed i↔i<m):=fun i _=>⟨fun h=>ZS fun hm=>hI.hi i hm h,dZ i⟩
  obtain ⟨U,yf,qI,sY⟩:=hI.left;have iB:U.Perm (List.range' m (l.length-m)):=by
   rw [ZaA yf (ZbB)];intro i;rw [qI i,ZaF];constructor
   ·rintro ⟨h1,h2⟩;exact ⟨ZaV fun h=>h2 (dZ i h),by omega⟩
   ·rintro ⟨h1,h2⟩;exact ⟨by omega,hI.hi i h1⟩
  have hlen:fuel=l.length-m:=by rw [<- sY,iB.length_eq,Zbx]
  have KI:listed=kK l.length m:=by
   have we:(kK l.length m).size=l.length:=by simp [kK];omega
   apply Array.ext
   ·rw [hI.sz,we]
   ·intro i h1 h2;rw [hI.sz] at h1;have h3:=hL i h1;unfold Ls at h3;rw [ZF,ZaC (by rw [hI.sz];exact h1),Zam] at h3;have h4:(kK l.length m)[i]=decide (i<m):=by
     simp only [kK,List.getElem_toArray];by_cases hi:i<m
     ·rw [Zac (by simpa using hi)];simp [hi]
     ·rw [Zag (by simpa using hi)];simp [hi]
    rw [h4];by_cases hi:i<m
    ·rw [h3.2 hi];simp [hi]
    ·have:¬ listed[i]=true:=fun h=>hi (h3.1 h)
     simp [hi,this]
  subst hlen;rw [KI];obtain ⟨β,hm,fZ⟩:=hI.own;have Of:∀ i,listed.getD i false=Nat.blt i m:=fun i=>by
   by_cases hi:i<m
   ·rw [show Nat.blt i m=true from by simpa [Z1] using hi];exact dZ i hi
   ·have h1:¬ listed.getD i false=true:=hI.hi i (by omega);have h2:¬ Nat.blt i m=true:=by simpa [Z1] using hi
    rw [Zae] at h1 h2;rw [h1,h2]
  have e:dM β (pk tk (fun i=>listed.getD i false)) S 0=dM β (pk tk (fun i=>Nat.blt i m)) S 0:=gU fun j s hj=>⟨by unfold pk;simp only [Of],fun _=>rfl⟩
  rw [e] at hm;refine tail β a w ⟨by rw [Zh];exact hm,fun t v hv=>?_,hI.size,hI.defers⟩;rcases jI β t v hv with ⟨j,oj,s,h1,h2,h3,h4⟩ | ⟨h1,h2⟩
  ·obtain ⟨iQ,nh⟩:=fJ j oj h1;rw [h4];exact fZ j oj t s nh h2 h3 (dZ j iQ)
  ·rw [hI.Bo t fun j oj hj jU=>h1 oj (ZV (eo j oj (ZS fun hm=>hI.hi j hm jU) hj))]
   exact h0 t v h2
 intro fuel
 induction fuel with
 | zero =>
  intro listed a w hI;obtain ⟨U,_,qI,sY⟩:=hI.left;have hU:U=[]:=Zaq.1 sY;refine mR 0 listed a w hI fun i hi=>Classical.byContradiction fun hn=>?_;have:=(qI i).2 ⟨by omega,hn⟩;rw [hU] at this;cases this
 | succ fuel ih =>
  intro listed a w hI;by_cases dZ:∀ i,i<m->Ls listed i
  ·exact mR _ listed a w hI dZ
  ·have hex:∃ i,i<m/\¬ Ls listed i:=Classical.byContradiction fun hh=>dZ fun i hi=>Classical.byContradiction fun hn=>hh ⟨i,hi,hn⟩
   obtain ⟨i0,uX,qH⟩:=hex;have main:∀ i,i∈Region.ready .any l.toArray listed->i<m->wpOpIn (FR none) 0 P l.toArray Q i (wpAnyIn (FR none) 0 P .any l.toArray Q fuel (listed.setIfInBounds i true)) a w:=by
    intro i hi oV;obtain ⟨o,ho,hn,l6⟩:=(dQ hI.sz).1 hi;obtain ⟨C8,s,fF,qJ,tT,dw⟩:=fI i o (Zi _) (eo i o oV ho);obtain ⟨xQ,xR,⟨B,hB,ij⟩,Eh⟩:=dw;obtain ⟨β,hm,fZ⟩:=hI.own;have km:∀ (j:Nat),dR o j=true->Ls listed j:=fun j hw=>by
     obtain ⟨e,he,hb,nG⟩:=cR hw;rw [<- nG];exact l6 e he hb
    have wb:∀ (j:Nat),jZ l o j=true->Ls listed j:=fun j hw=>by
     unfold jZ at hw;rw [ZP] at hw;rcases hw with hw | hw
     ·exact km j hw
     ·obtain ⟨k,_,hk⟩:=ZR.1 hw;rw [Zm] at hk;have Ha:=km k hk.1;cases hq:l[k]? with
      | none=>rw [hq] at hk;cases hk.2
      | some q =>
       rw [hq] at hk;obtain ⟨e,he,hb,nG⟩:=cR hk.2;rw [<- nG];exact hI.dc k q hq Ha e he hb
    have qn:∀ (j:Nat) (oj:Oper) (e:Nat),l[j]? = some oj->j<m->j≠i->oj.dst=some e->∀ d,o.dst=some d->d≠e:=by
     intro j oj e hj iQ hne he d hd;rcases Zbp j i with h | h
     ·exact fun e'=>IZ (rA hc h oV hj ho) he hd e'.symm
     ·exact IZ (rA hc (show i<j by omega) iQ ho hj) hd he
    have iY:i<listed.size:=by rw [hI.sz];omega
    have Dh:mo o=true:=hc.op o (ZV ho)
    -- Bn dh QF Bn operation looks at
    have hT:∀ t∈o.looksAt l.toArray,∀ v,cW (C8 β) t=some v->a.tmps[t]? = some v:=by
     intro t ht v hv;rcases tT β t v hv with ⟨j,oj,sj,h1,h2,h3,h4⟩ | ⟨h1,h2⟩
     ·have nP:j<i:=by have:=(Zl.1 h1).1;rw [Zs] at this;omega
      rw [ZH,if_pos nP] at h1 h3;obtain ⟨iQ,nh⟩:=fJ j oj h1;have jU:=km j (Rb (rA hc nP oV nh ho) h2 ht);rw [h4];exact fZ j oj t sj nh h2 h3 jU
     ·rw [hI.Bo t fun j oj hj jU iR=>?_]
      ·exact h0 t v h2
      ·have iQ:j<m:=ZS fun hm=>hI.hi j hm jU
       rcases Zao j i with h | h | h
       ·exact h1 oj (ZV (by rw [ZH,if_pos h];exact eo j oj iQ hj)) iR
       ·subst h;exact hn jU
       ·have hw:=Ra (rA hc h iQ ho hj) iR ht;obtain ⟨e,he,hb,nG⟩:=cR hw;have:=hI.dc j oj hj jU e he hb;rw [nG] at this;exact hn this
    have wu:∀ t v,cW (C8 β) t=some v->t<c.nt:=by
     intro t v hv;rcases tT β t v hv with ⟨j,oj,sj,h1,h2,_,_⟩ | ⟨_,h2⟩
     ·have nP:j<i:=by have:=(Zl.1 h1).1;rw [Zs] at this;omega
      rw [ZH,if_pos nP] at h1;obtain ⟨_,_,AO,_⟩:=fI j oj (Zi _) h1;exact AO t h2
     ·have:=h0 t v h2;rw [<- KH];exact (Z0.1 this).1
    obtain ⟨a',l7,js,_⟩:=o6 hI.size wu hT;have ye:jm c hs (S.take i) B β w:=by
     rintro A (rfl | ⟨j,hj,sj,h1,rfl⟩)
     ·exact hm.sublist ((ZaY _ _).trans (ZaT _ _))
     ·have nP:j<i:=by have:=(Zl.1 h1).1;rw [Zs] at this;omega
      rw [ZH,if_pos nP] at h1;have jU:=wb j (hB j hj).1;exact hm.sublist ((rj (lst:=pk tk (fun i=>listed.getD i false)) (i:=0) h1 (by rw [Nat.zero_add];unfold pk;dsimp only;rw [(hB j hj).2,show listed.getD j false=true from jU];rfl)).append (List.sublist_append_left _ _))
    have Sc:listed.getD i false=false:=by have h:¬ listed.getD i false=true:=hn;simpa using h
    have Uo:∀ j,dW tk i j=true->dR o j=true:=fun j h=>by
     unfold dW at h;rw [Zm] at h;exact Eh j (by simpa using h.2) (by simpa [Z1] using h.1)
    have Us:∀ j,dW tk i j=true->j<i:=fun j h=>by
     obtain ⟨e,he,hb,nG⟩:=cR (Uo j h);have:=j7 hc.ac ho e he hb;omega
    have X8:∀ j,dW tk i j=true->pk tk (fun i=>listed.getD i false) j=true:=fun j h=>by
     have h1:listed.getD j false=true:=km j (Uo j h);have h2:tk j=i:=by unfold dW at h;rw [Zm] at h;simpa using h.2
     unfold pk;dsimp only;rw [h1,h2,Sc];simp
    have etk:dM β (fun j=>pk tk (fun i=>listed.getD i false) j&&dW tk i j) S 0=dM β (dW tk i) (S.take i) 0:=by
     rw [oH (n:=i) fun j hj=>by
      rw [ZE] at hj;cases ht:dW tk i j with
      | false=>rw [Zbv]
      | true=>have:=Us j ht;omega]
     refine gU fun j sj _=>⟨?_,fun _=>rfl⟩;rw [ZE];cases ht:dW tk i j with
     | false=>rw [Zbv]
     | true=>rw [X8 j ht];rfl
    have UR:=hm.perm ((qy (β:=β) (pk tk (fun i=>listed.getD i false)) (dW tk i) S 0).append_right _)
    rw [Zh,etk] at UR;obtain ⟨oZ,_,Kz,KO⟩:=Mem.yG UR;have hq:=ij β a' w oZ l7 ye Kz;have hex:=iL (o:=o) (ops:=l.toArray) Dh js
    -- Qt a done operation TP VM not Vi on this one
    have oW:∀ j,Ls listed j->∀ x k,uz l j k=true->β k=uE β i x k:=by
     intro j jU x k hk;refine (vg fun e=>?_).symm;subst e;unfold uz at hk;rw [ZP] at hk;rcases hk with hk | hk
     ·have:j=k:=by simpa using hk
      subst this;exact hn jU
     ·have KN:j<l.length:=by
       have iQ:j<m:=ZS fun hm=>hI.hi j hm jU
       omega
      exact hn (gA hI.dc hc.ac j KN jU k hk)
    have ia:∀ v w',zy i s β w oZ v w'->wpAnyIn (FR none) 0 P .any l.toArray Q fuel (listed.setIfInBounds i true) (a.put o.dst v) w':=by
     rintro v w' ⟨x,rfl,hk,fp,jX,gY,sA⟩;refine ih _ _ _ ⟨by simpa using hI.sz,?_,?_,by cases o.dst <;> exact hI.defers,by cases o.dst <;> simpa [Act.put] using hI.size,?_,?_,uE β i x,?_,?_⟩
     ·intro k ok sy hL e he hb;rw [cH iY] at hL ⊢;rcases hL with e' | hL
      ·subst e';rw [ho] at sy;cases sy;exact .inr (l6 e he hb)
      ·exact .inr (hI.dc k ok sy hL e he hb)
     ·intro k sy hL;rw [cH iY] at hL;rcases hL with e | hL
      ·omega
      ·exact hI.hi k sy hL
     ·intro t ht;have h1:∀ d,o.dst=some d->d≠t:=fun d hd e=>by subst e;exact ht i o ho ((cH iY).2 (.inl rfl)) hd
      have e0:(a.put o.dst (s.F (uE β i x))).tmps[t]? = a.tmps[t]?:=by
       cases hd:o.dst with
       | none=>rfl
       | some d=>simp only [Act.put,ZK (h1 d hd)]
      rw [e0];exact hI.Bo t fun j oj hj hL=>ht j oj hj ((cH iY).2 (.inr hL))
     ·obtain ⟨U,yf,qI,sY⟩:=hI.left;refine ⟨U.erase i,yf.erase i,fun k=>?_,?_⟩
      ·rw [yf.mem_erase_iff,qI k,cH iY];constructor
       ·rintro ⟨h1,h2,h3⟩;exact ⟨h2,fun h=>h.elim h1 h3⟩
       ·rintro ⟨h1,h2⟩;exact ⟨fun e=>h2 (.inl e),h1,fun h=>h2 (.inr h)⟩
      ·have Sf:i∈U:=(qI i).2 ⟨by omega,hn⟩;rw [ZaH Sf,sY];rfl
     ·have mr:=KO _ w' hk ⟨fp,jX,gY,sA⟩;have e1:dM β (fun j=>pk tk (fun i=>listed.getD i false) j&&!dW tk i j) S 0=dM (uE β i x) (fun j=>pk tk (fun i=>listed.getD i false) j&&!dW tk i j) S 0:=gU fun j sj hj=>by
       refine ⟨I,fun hl=>?_⟩;rw [ZE] at hl;have hl:listed.getD j false=true:=by
        unfold pk at hl;simp only [Zm] at hl;exact hl.1.1
       have iQ:j<m:=by have:=(Zl.1 hj).1;omega
       obtain ⟨oj,CA⟩:∃ oj,l[j]? = some oj:=⟨l[j]'(by omega),Zc (by omega)⟩;obtain ⟨_,s2,_,hs2,_,wj⟩:=fI j oj (Zi _) (eo j oj iQ CA);rw [hj] at hs2;cases hs2;exact wj.xR _ _ (oW j hl x)
      rw [e1,<- Zh] at mr;have mq:∀ k,(listed.setIfInBounds i true).getD k false=(listed.getD k false||Nat.beq k i):=fun k=>by
       by_cases KM:k=i
       ·subst KM;rw [show Nat.beq k k=true by simp,Bool.or_true];exact (cH iY).2 (.inl I)
       ·rw [show Nat.beq k i=false from Zau.2 fun h=>KM (Z3 h),Bool.or_false]
        simp [ZF,ZK (Ne.symm KM)]
      refine mr.perm ((rk (k:=i) qJ ?_ ?_ ?_).append_right _)
      ·rw [ZE];unfold pk;dsimp only;rw [Sc];rfl
      ·rw [ZE];unfold pk;dsimp only;rw [mq,show Nat.beq i i=true by simp,Bool.or_true,Zav];by_cases Ml:tk i=0
       ·rw [Ml];rfl
       ·have RS:0<tk i:=Nat.pos_of_ne_zero Ml;have rS:listed.getD (tk i) false=false:=by
         cases hh:listed.getD (tk i) false with
         | false=>rfl
         | true =>
          exfalso;have Vq:Ls listed (tk i):=hh;have To:tk i<m:=ZS fun hm=>hI.hi _ hm Vq
          obtain ⟨ot,UJ⟩:∃ ot,l[tk i]? = some ot:=⟨l[tk i]'(by omega),Zc (by omega)⟩;obtain ⟨_,_,_,_,_,R9⟩:=fI (tk i) ot (Zi _) (eo _ ot To UJ);obtain ⟨e,he,hb,nG⟩:=cR (R9.waits i rfl RS);have:=hI.dc (tk i) ot UJ Vq e he hb;rw [nG] at this;exact hn this
        have hne:Nat.beq (tk i) i=false:=by
         cases hh:Nat.beq (tk i) i with
         | false=>rfl
         | true =>
          exfalso;have e:tk i=i:=by simpa using hh
          have:=Us i (by unfold dW;rw [hh,Bool.and_true];rw [e] at RS;simpa [Z1] using RS);omega
        rw [mq,rS,hne];simp
      ·intro j hj;rw [ZE] at hj;unfold pk;dsimp only;rw [mq,mq,show Nat.beq j i=false from Zau.2 fun h=>hj (Z3 h),Bool.or_false]
       unfold dW;cases h1:Nat.beq (tk j) i with
       | false=>simp
       | true =>
        have e:tk j=i:=by simpa using h1
        rw [e,Sc];cases Nat.blt 0 i <;> simp
     ·intro j oj e sj hj he jY hL;rw [cH iY] at hL;by_cases nP:j=i
      ·subst nP;rw [ho] at hj;cases hj;rw [qJ] at jY;cases jY;rw [he];simp [Act.put,hI.size,fF e he]
      ·have Bv:=hL.resolve_left nP;have iQ:j<m:=ZS fun hm=>hI.hi j hm Bv
       obtain ⟨_,s2,_,hs2,_,wj⟩:=fI j oj (Zi _) (eo j oj iQ hj);rw [jY] at hs2;cases hs2;have e0:(a.put o.dst (s.F (uE β i x))).tmps[e]? = a.tmps[e]?:=by
        cases hd:o.dst with
        | none=>rfl
        | some d=>simp only [Act.put,ZK (qn j oj e hj iQ nP he d hd)]
       rw [e0,<- wj.xQ _ _ (oW j Bv x)];exact fZ j oj e sj hj he jY Bv
    unfold wpOpIn;rw [show l.toArray[i]? = some o from by simpa using ho];simp only [];rw [iq js] at hq;split
    ·rename_i hw;rw [if_pos hw] at hq;refine ⟨eb _ _ _ _ _,?_⟩;rw [Oper.semAt_eq _ _ _ (fun cc he=>by simp [mo,he] at Dh),<- hex]
     unfold zx at hq
     revert hq
     generalize (execOp a'.eval o).run P w=res;intro hq
     match res,hq with
     | .ok (.value v) w',hq=>exact ia v w' hq
     | .ok .skip w',⟨_,hq⟩=>exact ia undef w' hq
     | .ok (.enter f args) w', ⟨e, cG⟩ =>
      subst e;refine ⟨by simp [FR,Fence.wide],(iC cG).mono fun e vf h=>?_⟩;obtain ⟨v,rfl,hq⟩:=h;exact ia v vf hq
    ·rename_i hw;rw [if_neg hw] at hq;exact ⟨fun _ _=>trivial,ia undef w hq⟩
   refine ⟨fun hr=>?_,fun i hi=>?_⟩
   ·obtain ⟨i,hi⟩:=jq hI.sz hc.ac ⟨i0,by omega,qH⟩;rw [hr] at hi;cases hi
   ·have oV:i<m:=ZS fun hm=>qH (Cg hc hI.sz hI.dc hi hm i0 uX)
    exact main i hi oV
def im (tk:Nat->Nat) (P:Program) (c:Cx) (D:List Nat) (hs:List bh) (l:List Oper) (Q:Exit->Act->World->Prop) (m i n:Nat) (rest:List Oper) (SL:(Nat->Value)->aD) (S:List cj):Prop:=
 ∃ S' kJ,xj P c hs l tk i (rest.take n) SL S S' kJ/\∀ β,Tr c D (kJ β) (dM β (pk tk (fun i=>Nat.blt i m)) S' 0++hs) (Left P l.toArray Q (l.length-m) (kK l.length m))
theorem HY {id:Nat} (m:Nat) (tk:Nat->Nat) [qd:Qm P] (fB:DU l m=true) (k:im tk P c D hs l Q m 0 m l (fun _=>sl) []):Tr c D sl hs (WP P none (.region id l.toArray true) Q):=fun a w bj=>by
 obtain ⟨S,kJ,hp,ht⟩:=k;have h:(Code.region id l.toArray true).wpIn (FR none) 0 P (NP Q) a w:=wpIn_region_any qd.eq (by
  refine Q7 (tk:=tk) (Cd fB) (fun c a w h=>h.elim) hp bj.dh bj.size (fun β a w bj=>ht β a w bj) l.toArray.size _ _ _ ⟨by simp,?_,?_,bj.defers,bj.size,fun t _=>rfl,?_,fun _=>undef,?_,?_⟩
  ·exact fun k o _ hL=>absurd hL (fb _ _)
  ·exact fun k _ hL=>fb _ _ hL
  ·exact ⟨List.range l.length,Zbu,fun i=>⟨fun h=>⟨by simpa using h,fb _ _⟩,fun h=>by simpa using h.1⟩,by simp⟩
  ·have e:∀ (T:List cj) (i:Nat),dM (fun _=>undef) (pk tk (fun i=>(Array.replicate l.toArray.size false).getD i false)) T i=[]:=by
    intro T
    induction T with
    | nil=>intro i;rfl
    | cons s T ih =>
     intro i;have:=fb l.toArray.size i;unfold Ls at this;unfold dM;rw [if_neg (by unfold pk;simp only [Zm];exact fun h=>this h.1),ih];rfl
   rw [e];exact bj.mem.drew
  ·exact fun j o d s _ _ _ hL=>absurd hL (fb _ _))
 exact wpIn_mono h fun e a' w' h=>by
  cases e with
  | panic c=>exact h.elim
  | _=>exact h
end
section
variable {P:Program} {c:Cx} {D:List Nat} {sl:aD} {hs hs':List bh} {X:Act->World->Prop} {Q:Exit->Act->World->Prop} {l:List Oper} {m i n d:Nat} {lJ:List (Nat×Nat)} {op:Op} {ty:TypeId} {pos:String} {af:Array Edge} {rest:List Oper} {SL:(Nat->Value)->aD} {S:List cj}
theorem S3 (k:∀ β,Tr c D (SL β) (dM β (pk (gD lJ) (fun i=>Nat.blt i m)) S 0++hs) (Left P l.toArray Q (l.length-m) (kK l.length m))):im (gD lJ) P c D hs l Q m i 0 rest SL S:=
 ⟨S,SL,.nil,k⟩
theorem O8 (R:(Nat->Value)->List bh) (hR:∀ β,dM β (pk (gD lJ) (fun i=>Nat.blt i m)) S 0=R β) (k:∀ β,Tr c D (SL β) (R β++hs) (Left P l.toArray Q (l.length-m) (kK l.length m))):im (gD lJ) P c D hs l Q m i 0 rest SL S:=
 S3 fun β=>by rw [hR β];exact k β
theorem Gc {o:Oper} {s:cj} (hd:o.dst=some d) (fF:Nat.blt d c.nt=true) (h:LY P c hs l (gD lJ) i o SL S s) (k:im (gD lJ) P c D hs l Q m (i+1) n rest (fun β=>(d,s.F β)::SL β) (S++[s])):im (gD lJ) P c D hs l Q m i (n+1) (o::rest) SL S:=by
 obtain ⟨S',kJ,hp,ht⟩:=k;have e:S6 o.dst s.F SL=fun β=>(d,s.F β)::SL β:=by rw [hd];rfl
 exact ⟨S',kJ,.step (fun e h=>by rw [hd] at h;cases h;simpa [Z1] using fF) h (by rw [e];exact hp),ht⟩
theorem ez {F:(Nat->Value)->Value} (hr:∀ β,cM P c (SL β) hs ⟨some d,op,ty,pos,af,none⟩ (F β)) (hi:lI l i F) (hd:Nat.blt d c.nt=true) (hn:(lJ.all fun p=>!Nat.beq p.2 i)=true) (k:im (gD lJ) P c D hs l Q m (i+1) n rest (fun β=>(d,F β)::SL β) (S++[⟨F,fun _=>[]⟩])) :
  im (gD lJ) P c D hs l Q m i (n+1) (⟨some d,op,ty,pos,af,none⟩::rest) SL S:=
 Gc (s:=⟨F,fun _=>[]⟩) I hd ⟨hi,fun _ _ _=>rfl,⟨[],by simp,fun β a w oZ h1 h2 _=>by
  rw [if_pos (by simp [Region.wanted])];refine .of ?_;unfold od;rw [(hr β).2 a w h1 h2.mem];exact ⟨β i,by rw [mD],.refl _ _,[],Zah,I,by simp⟩⟩,fun j hj hp=>(pE hn hj hp).elim⟩ k
theorem Bd {V:Nat->Value} {ob:Obj} (hr:∀ β,pt P c (SL β) hs ⟨some d,op,ty,pos,af,none⟩ V ob) (hd:Nat.blt d c.nt=true)
  (hn:(lJ.all fun p=>!Nat.beq p.2 i)=true) (k:im (gD lJ) P c D hs l Q m (i+1) n rest (fun β=>(d,V (ep (β i)))::SL β) (S++[⟨fun β=>V (ep (β i)),fun β=>[bA (ep (β i)) ob]⟩])) :
  im (gD lJ) P c D hs l Q m i (n+1) (⟨some d,op,ty,pos,af,none⟩::rest) SL S:=
 Gc (s:=⟨fun β=>V (ep (β i)),fun β=>[bA (ep (β i)) ob]⟩) I hd ⟨fun β β' h=>by simp only [h i (gS l i)],fun β β' h=>by simp only [h i (gS l i)],⟨[],by simp,fun β a w oZ h1 h2 _=>by
  rw [if_pos (by simp [Region.wanted])];refine .of ?_;unfold od;rw [(hr β).2 a w h1 h2.mem];exact ⟨.q (w.heap.size:Int),by simp only [ji,kZ],.alloc _ _ _,[w.heap.size],by simp,⟨[w.heap.size],[],I,⟨by simp only [ji,kZ],by simp only [ji,kZ];exact World.alloc_heap_new w ob⟩,I⟩,by simp⟩⟩,fun j hj hp=>(pE hn hj hp).elim⟩ k
theorem C3 {t:TypeId} {agg:Bool} {sz:Nat} [Ty P t agg sz] {x y:Operand} {jx:Nat} {Vx:(Nat->Value)->Value} {cs vs:List Value} {E:TypeId} {v:Value}
  (hS:S[jx]? = some ⟨Vx,fun β=>[bA (ep (β jx)) (.cells cs.toArray E (0,0))]⟩) (htk:∀ k,gD lJ k=i->k=jx) (hti:gD lJ jx=i) (h0:Nat.blt 0 i=true) (hwx:dR ⟨none,.store t x y,ty,pos,af,none⟩ jx=true)
  (hx:∀ β,Is (SL β) x (.pointer (some ⟨ep (β jx),0,none⟩))) (hy:∀ β,Is (SL β) y v) (hv:v.cells=vs.toArray) (hl:vs.length=sz) (hcs:cs.length=sz) (he:setCells cs 0 vs=vs) (ha:uz l i jx=true) (h1:∀ u∈vs,u.oneCell'=true)
  (k:im (gD lJ) P c D hs l Q m (i+1) n rest SL (S++[⟨fun _=>undef,fun β=>[bA (ep (β jx)) (.cells vs.toArray E (0,0))]⟩])) :
  im (gD lJ) P c D hs l Q m i (n+1) (⟨none,.store t x y,ty,pos,af,none⟩::rest) SL S:=by
 obtain ⟨S',kJ,hp,ht⟩:=k;refine ⟨S',kJ,.step (s:=⟨fun _=>undef,fun β=>[bA (ep (β jx)) (.cells vs.toArray E (0,0))]⟩) (fun e h=>by cases h) ⟨fun _ _ _=>rfl,fun β β' h=>?_,⟨[],by simp,fun β a w oZ ss ye gY=>?_⟩,fun j hj _=>by rw [htk j hj];exact hwx⟩ hp,ht⟩
 ·dsimp only;rw [h jx ha]
 rw [if_pos (by simp [Region.wanted])];rw [vD (i:=0) hS fun k=>by
  rw [ZE];unfold dW;rw [h0,Zav];by_cases e:k=jx
  ·subst e;rw [hti];simp
  ·rw [show Nat.beq k jx=false from Zau.2 fun h=>e (Z3 h)]
   exact Zau.2 fun h=>e (htk k (Z3 h))] at gY
 obtain ⟨f1,f2,rfl,⟨rW,tX⟩,Ms⟩:=gY;obtain rfl:f2=[]:=Ms;obtain ⟨w',h3,h4,h5⟩:=tH (P:=P) (t:=t) (o:=0) tX hv hl h1 (by omega);rw [he] at h5;have hex:(execOp a.eval ⟨none,.store t x y,ty,pos,af,none⟩).run P w=.ok .skip w':=by
  simp [execOp,hx β a ss,hy β a ss,Instr.storeAt,Instr.sureAddr,h3]
 unfold zx;rw [hex];refine ⟨I,β i,I,?_,[ep (β jx)],by simp,⟨[ep (β jx)],[],I,⟨?_,?_⟩,I⟩,fun b hb=>.inl ?_⟩
 ·rw [ZQ,rW];exact h4
 ·rw [mD]
 ·rw [mD];exact h5
 ·rw [ZQ,rW];exact hb
end
end Go.SL.KT
