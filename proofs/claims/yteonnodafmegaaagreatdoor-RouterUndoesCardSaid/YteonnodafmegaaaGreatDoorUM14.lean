/- Parts of the proof: LZ MA MB MC PS P6d MD ME MF PC MG MH MI P6f P6g ML MM MN MO P6h GkPoolK MJ MK MP PW MQ MR MS PV MT P6i WH NA NB P6k PF NC PO ND NE NF NG TryzBits. -/
import Derived.Test.YteonnodafmegaaaGreatDoorUM13
import Derived.Test.YteonnodafmegaaaGreatDoorUM04
import Derived.Test.YteonnodafmegaaaGreatDoorUM12
import Derived.Test.YteonnodafmegaaaGreatDoorUM06
import Derived.Test.YteonnodafmegaaaGreatDoorUM09
import Derived.Test.YteonnodafmegaaaGreatDoorUM03
import Derived.Test.YteonnodafmegaaaGreatDoorUM10
import Derived.Test.YteonnodafmegaaaGreatDoorUM08
import Derived.Test.YteonnodafmegaaaGreatDoorUM11
import Derived.Shelf.Bits.Mul64
import Derived.Ground.NamesProg
import Derived.Ground.Names2Prog
import Derived.Test.YteonnodafmegaaaGreatDoorProg
set_option linter.unusedSectionVars false
set_option linter.unusedVariables false
set_option linter.unusedSimpArgs false
namespace Go.Proofs.A1
open Go Go.SL
open Tryz
open Tryz renaming prog->T_
variable {d:Value} {k:Nat} {l:List Int} {p:Value} {q:Int->Ti->Bool} {r:Ro} {s t:Value} {w:World}
theorem RK {c:Cx} {hs hs':List bd} (hm:Mem c hs w) {g gc:Nat} {L:List ByteArray} {cur:List Value} {E:TypeId} {fz:Nat×Nat} (ht:Take hs (bo g (.cells (aJ L++cur).toArray E fz)) hs') (hc:L.length<=gc) (hx:gc<=maxLen):Rd w (.w g L.length gc) 1 (fX L):=by
 refine ⟨_,gc,g,0,by rw [bX],by rw [bX];exact hc,hx,fun _=>rfl,fun i r hr=>?_⟩;have hi:=(Zm.1 hr).1;rw [bX] at hi;rw [jf hi] at hr;obtain rfl:=Option.some.inj hr;refine ⟨I,fun j u hu=>?_⟩;cases j with
 | zero =>
  simp only [Zav,Option.some.injEq] at hu;subst hu;rw [cell_of_block (hm.bo ht)];simp [aJ,ZD,hi]
 | succ j=>simp at hu
theorem J5 {c:Cx} {hs hs':List bd} (hm:Mem c hs w) {g gc:Nat} {L:List ByteArray} {cur:List Value} {E:TypeId} {fz:Nat×Nat} (ht:Take hs (bo g (.cells (aJ L++cur).toArray E fz)) hs') (hc:L.length<=gc) (hx:gc<=maxLen) {k:Nat} (hk:k<=L.length):Rd w (Go.sliced (some ⟨g,0,none⟩) 0 (k:Int).toNat gc 1) 1 (fX (L.take k)):=by
 have:=(RK hm ht hc hx).sliced (l:=0) (m:=k) (Zi _) hk;rw [ZF];rwa [List.drop_zero,show (fX L).take k=fX (L.take k) by unfold fX;rw [ZaH]] at this
theorem Md (m:Int) {w w1:World} (h:RR w1 r s d t p):aj T_ 162 [RA r s d t p,.q m] w (.q (fj r m)):=by
 obtain ⟨h1,h2,h3,h4⟩:=h.one;unfold RA;refine ah func162 I I ?_
 (refine Jr<|Jy I I fun _ _=>Ja I<|Ji<|Jv I<|JA I<|Jv I<|iT I I I I<|aF I I (fun hg bT=>(az (.of I) ae)) I<|aF I I (fun hg bT=>(ag (.cD hg I) (At.lit .here I))) I<|aF I I (fun hg bT=>(Ab (.cD hg I) (.cD hg I))) I<|ab (bC (.of I) I) I<|ai ba I (fun w' aA=>(lg _ 10 w'))<|Ja I<|Jn<|Je<|JT ?_)
 rfl
theorem Dm (k:Nat) {w:World} (h:RR w r s d t p) (hf:mE r) (hk:k<(bW r).length):aj T_ 229 [RA r s d t p,.q (k:Nat)] w (.q (Ah r k)):=by
 obtain ⟨h1,h2,h3,h4⟩:=h.one;have DJ:∀ w',aK [] w w'->bb T_ 77 [.agg #[.int .i64 r.lv,.int .i64 r.ma,s,d,t,p]] w' [] (fun _:Value=>True) id (fun x=>[row 9 1 x (bW r).length (aJ (bW r))]):=fun w' hk=>Az (h.keeps hk) hf
 rw [N3 hk];have CX:(bW r).length<=3000000:=by
  obtain ⟨f1,f2,f3,f4⟩:=hf;unfold bW cG bU cN;simp only [Zg,Zd];omega
 generalize bW r=L at DJ hk CX ⊢;have hkk:k<=L.length:=by omega
 unfold RA;refine ah func229 I I ?_;refine Jr<|Jy I I fun _ _=>Ja I<|Ji<|ab (cK .here) I ?_;refine JN bz I (fun w1 aG=>DJ w1 aG.keeps) ?_;intro x _;dsimp only [id_eq,Zb,Za];refine cQ (E:=9) (sz:=1) (v:=x) (by exact .here) (by omega) ?_;rintro g gc cur e dp sU _ _;subst e;have iF:(aJ L++cur)[k*1]? = some (.string L[k]):=rm L cur hk;refine Ja I<|Jn<|Jq ?_
 with_reducible refine cW 15 (by kernel_rfl) ?_
 (refine ao lX I ?_;refine ao lX I ?_;refine ao (au (.of I) (.of I) I (by omega) (by omega) bn) I ?_;refine ao (ag (.of I) (At.mW .here iF)) I ?_;refine a8 bz I (fun w' aA=>(X7 _ w')) ?_;refine ao lX I ?_;refine ao lX I ?_;refine ao (gF (.of I) (.of I) (by omega) (by omega)) I ?_;refine ao lX I ?_;refine ao lX I ?_;refine ao (au (.of I) (.of I) I (by omega) (by omega) bn) I ?_;refine ao (ag (.of I) (At.mW .here iF)) I ?_;refine a8 ba I (fun w' aA=>(Lv _ (J5 aA .here dp sU hkk))) ?_;refine a8 ba I (fun w' aA=>(lg _ 9 w')) ?_;refine eC (aC (.o I (.o I .nil)) I I I I) I I ?_)
 with_reducible refine dw I fun bq nf=>?_
 (refine ai bz I (fun w' aA=>(lA (Mem.dh aA .here I I) (cm.cons (cm.cons cm.nil))))<|Ja I<|Jn<|Je<|JT ?_)
 rfl
set_option maxHeartbeats 1000000 in
theorem A9 (h:RR w r s d t p) (hf:mE r):aj T_ 127 [RA r s d t p] w (.q (jC r)):=by
 obtain ⟨h1,h2,h3,h4⟩:=h.one;have SF:∀ k,k<(bW r).length->∀ w',aK [] w w'->aj T_ 229 [.agg #[.int .i64 r.lv,.int .i64 r.ma,s,d,t,p],.int .i64 (k:Nat)] w' (.int .i64 (Ah r k)):=fun k hk w' hkk=>Dm k (h.keeps hkk) hf hk
 have dD:∀ (m:Int) {w'},aK [] w w'->aj T_ 162 [.agg #[.q r.lv,.q r.ma,s,d,t,p],.q m] w' (.q (fj r m)):=fun m _ hk=>Md m (h.keeps hk)
 have eR:=Mw r;have Hy:=h.sr;have HH:=h.de;have CR:=h.ti;obtain ⟨a1,eJ,QS,P7,rfl,qp,jc,mG,kc⟩:=Hy;obtain ⟨a2,dB,QR,P6,rfl,ki,fB,jT,jS⟩:=HH;obtain ⟨a3,ep,Mk,Ko,rfl,nR,gP,uh,qI⟩:=CR;rw [cR] at *;rw [cB] at *;rw [cr] at *;unfold maxLen at jc fB gP;obtain ⟨f1,f2,f3,f4⟩:=hf;unfold RA;refine ah func127 I I ?_
 (refine Jr<|Jy I I fun _ _=>Ja I<|Ji<|Ja I<|Jn<|Jq<|Jr<|bP I I ae<|JL I .here I<|JI I<|JE I<|Jn<|gB I (fun ar=>?_) fun ar=>?_;refine Jr<|Ja I<|Jn<|Ju<|JT ?_;rotate_left;refine Jk<|Jq<|Jr<|Ja I<|Jn<|J0 ?_;rotate_right)
 ·skip
  have e:eY 8 [] Sr.nm (fun x=>fj r x.mx) r.sr=5:=by unfold eY;rw [if_pos (show (8:Int)<(r.sr.length:Int) by omega)]
  rw [X1 (by rw [e];decide),e]
 rename_i b1 tN;refine a7 (ι:=Nat) (fun x=>x<=r.sr.length/\∀ i,i<x->xF [] Sr.nm (fun x=>fj r x.mx) r.sr i=0) (fun x=>[(4,.q (x:Nat)),(3,.q ((x:Nat):Int)),(1,.p b1)]) (fun x=>[JQ b1 r (.slice a1 r.sr.length eJ) (.slice a2 r.de.length dB) (.slice a3 r.ti.length ep) p]) (fun x=>r.sr.length-x) ?_ ?_
 ·apply aI (0:Nat) ⟨Zi _,fun i h=>absurd h (ZR _)⟩
  case hs1=>exact cu
  case ht=>(try simp only [Ze,Zf,Za]);exact .h1 .nil
 rintro k ⟨hk,hz⟩;by_cases aN:k<r.sr.length
 ·have cP:=mG (iK aN);obtain ⟨ia,aB⟩:=kc k _ (fY aN);unfold Sr.cells at aB;have cc0:=aB 0 _ I;have XL:=aB 1 _ I;have SG:=SF (k) (by omega);have hq:=UK (r:=r) aN
  (refine Jq<|Jr<|Jv I<|bP I I ae<|JL I .here I<|JI I<|JA I<|Jn<|Jd I fun ar=>Jk<|Jq<|J0<|Jq<|Jq ?_)
  with_reducible refine cW 12 (by kernel_rfl) ?_
  (refine ao (cK .here) I<|ao lX I<|a8 ba I (fun w' aA=>(SG w' (Mem.keeps aA)))<|ao (cK .here) I<|ao lf I<|ao (ie .here) I<|ao lX I<|ao (fZ cP ar) I<|ao lf I<|ao (ag (.of I) (At.base XL I)) I<|a8 ba I (fun w' aA=>(dD _ (Mem.keeps aA)))<|eC (aC (.o I (.o I .nil)) I I I I) I I ?_)
  with_reducible refine dw I fun bq nf=>?_
  (refine ai bz I (fun w' aA=>(lA (Mem.dh aA .here I I) (cm.cons (cm.cons cm.nil))))<|Ja I<|Ji<|Jv I<|JD I<|Jn<|gB I (fun ar=>?_) fun ar=>?_;refine Jr<|Jv I<|Ja I<|Jn<|Ju<|Jm<|Jh<|Jh<|Jm<|Jh<|JT ?_;rotate_left;refine Jk<|Jg<|Jv I<|JB I (by omega)<|Ja I<|Jx<|Jj<|Jt<|Jg<|Jv I<|JB I (by omega)<|Ja I<|Jn ?_;rotate_right)
  ·rw [hq] at ar ⊢;have hb:eY 8 [] Sr.nm (fun x=>fj r x.mx) r.sr=xF [] Sr.nm (fun x=>fj r x.mx) r.sr k:=by unfold eY;rw [if_neg (by omega)];exact fg hz aN ar
   rw [X1 (by rw [hb];exact ar),hb]
  have KZ:xF [] Sr.nm (fun x=>fj r x.mx) r.sr k=0:=by rw [<- hq];exact Zq.1 ar
  apply aL (k+1) ⟨(show k+1<=r.sr.length from aN),fun i hi=>by
   by_cases e:i=k
   ·rw [e];exact KZ
   ·exact hz i (by omega)⟩ (show r.sr.length-(k+1)<r.sr.length-k by omega)
  case hs1=>exact cu
  case ht=>(try simp only [Ze,Zf,Za]);exact .cons (.there .here) .nil
 obtain rfl:k=r.sr.length:=by omega
 have z1:eY 8 [] Sr.nm (fun x=>fj r x.mx) r.sr=0:=by unfold eY;rw [if_neg (by omega)];exact dV.2 hz
 clear hk aN hz
 (refine Jq<|Jr<|Jv I<|bP I I ae<|JL I .here I<|JI I<|JA I<|Jn<|Jc I fun ar=>Jp<|Jl<|Jo<|Jt<|Jq<|Jr<|bP I I ae<|JL I .here I<|JI I<|JE I<|Jn<|gB I (fun ar=>?_) fun ar=>?_;refine Jr<|Ja I<|Jn<|Ju<|JT ?_;rotate_left;refine Jk<|Jq<|Jr<|Ja I<|Jn<|J0 ?_;rotate_right)
 ·have e:eY 8 (cG r) De.nm (fun x=>fj r x.mx) r.de=5:=by unfold eY;rw [if_pos (show (8:Int)<(r.de.length:Int) by omega)]
  rw [X0 z1 (by rw [e];decide),e]
 refine a7 (ι:=Nat) (fun x=>x<=r.de.length/\∀ i,i<x->xF (cG r) De.nm (fun x=>fj r x.mx) r.de i=0) (fun x=>[(6,.q (x:Nat)),(3,.q ((r.sr.length+x:Nat):Int)),(1,.p b1)]) (fun x=>[JQ b1 r (.slice a1 r.sr.length eJ) (.slice a2 r.de.length dB) (.slice a3 r.ti.length ep) p]) (fun x=>r.de.length-x) ?_ ?_
 ·apply aI (0:Nat) ⟨Zi _,fun i h=>absurd h (ZR _)⟩
  case hs1=>exact cu
  case ht=>(try simp only [Ze,Zf,Za]);exact .h1 .nil
 rintro k ⟨hk,hz⟩;by_cases aN:k<r.de.length
 ·have cP:=jT (gI aN);obtain ⟨ia,aB⟩:=jS k _ (fm aN);unfold De.cells at aB;have cc0:=aB 0 _ I;have XL:=aB 1 _ I;have SG:=SF (r.sr.length+k) (by omega);have hq:=UL (r:=r) aN
  (refine Jq<|Jr<|Jv I<|bP I I ae<|JL I .here I<|JI I<|JA I<|Jn<|Jd I fun ar=>Jk<|Jq<|J0<|Jq<|Jq ?_)
  with_reducible refine cW 12 (by kernel_rfl) ?_
  (refine ao (cK .here) I<|ao lX I<|a8 ba I (fun w' aA=>(SG w' (Mem.keeps aA)))<|ao (cK .here) I<|ao lf I<|ao (ie .here) I<|ao lX I<|ao (fZ cP ar) I<|ao lf I<|ao (ag (.of I) (At.base XL I)) I<|a8 ba I (fun w' aA=>(dD _ (Mem.keeps aA)))<|eC (aC (.o I (.o I .nil)) I I I I) I I ?_)
  with_reducible refine dw I fun bq nf=>?_
  (refine ai bz I (fun w' aA=>(lA (Mem.dh aA .here I I) (cm.cons (cm.cons cm.nil))))<|Ja I<|Ji<|Jv I<|JD I<|Jn<|gB I (fun ar=>?_) fun ar=>?_;refine Jr<|Jv I<|Ja I<|Jn<|Ju<|Jm<|Jh<|Jh<|Jm<|Jh<|JT ?_;rotate_left;refine Jk<|Jg<|Jv I<|JB I (by omega)<|Ja I<|Jx<|Jj<|Jt<|Jg<|Jv I<|JB I (by omega)<|Ja I<|Jn ?_;rotate_right)
  ·rw [hq] at ar ⊢;have hb:eY 8 (cG r) De.nm (fun x=>fj r x.mx) r.de=xF (cG r) De.nm (fun x=>fj r x.mx) r.de k:=by unfold eY;rw [if_neg (by omega)];exact fg hz aN ar
   rw [X0 z1 (by rw [hb];exact ar),hb]
  have KZ:xF (cG r) De.nm (fun x=>fj r x.mx) r.de k=0:=by rw [<- hq];exact Zq.1 ar
  apply aL (k+1) ⟨(show k+1<=r.de.length from aN),fun i hi=>by
   by_cases e:i=k
   ·rw [e];exact KZ
   ·exact hz i (by omega)⟩ (show r.de.length-(k+1)<r.de.length-k by omega)
  case hs1=>exact cu
  case ht=>(try simp only [Ze,Zf,Za]);exact .cons (.there .here) .nil
 obtain rfl:k=r.de.length:=by omega
 have z2:eY 8 (cG r) De.nm (fun x=>fj r x.mx) r.de=0:=by unfold eY;rw [if_neg (by omega)];exact dV.2 hz
 clear hk aN hz
 (refine Jq<|Jr<|Jv I<|bP I I ae<|JL I .here I<|JI I<|JA I<|Jn<|Jc I fun ar=>Jp<|Jl<|Jo<|Jt<|Jq<|Jr<|bP I I ae<|JL I .here I<|JI I<|JE I<|Jn<|gB I (fun ar=>?_) fun ar=>?_;refine Jr<|Ja I<|Jn<|Ju<|JT ?_;rotate_left;refine Jk<|Jq<|Jr<|Ja I<|Jn<|J0 ?_;rotate_right)
 ·have e:eY 6 (cG r++bU r) Ti.nm (nk r) r.ti=5:=by unfold eY;rw [if_pos (show (6:Int)<(r.ti.length:Int) by omega)]
  rw [Ev z1 z2,e]
 refine a7 (ι:=Nat) (fun x=>x<=r.ti.length/\∀ i,i<x->xF (cG r++bU r) Ti.nm (nk r) r.ti i=0) (fun x=>[(8,.q (x:Nat)),(3,.q (((r.sr.length+r.de.length)+x:Nat):Int)),(1,.p b1)]) (fun x=>[JQ b1 r (.slice a1 r.sr.length eJ) (.slice a2 r.de.length dB) (.slice a3 r.ti.length ep) p]) (fun x=>r.ti.length-x) ?_ ?_
 ·apply aI (0:Nat) ⟨Zi _,fun i h=>absurd h (ZR _)⟩
  case hs1=>exact cu
  case ht=>(try simp only [Ze,Zf,Za]);exact .h1 .nil
 rintro k ⟨hk,hz⟩;by_cases aN:k<r.ti.length
 ·have cP:=uh (fF aN);obtain ⟨ia,aB⟩:=qI k _ (eO aN);unfold Ti.cells at aB;have cc0:=aB 0 _ I;have XL:=aB 1 _ I;have SG:=SF ((r.sr.length+r.de.length)+k) (by omega);have hq:=UJ (r:=r) aN
  (refine Jq<|Jr<|Jv I<|bP I I ae<|JL I .here I<|JI I<|JA I<|Jn<|Jd I fun ar=>Jk<|Jq<|J0<|Jr<|bP I I ae<|JL I .here I<|Jv I<|ab (fZ cP ar) I<|ab (iA (eV.base aB I)) I<|Jz I I fun _ _=>an (.of I) (.of I) .here I I (fq I I I) (bG I) ak<|Jn<|Jq<|Jq ?_)
  with_reducible refine cW 18 (by kernel_rfl) ?_
  (refine ao (cK (.there .here)) I<|ao lX I<|a8 ba I (fun w' aA=>(SG w' (Mem.keeps aA)))<|ao (cK (.there .here)) I<|ao lf I<|ao (ie .here) I<|a8 ba I (fun w' aA=>(dD _ (Mem.keeps aA)))<|ao (cK (.there .here)) I<|ao lf I<|ao (ie .here) I<|a8 ba I (fun w' aA=>(dD _ (Mem.keeps aA)))<|ao lf I<|ao (ie .here) I<|ao lf I<|ao (ie .here) I<|ao (mr (.of I) (.of I)) I<|a8 ba I (fun w' aA=>(lg _ 24 w'))<|eC (aC (.o I (.o I (.o I (.o I .nil)))) I I I I) I I ?_)
  with_reducible refine dw I fun bq nf=>?_
  (refine ai bz I (fun w' aA=>(lA (Mem.dh aA .here I I) (cm.cons (cm.cons (cm.cons (cm.cons cm.nil))))))<|Ja I<|Ji<|Jv I<|JD I<|Jn<|gB I (fun ar=>?_) fun ar=>?_;refine Jr<|Jv I<|Ja I<|Jn<|Ju<|Jm<|Jh<|Jh<|Jm<|Jh<|JT ?_;rotate_left;refine Jk<|Jg<|Jv I<|JB I (by omega)<|Ja I<|Jx<|Jj<|Jt<|Jg<|Jv I<|JB I (by omega)<|Ja I<|Jn ?_;rotate_right)
  ·rw [hq] at ar ⊢;have hb:eY 6 (cG r++bU r) Ti.nm (nk r) r.ti=xF (cG r++bU r) Ti.nm (nk r) r.ti k:=by unfold eY;rw [if_neg (by omega)];exact fg hz aN ar
   rw [Ev z1 z2,hb]
  have KZ:xF (cG r++bU r) Ti.nm (nk r) r.ti k=0:=by rw [<- hq];exact Zq.1 ar
  apply aL (k+1) ⟨(show k+1<=r.ti.length from aN),fun i hi=>by
   by_cases e:i=k
   ·rw [e];exact KZ
   ·exact hz i (by omega)⟩ (show r.ti.length-(k+1)<r.ti.length-k by omega)
  case hs1=>exact cu
  case ht=>(try simp only [Ze,Zf,Za]);exact .cons bF .nil
 obtain rfl:k=r.ti.length:=by omega
 have z3:eY 6 (cG r++bU r) Ti.nm (nk r) r.ti=0:=by unfold eY;rw [if_neg (by omega)];exact dV.2 hz
 clear hk aN hz
 (refine Jq<|Jr<|Jv I<|bP I I ae<|JL I .here I<|JI I<|JA I<|Jn<|Jc I fun ar=>Jp<|Jl<|Jo<|Jt<|Jr<|Ja I<|Jn<|Je<|JT ?_)
 rw [Ev z1 z2,z3]
theorem RN (h:k<r.po.length):Hg r k=if MN r r.po[k]≠0 then MN r r.po[k] else if 0<k/\(r.po[k].lv<((r.po[k-1]?).getD r.po[k]).lv\/r.po[k].lv=((r.po[k-1]?).getD r.po[k]).lv/\dI r r.po[k].ou<=dI r ((r.po[k-1]?).getD r.po[k]).ou) then 11 else 0:=by
 unfold Hg;rw [Zc h];rfl
def HT (r:Ro) (v:Int) (x:Ti):Bool:=decide ((tT r.po v 8 x.nm).length=8)
def FW (r:Ro) (v:Int) (x:Ti):Bool:=nh r.po v x.nm != !decide ((ed r.po v x.nm).getD ⟨#[]⟩=⟨#[]⟩)
theorem N5 (r:Ro):UM r=if j5 r (fun v=>r.ti.any (HT r v)) then 33 else if j5 r (fun v=>r.ti.any (FW r v)) then 32 else 0:=rfl
theorem Dw {v i:Nat} (hv:(v:Int)<r.lv) (hi:i<r.ti.length) (h:q v r.ti[i]=true):j5 r (fun v=>r.ti.any (q v))=true:=by
 unfold j5;exact ZN.2 ⟨v,ZP.2 (by omega),ZN.2 ⟨_,Zj hi,h⟩⟩
theorem zh (h:∀ v:Nat,v<r.lv.toNat->∀ (i:Nat) (hi:i<r.ti.length),q v r.ti[i]=false):j5 r (fun v=>r.ti.any (q v))=false:=by
 refine lG.2 fun v h0 h1=>Zac.2 fun x hx=>?_;obtain ⟨i,hi,rfl⟩:=Zx hx;have:=h v.toNat (by omega) i hi;rw [show ((v.toNat:Nat):Int)=v by omega] at this;rw [this];decide
set_option maxHeartbeats 2000000 in
theorem xQ (h:RR w r s d t p) (hf:mE r) (ag9:1<=r.lv/\r.lv<=3):aj T_ 128 [RA r s d t p] w (.q (Ai r)):=by
 obtain ⟨h1,h2,h3,h4⟩:=h.one;have SJ:∀ (o:ByteArray) {w'},aK [] w w'->aj T_ 230 [.agg #[.int .i64 r.lv,.int .i64 r.ma,s,d,t,p],.string o] w' (.int .i64 (dI r o)):=fun o _ hk=>Of o (h.keeps hk) hf
 have VO:∀ (o:ByteArray) {w'},aK [] w w'->aj T_ 231 [.agg #[.q r.lv,.q r.ma,s,d,t,p],.string o] w' (.q (jP r o)):=fun o _ hk=>OD o (h.keeps hk)
 have YO:∀ (o:ByteArray) {w'},aK [] w w'->aj T_ 232 [.agg #[.q r.lv,.q r.ma,s,d,t,p],.string o] w' (.q (jO r o)):=fun o _ hk=>Kl o (h.keeps hk)
 have Ym:∀ (v:Int) (o:ByteArray) {w'},aK [] w w'->aj T_ 233 [.agg #[.q r.lv,.q r.ma,s,d,t,p],.q v,.string o] w' (.bool (nh r.po v o)):=fun v o _ hk=>Rb v o (h.keeps hk)
 have O1:∀ (v:Int) (o:ByteArray) {w'},aK [] w w'->aj T_ 133 [.agg #[.q r.lv,.q r.ma,s,d,t,p],.q v,.string o] w' (.string ((ed r.po v o).getD ⟨#[]⟩)):=fun v o _ hk=>F6 v o (h.keeps hk)
 have hch:∀ (v:Int) (o:ByteArray) w',aK [] w w'->bb T_ 132 [.agg #[.q r.lv,.q r.ma,s,d,t,p],.q v,.string o,.q 8] w' [] (fun _:Option Addr×Nat=>True) (fun z=>.slice z.1 (tT r.po v 8 o).length z.2) (fun z=>[row 9 1 (.slice z.1 (tT r.po v 8 o).length z.2) (tT r.po v 8 o).length (aJ (tT r.po v 8 o))]):=fun v o w' hk=>bb.Ei (val:=id) (PD v o 8 (by decide) (h.keeps hk))
 have La:=h.po;have CR:=h.ti;obtain ⟨a4,gz,WN,RZ,rfl,yV,mR,Ig,AT⟩:=La;obtain ⟨a3,ep,Mk,Ko,rfl,nR,gP,uh,qI⟩:=CR;rw [c5] at *;rw [cr] at *;unfold maxLen at gP mR;obtain ⟨f1,f2,f3,f4⟩:=hf;unfold RA;refine ah func128 I I ?_;refine Jr<|Jy I I fun _ _=>Ja I<|Jn<|Jq<|Jr<|Ja I<|Jn<|J0 ?_;rename_i b1 tN;refine a7 (ι:=Nat) (fun x=>x<=r.po.length/\∀ i,i<x->Hg r i=0) (fun x=>[(3,.int .i64 (x:Nat)),(1,.pointer (some ⟨b1,0,none⟩))]) (fun x=>[JQ b1 r s d (.slice a3 r.ti.length ep) (.slice a4 r.po.length gz)]) (fun x=>r.po.length-x) ?_ ?_
 ·apply aI (0:Nat) ⟨Zi _,fun i h=>absurd h (ZR _)⟩
  case hs1=>exact cu
  case ht=>(try simp only [Ze,Zf,Za]);exact .h1 .nil
 rintro k ⟨hk,hz⟩;by_cases aN:k<r.po.length
 ·have cP:=Ig (ku aN);obtain ⟨ia,aB⟩:=AT k _ (iE aN);unfold Po.cells at aB;have iF:=RN (r:=r) aN;have XD:∀ e:Int,Hg r k=e->e≠0->Ai r=e:=fun e he hne=>by
   have hb:jJ (Hg r) r.po.length=e:=by rw [<- he];exact fg hz aN (by rw [he];exact hne)
   unfold Ai;rw [hb,if_pos hne]
  have lL:Hg r k=0->∀ i,i<k+1->Hg r i=0:=fun e i hi=>by
   by_cases e2:i=k
   ·rw [e2];exact e
   ·exact hz i (by omega)
  generalize hx:r.po[k]=x at aB iF
  (refine Jq<|Jr<|Jv I<|bP I I ae<|JL I .here I<|JI I<|JA I<|Jn<|Jd I fun ar=>Jk<|Jq<|J0<|Jr<|bP I I ae<|JL I .here I<|Jv I<|ab (fZ cP ar) I<|ab (iA (eV.base aB I)) I<|Jz I I fun _ _=>an (.of I) (.of I) .here I I (fq I I I) (bG I) ak<|Jn<|Jq<|Jq ?_)
  with_reducible refine cW 29 (by kernel_rfl) ?_
  (refine ao lf I<|ao (ie .here) I<|ao lf I<|ao (ie (.there .here)) I<|ao (z8 (.of I) (.of I) (TX (by omega))) I<|a8 eK I (fun w' aA=>(Ag _ 0 _ w'))<|ao (cK (.there .here)) I<|ao lf I<|ao (ie .here) I<|a8 ba I (fun w' aA=>(SJ _ (Mem.keeps aA)))<|ao (nq (.of I) (.of I)) I<|a8 ba I (fun w' aA=>(lg _ 10 w'))<|ao (cK (.there .here)) I<|ao lf I<|ao (ie .here) I<|a8 ba I (fun w' aA=>(VO _ (Mem.keeps aA)))<|ao (nq (.of I) (.of I)) I<|a8 ba I (fun w' aA=>(lg _ 10 w'))<|ao (cK (.there .here)) I<|ao lf I<|ao (ie .here) I<|a8 ba I (fun w' aA=>(YO _ (Mem.keeps aA)))<|ao (cK (.there .here)) I<|ao lf I<|ao (ie .here) I<|a8 ba I (fun w' aA=>(VO _ (Mem.keeps aA)))<|ao (gU (.of I) (.of I)) I<|a8 ba I (fun w' aA=>(lg _ 24 w'))<|eC (aC (.o I (.o I (.o I (.o I .nil)))) I I I I) I I ?_)
  with_reducible refine dw I fun bq nf=>?_
  (refine ai bz I (fun w' aA=>(lA (Mem.dh aA .here I I) (cm.cons (cm.cons (cm.cons (cm.cons cm.nil))))))<|Ja I<|Ji<|Jv I<|JD I<|Jn<|gB I (fun ar=>?_) fun ar=>?_;refine Jr<|Jv I<|Ja I<|Jn<|Ju<|Jm<|Jh<|Jh<|Jm<|Jh<|JT ?_;rotate_left;refine Jk<|Jr<|Jv I<|JE I<|Jn<|gB I (fun ar=>?_) fun ar=>?_;refine Jr<|bP I I ae<|JL I bF I<|Jv I<|JS I (by omega)<|ab (au (.of I) (.of I) cP (by omega) (by omega) bn) I ?_;rotate_left;refine Jw<|Jj<|Jt<|Jg<|Jv I<|JB I (by omega)<|Ja I<|Jn ?_;rotate_right;rotate_right)
  ·have e:=XD (MN r x) (by rw [iF,if_pos (show MN r x≠0 from ar)]) ar;rw [e];rfl
  ·rename_i b4 uQ hE;have hE:MN r x=0:=Zq.1 hE;have MW:0<k:=by omega
   have xJ:k-1<r.po.length:=by omega
   obtain ⟨abU,eZ⟩:=AT (k-1) _ (iE xJ);unfold Po.cells at eZ;rw [show RZ+(k-1)*3=RZ+((k:Int)-1).toNat*3 by rw [show ((k:Int)-1).toNat=k-1 by omega]] at eZ;rw [if_neg (not_not_intro hE),Zc xJ,Zal] at iF;generalize r.po[k-1]=y at eZ iF
   (refine ab (iA (eV.base eZ I)) I<|Jz I I fun _ _=>an (.of I) (.of I) .here I I (fq I I I) (bG I) ak<|Jn<|Jq ?_)
   with_reducible refine ef 23 (by kernel_rfl) ?_
   (refine pt I I ae<|aO (ie bF) I<|pt I I ae<|aO (ie .here) I<|aO (nq (.of I) (.of I)) I<|lH I I<|dJ I I (fun hg bT=>(az (.of I) ae)) I<|dJ I I (fun hg bT=>(ag (.cD hg I) (At.lit bF I))) I<|dJ I I (fun hg bT=>(az (.of I) ae)) I<|dJ I I (fun hg bT=>(ag (.cD hg I) (At.lit .here I))) I<|dJ I I (fun hg bT=>(mr (.cD hg I) (.cD hg I))) I<|dJ I I (fun hg bT=>(aX (.cD hg I))) I<|qV I I (fun hg bT=>(bV (.of I) cA ak (by rfl))) I<|qV I I (fun hg bT=>(az (.of I) ae)) I<|qV I I (fun hg bT=>(ag (.cD hg I) (At.lit bF I))) I<|tl I I (fun hg=>(aZ (.of I) (.cons (.cD hg I) (.cons (.cD hg I) .nil)) inferInstance eQ)) I (fun hg w' aA=>(SJ _ (Mem.keeps aA)))<|qV I I (fun hg bT=>(bV (.of I) cA ak (by rfl))) I<|qV I I (fun hg bT=>(az (.of I) ae)) I<|qV I I (fun hg bT=>(ag (.cD hg I) (At.lit .here I))) I<|tl I I (fun hg=>(aZ (.of I) (.cons (.cD hg I) (.cons (.cD hg I) .nil)) inferInstance eQ)) I (fun hg w' aA=>(SJ _ (Mem.keeps aA)))<|qV I I (fun hg bT=>(mq (.cD hg I) (.cD hg I))) I<|dJ I I (fun hg bT=>(kK hg (.cD hg I) I)) I<|aO (bC (.of I) I) I ?_)
   with_reducible refine er ?_
   (refine Jn<|qv I (fun ar=>?_) fun ar=>?_;refine Jr<|Ja I<|Jn<|Je<|Jm<|Jh<|Jh<|Jm<|Jh<|JT ?_;rotate_left;refine Jw<|Jj<|Jt<|Jg<|Jv I<|JB I (by omega)<|Ja I<|Jn ?_;rotate_right)
   ·have hE2:0<k/\(x.lv<y.lv\/x.lv=y.lv/\dI r x.ou<=dI r y.ou):=⟨MW,ar⟩;have e:=XD 11 (by rw [iF,if_pos hE2]) (by decide);rw [e]
   ·apply aL (k+1) ⟨(show k+1<=r.po.length from aN),lL (by rw [iF,if_neg (fun q=>q.2.elim ar.1 fun z=>ar.2.elim (fun z2=>z2 z.1) fun z2=>z2 z.2)])⟩ (show r.po.length-(k+1)<r.po.length-k by omega)
    case hs1=>exact cu
    case ht=>(try simp only [Ze,Zf,Za]);exact .cons cA .nil
  ·rename_i b4 uQ hE;have hE:MN r x=0:=Zq.1 hE;apply aL (k+1) ⟨(show k+1<=r.po.length from aN),lL (by rw [iF,if_neg (not_not_intro hE),if_neg (fun q=>ar (by omega))])⟩ (show r.po.length-(k+1)<r.po.length-k by omega)
   case hs1=>exact cu
   case ht=>(try simp only [Ze,Zf,Za]);exact .cons bF .nil
 obtain rfl:k=r.po.length:=by omega
 have Xh:jJ (Hg r) r.po.length=0:=dV.2 hz;have hqs:Ai r=UM r:=by unfold Ai;rw [Xh];rfl
 rw [hqs,N5];clear hk aN hz
 (refine Jq<|Jr<|Jv I<|bP I I ae<|JL I .here I<|JI I<|JA I<|Jn<|Jc I fun ar=>Jp<|Jl<|Jo<|Jt<|Jq<|Jr<|Ja I<|Jn<|J0 ?_)
 refine a7 (ι:=Nat) (fun v=>v<=r.lv.toNat/\∀ u,u<v->∀ (i:Nat) (hi:i<r.ti.length),HT r (u:Nat) r.ti[i]=false) (fun v=>[(7,.q (v:Nat)),(1,.p b1)]) (fun _=>[JQ b1 r s d (.slice a3 r.ti.length ep) (.slice a4 r.po.length gz)]) (fun v=>r.lv.toNat-v) ?_ ?_
 ·apply aI (0:Nat) ⟨Zi _,fun i h=>absurd h (ZR _)⟩
  case hs1=>exact cu
  case ht=>(try simp only [Ze,Zf,Za]);exact .h1 .nil
 rintro v ⟨hv,hz⟩;by_cases xH:v<r.lv.toNat
 ·have MT:((v:Nat):Int)<r.lv:=by omega
  (refine Jq<|Jr<|Jv I<|bP I I ae<|JL I .here I<|JA I<|Jn<|Jd I fun ar=>Jk<|Jq<|J0<|Jr<|Ja I<|Jn<|J0 ?_)
  refine a7 (ι:=Nat) (fun i=>i<=r.ti.length/\∀ (j:Nat) (hj:j<r.ti.length),j<i->HT r (v:Nat) r.ti[j]=false) (fun i=>[(8,.q (i:Nat)),(7,.q (v:Nat)),(1,.p b1)]) (fun _=>[JQ b1 r s d (.slice a3 r.ti.length ep) (.slice a4 r.po.length gz)]) (fun i=>r.ti.length-i) ?_ ?_
  ·apply aI (0:Nat) ⟨Zi _,fun j _ h=>absurd h (ZR _)⟩
   case hs1=>exact cu
   case ht=>(try simp only [Ze,Zf,Za]);exact .h1 .nil
  rintro i ⟨hi,hy⟩;by_cases ju:i<r.ti.length
  ·have cP:=uh (fF ju);have c0:w.cell? ⟨Mk,Ko+i*3,none⟩=some (.string r.ti[i].nm):=(qI i _ (eO ju)).2 0 _ I;have T0:∀ b,HT r (v:Nat) r.ti[i]=b->HT r (v:Nat) r.ti[i]=b:=fun _ h=>h
   unfold HT at T0;have lL:HT r (v:Nat) r.ti[i]=false->∀ (j:Nat) (hj:j<r.ti.length),j<i+1->HT r (v:Nat) r.ti[j]=false:=fun e j hj sV=>by
    by_cases e2:j=i
    ·subst e2;exact e
    ·exact hy j hj (by omega)
   have SS:HT r (v:Nat) r.ti[i]=true->j5 r (fun v=>r.ti.any (HT r v))=true:=Dw MT ju
   generalize Yj:r.ti[i].nm=x at c0
   (refine Jq<|Jr<|Jv I<|bP I I ae<|JL I .here I<|JI I<|JA I<|Jn<|Jd I fun ar=>Jk<|Jq<|J0<|Jq ?_)
   have V1:=hch (v:Nat) x;have T1:=GF r.po (v:Nat) 8 x;have VZ:HT r (v:Nat) r.ti[i]=decide ((tT r.po (v:Nat) 8 x).length=8):=by unfold HT;rw [Yj]
   generalize tT r.po (v:Nat) 8 x=C at V1 T1 VZ
   with_reducible refine dP 9 (by kernel_rfl) ?_
   (refine aq (fun β=>(bV (.of I) .here ak (by rfl))) br I<|aq (fun β=>(aX (.of I))) br I<|aq (fun β=>(az (.of I) ae)) br I<|aq (fun β=>(ag (.of I) (At.lit .here I))) br I<|aq (fun β=>(aX (.of I))) br I<|aq (fun β=>(au (.of I) (.of I) cP (by omega) ar bn)) br I<|aq (fun β=>(az (.of I) ae)) br I<|aq (fun β=>(ag (.of I) (At.base c0 I))) br I ?_)
   dsimp only [Nat.zero_add,Nat.reduceAdd]
   with_reducible apply dW (ι:=Option Addr×Nat) (Φ:=fun _=>True) (val:=fun z=>.slice z.1 C.length z.2) (own:=fun z=>[row 9 1 (.slice z.1 C.length z.2) C.length (aJ C)]) (g:=Tf) (B:=[]) (args:=fun _=>[.agg #[.q r.lv,.q r.ma,s,d,.slice a3 r.ti.length ep,.slice a4 r.po.length gz],.q (v:Nat),.string x,.q 8])
   case hg=>exact E2
   case hB=>rfl
   case hr=>exact fun β=>aZ (.of I) (.o I (.o I (.o I (.o I .nil)))) inferInstance I
   case hd=>rfl
   case hc=>exact fun β w' hb=>V1 w' hb.mem.keeps
   dsimp only [Nat.reduceAdd];refine fo fun β=>?_;dsimp only [eB,Za,Zb,List.append_eq,Nat.reduceAdd];generalize Tf (β 8)=y;obtain ⟨ya,yc⟩:=y;clear β;dsimp only;refine ct (rs:=[9]) (by kernel_rfl) (by simp) (Zw.2 ⟨?_,fun _ h=>absurd h Zp⟩);refine cF I ?_;refine JI I<|Jn ?_;refine ct (rs:=[10]) (by kernel_rfl) (by simp) (Zw.2 ⟨?_,fun _ h=>absurd h Zp⟩);refine cF I ?_;refine JC I<|Jn ?_
   with_reducible refine cM (by kernel_rfl) ?_
   (refine Jt<|gB I (fun ar=>?_) fun ar=>?_;refine Jr<|Ja I<|Jn<|Je<|Jm<|Jh<|Jh<|Jm<|Jm<|Jh<|Jh<|Jm<|Jh<|JT ?_;rotate_left;refine Jw<|Jj<|Jt<|Jg<|Jv I<|JB I (by omega)<|Ja I<|Jn ?_;rotate_right)
   ·rw [if_pos (SS (by rw [VZ];exact decide_eq_true (by omega)))]
   apply aL (i+1) ⟨(show i+1<=r.ti.length from ju),lL (by rw [VZ];exact decide_eq_false (by omega))⟩ (show r.ti.length-(i+1)<r.ti.length-i by omega)
   case hs1=>exact cu
   case ht=>(try simp only [Ze,Zf,Za]);exact .cons (.there .here) .nil
  obtain rfl:i=r.ti.length:=by omega
  clear hi ju
  (refine Jq<|Jr<|Jv I<|bP I I ae<|JL I .here I<|JI I<|JA I<|Jn<|Jc I fun ar=>Jp<|Jl<|Jo<|Jj<|Jt<|Jg<|Jv I<|JB I (by omega)<|Ja I<|Jn ?_)
  apply aL (v+1) ⟨(show v+1<=r.lv.toNat from xH),fun u hu j hj=>by
   by_cases e2:u=v
   ·subst e2;exact hy j hj hj
   ·exact hz u (by omega) j hj⟩ (show r.lv.toNat-(v+1)<r.lv.toNat-v by omega)
  case hs1=>exact cu
  case ht=>(try simp only [Ze,Zf,Za]);exact .h1 .nil
 obtain rfl:v=r.lv.toNat:=by omega
 have aG:j5 r (fun v=>r.ti.any (HT r v))=false:=zh hz
 clear hv xH hz
 (refine Jq<|Jr<|Jv I<|bP I I ae<|JL I .here I<|JA I<|Jn<|Jc I fun ar=>Jp<|Jl<|Jo<|Jt<|Jq<|Jr<|Ja I<|Jn<|J0 ?_)
 rw [if_neg (by rw [aG];decide)];refine a7 (ι:=Nat) (fun v=>v<=r.lv.toNat/\∀ u,u<v->∀ (i:Nat) (hi:i<r.ti.length),FW r (u:Nat) r.ti[i]=false) (fun v=>[(9,.q (v:Nat)),(1,.p b1)]) (fun _=>[JQ b1 r s d (.slice a3 r.ti.length ep) (.slice a4 r.po.length gz)]) (fun v=>r.lv.toNat-v) ?_ ?_
 ·apply aI (0:Nat) ⟨Zi _,fun i h=>absurd h (ZR _)⟩
  case hs1=>exact cu
  case ht=>(try simp only [Ze,Zf,Za]);exact .h1 .nil
 rintro v ⟨hv,hz⟩;by_cases xH:v<r.lv.toNat
 ·have MT:((v:Nat):Int)<r.lv:=by omega
  (refine Jq<|Jr<|Jv I<|bP I I ae<|JL I .here I<|JA I<|Jn<|Jd I fun ar=>Jk<|Jq<|J0<|Jr<|Ja I<|Jn<|J0 ?_)
  refine a7 (ι:=Nat) (fun i=>i<=r.ti.length/\∀ (j:Nat) (hj:j<r.ti.length),j<i->FW r (v:Nat) r.ti[j]=false) (fun i=>[(10,.q (i:Nat)),(9,.q (v:Nat)),(1,.p b1)]) (fun _=>[JQ b1 r s d (.slice a3 r.ti.length ep) (.slice a4 r.po.length gz)]) (fun i=>r.ti.length-i) ?_ ?_
  ·apply aI (0:Nat) ⟨Zi _,fun j _ h=>absurd h (ZR _)⟩
   case hs1=>exact cu
   case ht=>(try simp only [Ze,Zf,Za]);exact .h1 .nil
  rintro i ⟨hi,hy⟩;by_cases ju:i<r.ti.length
  ·have cP:=uh (fF ju);have c0:w.cell? ⟨Mk,Ko+i*3,none⟩=some (.string r.ti[i].nm):=(qI i _ (eO ju)).2 0 _ I;have T0:∀ b,FW r (v:Nat) r.ti[i]=b->FW r (v:Nat) r.ti[i]=b:=fun _ h=>h
   unfold FW at T0;have lL:FW r (v:Nat) r.ti[i]=false->∀ (j:Nat) (hj:j<r.ti.length),j<i+1->FW r (v:Nat) r.ti[j]=false:=fun e j hj sV=>by
    by_cases e2:j=i
    ·subst e2;exact e
    ·exact hy j hj (by omega)
   have SS:FW r (v:Nat) r.ti[i]=true->j5 r (fun v=>r.ti.any (FW r v))=true:=Dw MT ju
   generalize Yj:r.ti[i].nm=x at c0
   (refine Jq<|Jr<|Jv I<|bP I I ae<|JL I .here I<|JI I<|JA I<|Jn<|Jd I fun ar=>Jk<|Jq<|J0<|Jr<|bP I I ae<|JL I .here I<|Jv I<|ab (fZ cP ar) I<|bP I I ae<|ab (ag (.of I) (At.base c0 I)) I<|Ja I<|Jn<|Jq ?_)
   have YP:FW r (v:Nat) r.ti[i]=(nh r.po (v:Nat) x != !decide ((ed r.po (v:Nat) x).getD ⟨#[]⟩=⟨#[]⟩)):=by unfold FW;rw [Yj]
   have Vv:FW r (v:Nat) r.ti[i]=(nh r.po (v:Nat) x != decide ((ed r.po (v:Nat) x).getD ⟨#[]⟩≠⟨#[]⟩)):=by rw [YP,decide_not]
   with_reducible refine ef 9 (by kernel_rfl) ?_
   (refine aO (cK .here) I<|lH I I<|lH I I<|gQ eK I (fun w' aA=>(Ym _ x (Mem.keeps aA)))<|aO (cK .here) I<|lH I I<|lH I I<|gQ eK I (fun w' aA=>(O1 _ x (Mem.keeps aA)))<|aO (gY (.of I) (.of I)) I ?_)
   with_reducible refine er ?_
   skip
   refine ab (Cn (.of I) (.of I)) I ?_
   (refine Jn<|qv I (fun ar=>?_) fun ar=>?_;refine Jr<|Ja I<|Jn<|Je<|Jm<|Jh<|Jh<|Jm<|Jm<|Jh<|Jh<|Jm<|Jh<|JT ?_;rotate_left;refine Jw<|Jj<|Jt<|Jg<|Jv I<|JB I (by omega)<|Ja I<|Jn ?_;rotate_right)
   ·rw [if_pos (SS (by rw [Vv];exact ar))]
   apply aL (i+1) ⟨(show i+1<=r.ti.length from ju),lL (by rw [Vv];exact ar)⟩ (show r.ti.length-(i+1)<r.ti.length-i by omega)
   case hs1=>exact cu
   case ht=>(try simp only [Ze,Zf,Za]);exact .h1 .nil
  obtain rfl:i=r.ti.length:=by omega
  clear hi ju
  (refine Jq<|Jr<|Jv I<|bP I I ae<|JL I .here I<|JI I<|JA I<|Jn<|Jc I fun ar=>Jp<|Jl<|Jo<|Jj<|Jt<|Jg<|Jv I<|JB I (by omega)<|Ja I<|Jn ?_)
  apply aL (v+1) ⟨(show v+1<=r.lv.toNat from xH),fun u hu j hj=>by
   by_cases e2:u=v
   ·subst e2;exact hy j hj hj
   ·exact hz u (by omega) j hj⟩ (show r.lv.toNat-(v+1)<r.lv.toNat-v by omega)
  case hs1=>exact cu
  case ht=>(try simp only [Ze,Zf,Za]);exact .h1 .nil
 obtain rfl:v=r.lv.toNat:=by omega
 have k6:j5 r (fun v=>r.ti.any (FW r v))=false:=zh hz
 clear hv xH hz
 (refine Jq<|Jr<|Jv I<|bP I I ae<|JL I .here I<|JA I<|Jn<|Jc I fun ar=>Jp<|Jl<|Jo<|Jt<|Jr<|Ja I<|Jn<|Je<|JT ?_)
 rw [if_neg (by rw [k6];decide)]
theorem qu (h:RR w r s d t p) (hf:mE r):aj T_ 25 [RA r s d t p] w (.q (ew r)):=by
 obtain ⟨h1,h2,h3,h4⟩:=h.one;have hcp:∀ {w'},aK [] w w'->aj T_ 127 [.agg #[.int .i64 r.lv,.int .i64 r.ma,s,d,t,p]] w' (.int .i64 (jC r)):=fun hk=>A9 (h.keeps hk) hf
 have aay:nF r=0->∀ {w'},aK [] w w'->aj T_ 128 [.agg #[.q r.lv,.q r.ma,s,d,t,p]] w' (.q (Ai r)):=fun e _ hk=>xQ (h.keeps hk) hf ⟨(vR e).1,(vR e).2.1⟩
 rw [<- Tz];unfold RA ckQ;refine ah func25 I I ?_;refine Jr<|Jy I I fun _ _=>Ja I<|Jn<|Jq<|Jq ?_
 with_reducible refine cW 7 (by kernel_rfl) ?_
 (refine ao lf I<|ao (ie .here) I<|a8 eK I (fun w' aA=>(Ag _ 1 3 w'))<|ao lf I<|ao (ie .here) I<|a8 eK I (fun w' aA=>(Ag _ 1 4 w'))<|eC (aC (.o I (.o I .nil)) I I I I) I I ?_)
 with_reducible refine dw I fun bq nf=>?_
 refine ai bz I (fun w' aA=>lA (Mem.dh aA .here I I) (cm.cons (cm.cons cm.nil))) ?_;have hlE:nF r=aW [gD r.lv 1 3,gD r.ma 1 4]:=rfl;rw [<- hlE]
 (refine Ja I<|Ji<|Jv I<|JD I<|Jn<|gB I (fun ar=>?_) fun ar=>?_;refine Jr<|Jv I<|Ja I<|Jn<|Ju<|JT ?_;rotate_left;refine Jk<|Jq<|Jr<|ab (cK (.there .here)) I ?_;rotate_right)
 ·rw [if_pos ar]
 have hl:nF r=0:=Zq.1 ar;have Ub:=fun {w'}=>aay hl (w':=w')
 rw [if_neg (not_not_intro hl)]
 (refine ai bz I (fun w' aA=>(hcp (Mem.keeps aA)))<|Ja I<|Ji<|Jv I<|JD I<|Jn<|gB I (fun ar=>?_) fun ar=>?_;refine Jr<|Jv I<|Ja I<|Jn<|Ju<|JT ?_;rotate_left;refine Jk<|Jr<|ab (cK (.there .here)) I<|ai bz I (fun w' aA=>(Ub (Mem.keeps aA)))<|Ja I<|Jn<|Je<|JT ?_;rotate_right)
 ·rw [if_pos ar]
 rw [if_neg ar]
def sD (l:List ByteArray):Bool:=l.all fun s=>decide (s.size<=40)
theorem B6 {lv:Value} {l:List ByteArray} (h:Rd w lv 1 (fX l)):aj T_ 69 [lv] w (.bool (sD l)):=by
 obtain ⟨a,cp,b,o',rfl,dp,bY,ha,hc⟩:=h;rw [bX] at *;unfold maxLen at bY;refine ah func69 I I ?_;refine Jr<|Ja I<|Jn<|Jq<|Jr<|Ja I<|Jn<|J0 ?_;refine a7 (ι:=Nat) (fun k=>k<=l.length/\∀ j (hj:j<l.length),j<k->l[j].size<=40) (fun k=>[(3,.int .i64 (k:Nat)),(0,.slice a l.length cp)]) (fun _=>[]) (fun k=>l.length-k) ?_ ?_
 ·apply aI (0:Nat) ⟨Zi _,fun j _ hj=>absurd hj (ZR _)⟩
  case hs1=>exact cu
  case ht=>(try simp only [Ze,Zf,Za]);exact .nil
 rintro k ⟨hk,hf⟩;by_cases aN:k<l.length
 ·have cP:=ha (mm aN);have c0:w.cell? ⟨b,o'+k*1,none⟩=some (.string l[k]):=(hc k _ (jf aN)).2 0 _ I;have hm:=Zj aN;have xq:l[k].size<=40->∀ j (hj:j<l.length),j<k+1->l[j].size<=40:=fun q j hj MX=>by
   by_cases e:j=k
   ·subst e;exact q
   ·exact hf j hj (by omega)
  generalize l[k]=x at c0 hm xq
  (refine Jq<|Jr<|Jv I<|Jv I<|JI I<|JA I<|Jn<|Jd I fun ar=>Jk<|Jq<|J0<|Jr<|Jv I<|Jv I<|ab (fZ cP ar) I<|ab (ag (.of I) (At.base c0 I)) I<|ab (fP (.of I)) I<|JE I<|Jn<|gB I (fun ar=>?_) fun ar=>?_;refine Jr<|Ja I<|Jn<|Je<|Jm<|Jh<|Jh<|Jm<|Jh<|JT ?_;rotate_left;refine Jw<|Jj<|Jt<|Jg<|Jv I<|JB I (by omega)<|Ja I<|Jn ?_;rotate_right)
  ·have tJ:(40:Int)<(x.size:Nat):=ar;have e:sD l=false:=List.all_eq_false.2 ⟨x,hm,by simp;omega⟩;rw [e]
  ·have tJ:¬ (40:Int)<(x.size:Nat):=ar;apply aL (k+1) ⟨(show k+1<=l.length from aN),xq (by omega)⟩ (show l.length-(k+1)<l.length-k by omega)
   case hs1=>exact cu
   case ht=>(try simp only [Ze,Zf,Za]);exact .nil
 ·have e:sD l=true:=Z6.2 fun x hx=>by
   obtain ⟨j,hj,rfl⟩:=Zx hx;exact decide_eq_true (hf j hj (by omega))
  obtain rfl:k=l.length:=by omega
  rw [e];refine Jq<|Jr<|Jv I<|Jv I<|JI I<|JA I<|Jn<|Jc I fun ar=>Jp<|Jl<|Jo<|Jt<|Jr<|Ja I<|Jn<|Je<|JT ?_
  rfl
def poN (p:Po):List ByteArray:=[p.ou,p.ip]
def B8 (r:Ro) (k:Nat):List ByteArray:=bW r++((r.po.take k).map poN).flatten
def Ca (r:Ro):Bool:=decide (r.sr.length<=10)&&decide (r.de.length<=10)&&decide (r.ti.length<=10)&&decide (r.po.length<=48)
def tZ (r:Ro):Bool:=Ca r&&sD (B8 r r.po.length)
theorem yu (h:k<r.po.length):B8 r (k+1)=B8 r k++[r.po[k].ou,r.po[k].ip]:=by
 unfold B8;rw [Zn h,Zt,Zad,Zh]
 rfl
theorem vo (h:Ca r=true):r.sr.length<=10/\r.de.length<=10/\r.ti.length<=10/\r.po.length<=48:=by
 unfold Ca at h;simp only [Zl,decide_eq_true_eq] at h;exact ⟨h.1.1.1,h.1.1.2,h.1.2,h.2⟩
theorem B9 (h:Ca r=true):mE r:=by
 have:=vo h;exact ⟨by omega,by omega,by omega,by omega⟩
theorem B7 (r:Ro):∀ k,k<=r.po.length->(B8 r k).length=(bW r).length+2*k
 | 0,_=>by unfold B8;simp
 | k+1,h=>by rw [yu (by omega),Zg,B7 r k (by omega)];simp;omega
theorem NH (h:RR w r s d t p):aj T_ 18 [RA r s d t p] w (.bool (tZ r)):=by
 obtain ⟨h1,h2,h3,h4⟩:=h.one;have YT:Ca r=true->∀ w',aK [] w w'->bb T_ 77 [.agg #[.int .i64 r.lv,.int .i64 r.ma,s,d,t,p]] w' [] (fun _:Value=>True) id (fun x=>[row 9 1 x (bW r).length (aJ (bW r))]):=fun e w' hk=>Az (h.keeps hk) (B9 e)
 have Hy:=h.sr;have HH:=h.de;have La:=h.po;have CR:=h.ti;obtain ⟨a1,eJ,QS,P7,rfl,qp,jc,mG,kc⟩:=Hy;obtain ⟨a2,dB,QR,P6,rfl,ki,fB,jT,jS⟩:=HH;obtain ⟨a3,ep,Mk,Ko,rfl,nR,gP,uh,qI⟩:=CR;obtain ⟨a4,gz,WN,RZ,rfl,yV,mR,Ig,AT⟩:=La;rw [cR] at *;rw [cB] at *;rw [cr] at *;rw [c5] at *;unfold maxLen at jc fB gP mR;unfold RA;refine ah func18 I I ?_
 (refine Jr<|Jy I I fun _ _=>Ja I<|Jn<|Jq<|Jr<|bP I I ae<|JL I .here I<|JI I<|JE I<|Jv I<|aF I I (fun hg bT=>(az (.of I) ae)) I<|aF I I (fun hg bT=>(ag (.cD hg I) (At.lit .here I))) I<|aF I I (fun hg bT=>(cI (.cD hg I))) I<|aF I I (fun hg bT=>(ln (.cD hg I) (.of I))) I<|ab (bC (.of I) I) I<|Jv I<|aF I I (fun hg bT=>(az (.of I) ae)) I<|aF I I (fun hg bT=>(ag (.cD hg I) (At.lit .here I))) I<|aF I I (fun hg bT=>(cI (.cD hg I))) I<|aF I I (fun hg bT=>(ln (.cD hg I) (.of I))) I<|ab (bC (.of I) I) I<|Jv I<|aF I I (fun hg bT=>(az (.of I) ae)) I<|aF I I (fun hg bT=>(ag (.cD hg I) (At.lit .here I))) I<|aF I I (fun hg bT=>(cI (.cD hg I))) I<|aF I I (fun hg bT=>(ln (.cD hg I) (.of I))) I<|ab (bC (.of I) I) I<|Jn<|qv I (fun ar=>?_) fun ar=>?_;refine Jr<|Ja I<|Jn<|Ju<|JT ?_;rotate_left;refine Jk<|Jr<|ab (cK .here) I ?_;rotate_right)
 ·have e:tZ r=false:=by
   unfold tZ;have e2:Ca r=false:=by
    rw [<- Zax];intro q;have:=vo q;omega
   rw [e2];rfl
  rw [e]
 have hA:Ca r=true:=by
  unfold Ca;simp only [Zl,decide_eq_true_eq];omega
 obtain ⟨f1,f2,f3,f4⟩:=vo hA;have DJ:=YT hA;clear ar;rename_i b1 tN;have CX:(bW r).length<=30:=by
  unfold bW cG bU cN;simp only [Zg,Zd];omega
 refine JN bz I (fun w1 aG=>DJ w1 aG.keeps) ?_;intro x _;dsimp only [id_eq,Zb,Za];refine Ja I<|Jn<|Jq<|Jr<|Ja I<|Jn<|J0 ?_;refine a7 (ι:=Nat×Value×List ByteArray) (fun y=>y.1<=r.po.length/\y.2.2=B8 r y.1) (fun y=>[(4,.q (y.1:Nat)),(3,y.2.1),(1,.p b1)]) (fun y=>[row 9 1 y.2.1 y.2.2.length (aJ y.2.2),JQ b1 r (.slice a1 r.sr.length eJ) (.slice a2 r.de.length dB) (.slice a3 r.ti.length ep) (.slice a4 r.po.length gz)]) (fun y=>r.po.length-y.1) ?_ ?_
 ·apply aI (0,x,bW r) ⟨Zi _,by unfold B8;simp⟩
  case hs1=>exact cu
  case ht=>
   exact .h2 .nil
 rintro ⟨k,v',L⟩ ⟨hk,hL⟩;dsimp only at hk hL ⊢;have HL:L.length=(bW r).length+2*k:=by rw [hL,B7 r k hk]
 have hlen:(aJ L).length=L.length*1:=by rw [dq];omega
 by_cases aN:k<r.po.length
 ·have cP:=Ig (ku aN);obtain ⟨ia,aB⟩:=AT k _ (iE aN);unfold Po.cells at aB;have c1:=aB 1 _ I;have c2:=aB 2 _ I;have lL:=yu (r:=r) aN;rw [<- hL] at lL;generalize r.po[k]=q at aB c1 c2 lL
  (refine Jq<|Jr<|Jv I<|bP I I ae<|JL I (.there .here) I<|JI I<|JA I<|Jn<|Jd I fun ar=>Jk<|Jq<|J0 ?_)
  with_reducible refine cW 14 (by kernel_rfl) ?_
  (refine ao lX I<|ao lf I<|ao (ie (.there .here)) I<|ao lX I<|ao (fZ cP ar) I<|ao lf I<|ao (ag (.of I) (At.base c1 I)) I<|ao lf I<|ao (ie (.there .here)) I<|ao lX I<|ao (fZ cP ar) I<|ao lf I<|ao (ag (.of I) (At.base c2 I)) I<|eC (aC (.o I (.o I .nil)) I I I I) I I ?_)
  with_reducible refine dw I fun bq nf=>?_
  refine bK (.of I) (.of I) (.there .here) .here ak (by rfl) (gJ I I) (by rfl) (by rfl) (by rfl) fa (by rfl) ?_;intro z;refine Ja I<|Jx<|Jj<|Jt<|Jg<|Jv I<|JB I (by omega)<|Ja I<|Jn ?_;apply aL (k+1,z,L++[q.ou,q.ip]) ⟨(show k+1<=r.po.length from aN),lL.symm⟩ (by show r.po.length-(k+1)<r.po.length-k;omega)
  case hs1=>exact cu
  case ht=>
   show bj _ [row 9 1 z (L++[q.ou,q.ip]).length (aJ (L++[q.ou,q.ip])),JQ b1 r (.slice a1 r.sr.length eJ) (.slice a2 r.de.length dB) (.slice a3 r.ti.length ep) (.slice a4 r.po.length gz)] _;rw [show aJ (L++[q.ou,q.ip])=aJ L++[.string q.ou,.string q.ip] from fw _ _,Zg,show [q.ou,q.ip].length=2 from I];exact .h1 (.cons (.there .here) .nil)
 obtain rfl:k=r.po.length:=by omega
 clear hk aN;have e:tZ r=sD L:=by unfold tZ;rw [hA,<- hL];rfl
 rw [e]
 (refine Jq<|Jr<|Jv I<|bP I I ae<|JL I (.there .here) I<|JI I<|JA I<|Jn<|Jc I fun ar=>Jp<|Jl<|Jo<|Jt<|Jr<|Jv I ?_)
 refine ai bz I (fun w' aA=>B6 (dz aA (by exact .here) I)) ?_;refine Ja I<|Jn<|Je<|JT ?_
 rfl
theorem iR :aW (0::l)=aW l:=by
 conv=>lhs;unfold aW
 rw [if_neg (by decide)]
theorem te (a:Int):aW [a]=a:=by
 unfold aW;split
 ·rfl
 ·rename_i q;rw [Zq] at q;rw [q];rfl
theorem E6 {a:Int} (h:a≠0):aW (a::l)=a:=by unfold aW;rw [if_pos h]














theorem bb.sub {P:Program} {f:FuncId} {args:List Value} {fp:List Nat} {ι:Type} {Φ:ι->Prop} {val:ι->Value} {own:ι->List bd} (h:bb P f args w fp Φ val own):bb P f args w fp (fun _:{x:ι // Φ x}=>True) (fun x=>val x.1) (fun x=>own x.1):=
 Calls.mono h fun e w' ⟨x,he,hx,r⟩=>⟨⟨x,hx⟩,he,trivial,r⟩
end Go.Proofs.A1
namespace Go.SL
open Go
section
variable {P:Program} {c:Cx} {D:List Nat} {sl:aH} {hs:List bd} {X:Act->World->Prop}
end
end Go.SL
namespace Go.Proofs.A1
open Go Go.SL
open Tryz
open Tryz renaming prog->T_

theorem zI (l:List eN) {i:Nat} (h:i<l.length):(gL l)[i]? = some [.string l[i].tk.de,l[i].v]:=jA h
noncomputable def gOf {ι:Type} (f:ι->Value) (d:ι) (v:Value):ι:=open Classical in if h:∃ x,f x=v then h.choose else d
theorem Th {ι:Type} {f:ι->Value} (hi:∀ x y,f x=f y->x=y) (d x:ι):∃ v,gOf f d v=x:=⟨f x,by
 have h:∃ y,f y=f x:=⟨x,I⟩;unfold gOf;rw [dif_pos h];exact hi _ _ h.choose_spec⟩

variable {L:List Tk} {d:Value} {k:Nat} {l:List Tk} {p:Value} {r:Ro} {s t:Value} {w:World} {y:ByteArray}
theorem Uw (h:k<l.length) (e:mB r l[k].de≠0):xA r l k=mB r l[k].de:=by rw [qz h,E6 e]
theorem Uv (h:k<l.length) (e:mB r l[k].de=0) {j:Nat} (hj:j<k) (e2:(l[j]'(by omega)).de=l[k].de):xA r l k=9:=by
 rw [qz h,e,iR];have:((l.take k).any fun y=>decide (y.de=l[k].de))=true:=ZN.2 ⟨l[j]'(by omega),List.mem_take_iff_getElem.2 ⟨j,by omega,I⟩,decide_eq_true e2⟩
 rw [this];exact E6 (by decide)
theorem D7 {de:ByteArray} (hk:k<=l.length) (h:∀ j (hj:j<k),(l[j]'(by omega)).de≠de):((l.take k).any fun y=>decide (y.de=de))=false:=by
 rw [Zac];intro y hy;obtain ⟨j,hj,rfl⟩:=List.mem_take_iff_getElem.1 hy;simpa using h j (by omega)
theorem Uu (h:k<l.length) (e:mB r l[k].de=0) (e2:∀ j (hj:j<k),(l[j]'(by omega)).de≠l[k].de) (e3:(l[k].so.length:Int)≠r.lv):xA r l k=2:=by
 rw [qz h,e,iR,D7 (by omega) e2];show aW (0::_)=2;rw [iR,decide_eq_true e3];exact E6 (by decide)
theorem Ut (h:k<l.length) (e:mB r l[k].de=0) (e2:∀ j (hj:j<k),(l[j]'(by omega)).de≠l[k].de) (e3:(l[k].so.length:Int)=r.lv) {j:Nat} (hj:j<l[k].so.length) (e4:iX r l[k].so[j]=true):xA r l k=10:=by
 rw [qz h,e,iR,D7 (by omega) e2];show aW (0::_)=10;rw [iR,decide_eq_false (not_not_intro e3)];show aW (0::_)=10;rw [iR,ZN.2 ⟨_,Zj hj,e4⟩]
 rfl
theorem Us (h:k<l.length) (e:mB r l[k].de=0) (e2:∀ j (hj:j<k),(l[j]'(by omega)).de≠l[k].de) (e3:(l[k].so.length:Int)=r.lv) (e4:∀ j (hj:j<l[k].so.length),iX r l[k].so[j]=false):xA r l k=0:=by
 rw [qz h,e,iR,D7 (by omega) e2];show aW (0::_)=0;rw [iR,decide_eq_false (not_not_intro e3)];show aW (0::_)=0;rw [iR];have:l[k].so.any (iX r)=false:=by
  rw [Zac];intro y hy;obtain ⟨j,hj,rfl⟩:=Zx hy;rw [e4 j hj];decide
 rw [this];rfl
set_option maxHeartbeats 2000000 in
theorem se {s d t p kv:Value} {l:List eN} (h:RR w r s d t p) (hw:Rd w kv 2 (gL l)) (hM:qY w l):aj T_ 49 [RA r s d t p,kv] w (.q (qy r (cq l))):=by
 obtain ⟨h1,h2,h3,h4⟩:=h.one;obtain ⟨a,cp,b,o,rfl,dp,bY,ha,hc⟩:=hw;rw [dy] at *;unfold maxLen at bY;have qH:(cq l).length=l.length:=Zd _;have aaE:∀ (o:ByteArray) {w'},aK [] w w'->aj T_ 26 [.agg #[.int .i64 r.lv,.int .i64 r.ma,s,d,t,p],.string o] w' (.int .i64 (mB r o)):=fun o _ hk=>Fe o (h.keeps hk)
 have VV:∀ (o:ByteArray) {w'},aK [] w w'->aj T_ 130 [.agg #[.q r.lv,.q r.ma,s,d,t,p],.string o] w' (.q (bA (cG r) o)):=fun o _ hk=>Gv o (h.keeps hk)
 unfold RA;refine ah func49 I I ?_
 (refine Jr<|Jy I I fun _ _=>Ja I<|Jn<|Jq<|Jr<|Jv I<|JI I<|JC I<|ai ba I (fun w' aA=>(lg _ 12 w'))<|Jv I<|JI I<|JE I<|ai ba I (fun w' aA=>(lg _ 5 w'))<|bu (aC (.o I (.o I .nil)) I I I I) I fun _ _=>ai bz I (fun w' aA=>(lA (Mem.dh aA .here I I) (cm.cons (cm.cons cm.nil))))<|Ja I<|Ji<|Jv I<|JD I<|Jn<|gB I (fun ar=>?_) fun ar=>?_;refine Jr<|Jv I<|Ja I<|Jn<|Ju<|JT ?_;rotate_left;refine Jk<|Jq<|Jr<|Ja I<|Jn<|J0 ?_;rotate_right)
 ·have e1:qy r (cq l)=D8 (cq l):=if_pos (by unfold D8;rw [qH];exact ar);rw [e1];unfold D8;rw [qH]
 have Gi:D8 (cq l)=0:=by unfold D8;rw [qH];exact Zq.1 ar
 have hX:qy r (cq l)=jJ (xA r (cq l)) l.length:=by unfold qy;rw [if_neg (by rw [Gi];decide),qH]
 clear ar;rename_i b2 tM bq nf
 refine a7 (fun k:Nat=>k<=l.length/\∀ i,i<k->xA r (cq l) i=0) (fun k=>[(6,.q (k:Nat)),(1,.slice a l.length cp),(2,.p b2)])
  (fun k=>[JQ b2 r s d t p]) (fun k=>l.length-k) ?_ ?_
 ·with_reducible apply aI (0:Nat) ⟨Zi _,fun i hi=>absurd hi (ZR _)⟩
  case hs1=>exact cu
  case ht=>exact ng
 rintro k ⟨hk,hf⟩;by_cases aN:k<l.length
 ·have cP:=ha (jV aN);have aB:=(hc k _ (zI l aN)).2;have nH:k<(cq l).length:=by omega
  have SV:∀ j (hj:j<l.length),(cq l)[j]'(by omega)=l[j].tk:=fun j hj=>Z0 _
  have g1:=Uw (r:=r) nH;have g2:=Uv (r:=r) nH;have g3:=Uu (r:=r) nH;have g4:=Ut (r:=r) nH;have g5:=Us (r:=r) nH;have hB:xA r (cq l) k≠0->qy r (cq l)=xA r (cq l) k:=fun e=>hX.trans (fg hf aN e)
  have lL:xA r (cq l) k=0->∀ i,i<k+1->xA r (cq l) i=0:=fun e i hi=>by
   by_cases e2:i=k
   ·rw [e2];exact e
   ·exact hf i (by omega)
  have Ih:=hM _ (Zj aN);have aat:∀ j (hj:j<k),w.cell? ⟨b,o+j*2,none⟩=some (.string ((cq l)[j]'(by omega)).de):=fun j hj=>by
   rw [SV j (by omega)];exact (hc j _ (zI l (by omega))).2 0 _ I
  rw [SV k aN] at g1 g2 g3 g4 g5;generalize l[k]=x at aB Ih g1 g2 g3 g4 g5;obtain ⟨⟨xd,xs⟩,xv⟩:=x;dsimp only at aB Ih g1 g2 g3 g4 g5;obtain ⟨ax,cx,bx,ox,rfl,Qw,CU,hax,hcx⟩:=Ih;rw [bX] at *;unfold maxLen at CU;have c0:w.cell? ⟨b,o+k*2,none⟩=some (.string xd):=aB 0 _ I;have c1:w.cell? ⟨b,o+k*2+1,none⟩=some (.slice ax xs.length cx):=aB 1 _ I;have aaD:=fun {w'}=>aaE xd (w':=w')
  refine Jq<|Jr<|Jv I<|Jv I<|JI I<|JA I<|Jn<|Jd I fun ar=>Jk<|Jq<|J0<|Jq<|Jq ?_
  with_reducible refine ef 8 (by kernel_rfl) ?_
  (refine aO (cK .here) I<|lH I I<|lH I I<|aO (fZ cP ar) I<|pt I I ae<|aO (ag (.of I) (At.base c0 I)) I<|gQ ba I (fun w' aA=>(aaD (Mem.keeps aA)))<|aO (cS (.of I)) I ?_)
  with_reducible refine er ?_
  (refine Ji<|Jv I<|JD I<|Jn<|gB I (fun ar=>?_) fun ar=>?_;refine Jr<|Jv I<|Ja I<|Jn<|Ju<|Jm<|Jh<|Jh<|Jm<|Jh<|JT ?_;rotate_left;refine Jk<|Jq<|Jr<|Ja I<|Jn<|J0 ?_;rotate_right)
  ·rw [hB (by rw [g1 ar];exact ar),g1 ar]
  have e0:mB r xd=0:=Zq.1 ar;clear ar
  refine a7 (fun j:Nat=>j<=k/\∀ i (hi:i<k),i<j->((cq l)[i]'(by omega)).de≠xd) (fun j=>[(8,.q (j:Nat)),(6,.q (k:Nat)),(1,.slice a l.length cp),(2,.p b2)])
   (fun _=>[JQ b2 r s d t p]) (fun j=>k-j) ?_ ?_
  ·with_reducible apply aI (0:Nat) ⟨Zi _,fun i _ hi=>absurd hi (ZR _)⟩
   case hs1=>exact cu
   case ht=>exact ng
  rintro j ⟨hj,rf⟩;by_cases MX:j<k
  ·have cj:=aat j MX;have Lr:=g2 e0 MX;have Lc:((cq l)[j]'(by omega)).de≠xd->∀ i (hi:i<k),i<j+1->((cq l)[i]'(by omega)).de≠xd:=fun q i hi xK=>by
    by_cases e:i=j
    ·subst e;exact q
    ·exact rf i hi (by omega)
   generalize ((cq l)[j]'(by omega)).de=yd at cj Lr Lc;refine Jq<|Jr<|Jv I<|Jv I<|JA I<|Jn<|Jd I fun ar=>Jk<|Jq<|J0<|Jq ?_
   with_reducible refine ef 11 (by kernel_rfl) ?_
   (refine lH I I<|lH I I<|aO (au (.of I) (.of I) cP (by omega) (by omega) bn) I<|pt I I ae<|aO (ag (.of I) (At.base cj I)) I<|lH I I<|lH I I<|aO (au (.of I) (.of I) cP (by omega) (by assumption) bn) I<|pt I I ae<|aO (ag (.of I) (At.base c0 I)) I<|aO (ei (.of I) (.of I)) I ?_)
   with_reducible refine er ?_
   (refine Jn<|gB I (fun ar=>?_) fun ar=>?_;refine Jr<|Ja I<|Jn<|Je<|Jm<|Jh<|Jh<|Jm<|Jh<|Jm<|Jh<|Jh<|Jm<|Jh<|JT ?_;rotate_left;refine Jw<|Jj<|Jt<|Jg<|Jv I<|JB I (by omega)<|Ja I<|Jn ?_;rotate_right)
   ·have e9:=Lr ar;rw [hB (by rw [e9];decide),e9]
   with_reducible apply aL (j+1) ⟨Zbc MX,Lc ar⟩ (show k-(j+1)<k-j by omega)
   case hs1=>exact cu
   case ht=>exact ng
  have ejk:j=k:=by omega
  subst ejk;have SK:∀ i (hi:i<j),((cq l)[i]'(by omega)).de≠xd:=fun i hi=>rf i hi hi
  clear rf MX hj;refine Jq<|Jr<|Jv I<|Jv I<|JA I<|Jn<|Jc I fun ar=>Jp<|Jl<|Jo<|Jt<|Jq<|Jq ?_
  with_reducible refine ef 9 (by kernel_rfl) ?_
  (refine lH I I<|lH I I<|aO (au (.of I) (.of I) cP (by omega) (by assumption) bn) I<|pt I I ae<|aO (ag (.of I) (At.base c1 I)) I<|aO (cI (.of I)) I<|pt I I ae<|aO (ie .here) I<|aO (gU (.of I) (.of I)) I ?_)
  with_reducible refine er ?_
  (refine Jn<|gB I (fun ar=>?_) fun ar=>?_;refine Jr<|Ja I<|Jn<|Ju<|Jm<|Jh<|Jh<|Jm<|Jh<|JT ?_;rotate_left;refine Jk<|Jr<|Ja I<|Jn<|J0 ?_;rotate_right)
  ·have e2:=g3 e0 SK ar;rw [hB (by rw [e2];decide),e2]
  have elv:(xs.length:Int)=r.lv:=Zq.1 ar;clear ar
  refine a7 (fun i:Nat=>i<=xs.length/\∀ q (hq:q<xs.length),q<i->iX r xs[q]=false) (fun i=>[(9,.q (i:Nat)),(6,.q (j:Nat)),(1,.slice a l.length cp),(2,.p b2)])
   (fun _=>[JQ b2 r s d t p]) (fun i=>xs.length-i) ?_ ?_
  ·with_reducible apply aI (0:Nat) ⟨Zi _,fun i _ hi=>absurd hi (ZR _)⟩
   case hs1=>exact cu
   case ht=>exact ng
  rintro i ⟨hi,rf⟩;by_cases ju:i<xs.length
  ·have aaU:=hax (mm ju);have cx0:w.cell? ⟨bx,ox+i*1,none⟩=some (.string xs[i]):=(hcx i _ (jf ju)).2 0 _ I;have Lr:=g4 e0 SK elv ju;have Lc:iX r xs[i]=false->∀ q (hq:q<xs.length),q<i+1->iX r xs[q]=false:=fun e q hq Qi=>by
    by_cases e2:q=i
    ·subst e2;exact e
    ·exact rf q hq (by omega)
   have Qn:iX r xs[i]=(decide (xs[i]≠⟨#[]⟩)&&decide (xs[i]≠⟨#[45]⟩)&&decide (bA (cG r) xs[i]<0)):=rfl;generalize iX r xs[i]=lb at Lr Lc Qn;generalize xs[i]=y at cx0 Qn
   (refine Jq<|Jr<|Jv I<|Jv I<|Jv I<|ab (au (.of I) (.of I) cP (by omega) (by assumption) bn) I<|bP I I ae<|ab (ag (.of I) (At.base c1 I)) I<|JI I<|JA I<|Jn<|Jd I fun ar=>Jk<|Jq<|J0<|Jr<|Jv I<|Jv I<|ab (au (.of I) (.of I) cP (by omega) (by assumption) bn) I<|bP I I ae<|ab (ag (.of I) (At.base c1 I)) I<|Jv I<|ab (au (.of I) (.of I) aaU (by omega) ar bn) I<|ab (ag (.of I) (At.base cx0 I)) I<|Ja I<|Ji<|Jv I<|ab (gY (.of I) (.of I)) I<|Jv I<|iT I I I I<|aF I I (fun hg bT=>(gY (.cD hg I) (.of I))) I<|ab (c6 (.of I) I) I<|Jv I<|aF I I (fun hg bT=>(bV (.of I) .here ak (by rfl))) I<|iT I I I I<|eh I I (fun hg=>(aZ (.of I) (.cons (.cD hg I) (.cons (.cD hg I) .nil)) inferInstance eQ)) I (fun hg w' aA=>(VV y (Mem.keeps aA)))<|aF I I (fun hg bT=>(nq (.cD hg I) (.of I))) I<|ab (c6 (.of I) I) I<|Jn<|qv I (fun ar=>?_) fun ar=>?_;refine Jr<|Ja I<|Jn<|Je<|Jm<|Jh<|Jh<|Jm<|Jm<|Jh<|Jh<|Jm<|Jh<|JT ?_;rotate_left;refine Jw<|Jj<|Jt<|Jg<|Jv I<|JB I (by omega)<|Ja I<|Jn ?_;rotate_right)
   ·have e4:=Lr (by rw [Qn,decide_eq_true ar.1.1,decide_eq_true ar.1.2,decide_eq_true ar.2];rfl);rw [hB (by rw [e4];decide),e4]
   have e5:lb=false:=by
    rw [Qn];rcases ar with (q | q) | q
    ·rw [decide_eq_false q];rfl
    ·rw [decide_eq_false q];simp
    ·rw [decide_eq_false q];simp
   with_reducible apply aL (i+1) ⟨Zbc ju,Lc e5⟩ (show xs.length-(i+1)<xs.length-i by omega)
   case hs1=>exact cu
   case ht=>exact ng
  have e5:=lL (g5 e0 SK elv fun q hq=>rf q hq (by omega))
  (refine Jq<|Jr<|Jv I<|Jv I<|Jv I<|ab (au (.of I) (.of I) cP (by omega) (by assumption) bn) I<|bP I I ae<|ab (ag (.of I) (At.base c1 I)) I<|JI I<|JA I<|Jn<|Jc I fun ar=>Jp<|Jl<|Jo<|Jj<|Jt<|Jg<|Jv I<|JB I (by omega)<|Ja I<|Jn ?_)
  with_reducible apply aL (j+1) ⟨Zbc aN,e5⟩ (show l.length-(j+1)<l.length-j by omega)
  case hs1=>exact cu
  case ht=>exact ng
 ·obtain rfl:k=l.length:=by omega
  rw [hX,dV.2 hf];refine Jq<|Jr<|Jv I<|Jv I<|JI I<|JA I<|Jn<|Jc I fun ar=>Jp<|Jl<|Jo<|Jt<|Jr<|Ja I<|Jn<|Je<|JT ?_
  rfl
def sE (l:List Tk):Bool:=(l.all fun t=>decide (t.de.size<=40)&&decide (t.so.length<=4)&&sD t.so)&&decide (l.length<=9)
set_option maxHeartbeats 1000000 in
theorem rr {kv:Value} {l:List eN} (hw:Rd w kv 2 (gL l)) (hM:qY w l):aj T_ 44 [kv] w (.bool (sE (cq l))):=by
 obtain ⟨a,cp,b,o,rfl,dp,bY,ha,hc⟩:=hw;rw [dy] at *;unfold maxLen at bY;have qH:(cq l).length=l.length:=Zd _;refine ah func44 I I ?_;refine Jr<|Ja I<|Jn<|Jq<|Jr<|Ja I<|Jn<|J0 ?_;refine a7 (ι:=Nat) (fun k=>k<=l.length/\∀ j (hj:j<l.length),j<k->(decide (l[j].tk.de.size<=40)&&decide (l[j].tk.so.length<=4)&&sD l[j].tk.so)=true) (fun k=>[(3,.int .i64 (k:Nat)),(0,.slice a l.length cp)]) (fun _=>[]) (fun k=>l.length-k) ?_ ?_
 ·with_reducible apply aI (0:Nat) ⟨Zi _,fun j _ hj=>absurd hj (ZR _)⟩
  case hs1=>exact cu
  case ht=>exact .nil
 rintro k ⟨hk,hf⟩;by_cases aN:k<l.length
 ·have cP:=ha (jV aN);have aB:=(hc k _ (zI l aN)).2;have jk:=Zj aN;have Ih:=hM _ jk;have Y2:l[k].tk∈cq l:=ZU jk;have xq:(decide (l[k].tk.de.size<=40)&&decide (l[k].tk.so.length<=4)&&sD l[k].tk.so)=true->∀ j (hj:j<l.length),j<k+1->(decide (l[j].tk.de.size<=40)&&decide (l[j].tk.so.length<=4)&&sD l[j].tk.so)=true:=fun q j hj MX=>by
   by_cases e:j=k
   ·subst e;exact q
   ·exact hf j hj (by omega)
  generalize l[k]=x at aB Ih Y2 xq;obtain ⟨⟨xd,xs⟩,xv⟩:=x;dsimp only at aB Ih Y2 xq;have Xn:∀ {w'},aK [] w w'->aj T_ 69 [xv] w' (.bool (sD xs)):=fun hk=>B6 (Rd.keeps Ih hk)
  obtain ⟨ax,cx,bx,ox,rfl,Qw,CU,hax,hcx⟩:=Ih;rw [bX] at *;unfold maxLen at CU;have Yv:=fun {w'}=>Xn (w':=w')
  have c0:w.cell? ⟨b,o+k*2,none⟩=some (.string xd):=aB 0 _ I;have c1:w.cell? ⟨b,o+k*2+1,none⟩=some (.slice ax xs.length cx):=aB 1 _ I;generalize Yy:sD xs=sb at *
  (refine Jq<|Jr<|Jv I<|Jv I<|JI I<|JA I<|Jn<|Jd I fun ar=>Jk<|Jq<|J0<|Jr<|Jv I<|Jv I<|ab (fZ cP ar) I<|bP I I ae<|ab (ag (.of I) (At.base c0 I)) I<|ab (fP (.of I)) I<|JE I<|Jv I<|iT I I I I<|iT I I I I<|aF I I (fun hg bT=>(au (.cD hg I) (.cD hg I) cP (by omega) ar bn)) I<|aF I I (fun hg bT=>(az (.cD hg I) ae)) I<|aF I I (fun hg bT=>(ag (.cD hg I) (At.base c1 I))) I<|aF I I (fun hg bT=>(cI (.cD hg I))) I<|aF I I (fun hg bT=>(ln (.cD hg I) (.of I))) I<|ab (bC (.of I) I) I<|Jv I<|iT I I I I<|iT I I I I<|aF I I (fun hg bT=>(au (.cD hg I) (.cD hg I) cP (by omega) ar bn)) I<|aF I I (fun hg bT=>(az (.cD hg I) ae)) I<|aF I I (fun hg bT=>(ag (.cD hg I) (At.base c1 I))) I<|eh I I (fun hg=>(aZ (.of I) (.cons (.cD hg I) .nil) inferInstance eQ)) I (fun hg w' aA=>(Yv (Mem.keeps aA)))<|aF I I (fun hg bT=>(dX (.cD hg I))) I<|ab (bC (.of I) I) I<|Jn<|qv I (fun ar=>?_) fun ar=>?_;refine Jr<|Ja I<|Jn<|Je<|Jm<|Jh<|Jh<|Jm<|Jh<|JT ?_;rotate_left;refine Jw<|Jj<|Jt<|Jg<|Jv I<|JB I (by omega)<|Ja I<|Jn ?_;rotate_right)
  ·have e:sE (cq l)=false:=by
    unfold sE;rw [List.all_eq_false.2 ⟨_,Y2,?_⟩]
    ·rfl
    ·dsimp only;rw [Yy];rcases ar with (q | q) | q
     ·rw [decide_eq_false (show ¬ xd.size<=40 by omega)];simp
     ·rw [decide_eq_false (show ¬ xs.length<=4 by omega)];simp
     ·rw [q];simp
   rw [e]
  ·have e:(decide (xd.size<=40)&&decide (xs.length<=4)&&sb)=true:=by
    rw [decide_eq_true (show xd.size<=40 by have:=ar.1.1;omega),decide_eq_true (show xs.length<=4 by have:=ar.1.2;omega),ar.2];rfl
   with_reducible apply aL (k+1) ⟨Zbc aN,xq e⟩ (show l.length-(k+1)<l.length-k by omega)
   case hs1=>exact cu
   case ht=>exact .nil
 ·obtain rfl:k=l.length:=by omega
  have e:((cq l).all fun t=>decide (t.de.size<=40)&&decide (t.so.length<=4)&&sD t.so)=true:=Z6.2 fun x hx=>by
   unfold cq at hx;obtain ⟨y,hy,rfl⟩:=Zo.1 hx;obtain ⟨j,hj,rfl⟩:=Zx hy;exact hf j hj hj
  have e2:sE (cq l)=decide ((l.length:Int)<=9):=by
   unfold sE;rw [e,qH,Zaz];exact decide_eq_decide.2 (by omega)
  rw [e2];refine Jq<|Jr<|Jv I<|Jv I<|JI I<|JA I<|Jn<|Jc I fun ar=>Jp<|Jl<|Jo<|Jt<|Jr<|Jv I<|JI I<|JF I<|Ja I<|Jn<|Je<|JT ?_
  rfl

theorem NG {l:List eN} (h:sE (cq l)=true):l.length<=9/\∀ x∈l,x.tk.so.length<=4:=by
 unfold sE at h;rw [Zl,decide_eq_true_iff,Z6] at h;refine ⟨by have:=h.2;unfold cq at this;rwa [Zd] at this,fun x hx=>?_⟩;have:=h.1 x.tk (ZU hx);simp only [Zl,decide_eq_true_eq] at this;exact this.1.2
theorem XW {c:Cx} {hs hs':List bd} (hm:Mem c hs w) {b:Nat} {x y:Value} {E:TypeId} {fz:Nat×Nat} (ht:Take hs (bo b (.cells #[x,y] E fz)) hs'):Rd w (.w b 1 1) 2 [[x,y]]:=by
 refine ⟨_,1,b,0,I,Zz _,by unfold maxLen;decide,fun _=>rfl,fun i r hr=>?_⟩;cases i with
 | succ i=>simp at hr
 | zero =>
  obtain rfl:[x,y]=r:=by simpa using hr
  refine ⟨I,fun j u hu=>?_⟩;rw [cell_of_block (hm.bo ht)]
  match j,hu with
  | 0,hu=>simpa using hu
  | 1,hu=>simpa using hu
set_option maxRecDepth 20000 in
theorem Nc (h:RR w r s d t p):aj T_ 55 [RA r s d t p] w (.bool (tZ r&&decide (ew r=0))):=by
 obtain ⟨h1,h2,h3,h4⟩:=h.one;have Yw:∀ {w'},aK [] w w'->aj T_ 18 [.agg #[.int .i64 r.lv,.int .i64 r.ma,s,d,t,p]] w' (.bool (tZ r)):=fun hk=>NH (h.keeps hk)
 have aaB:∀ {w'},(tZ r==true)=true->aK [] w w'->aj T_ 25 [.agg #[.q r.lv,.q r.ma,s,d,t,p]] w' (.q (ew r)):=fun e hk=>by
  have hb:tZ r=true:=by simpa using e
  unfold tZ at hb;exact qu (h.keeps hk) (B9 (Zl _ _ ▸ hb).1)
 unfold RA;refine ah func55 I I ?_
 (refine Jr<|Jy I I fun _ _=>Ja I<|Ji<|ab (cK .here) I<|ai bz I (fun w' aA=>(Yw (Mem.keeps aA)))<|Jv I<|aF I I (fun hg bT=>(bV (.of I) .here ak (by rfl))) I<|eh I I (fun hg=>(aZ (.of I) (.cons (.cD hg I) .nil) inferInstance eQ)) I (fun hg w' aA=>(aaB hg (Mem.keeps aA)))<|aF I I (fun hg bT=>(mr (.cD hg I) (.of I))) I<|ab (c6 (.of I) I) I<|Ja I<|Jn<|Je<|JT ?_)
 rfl
def Al (r:Ro) (t:Tk):Bool:=(r.de.getD (bA (bU r) t.de).toNat ⟨⟨#[]⟩,0,false⟩).pr
theorem Hv {α:Type} {p:α->Bool} {l:List α} (h:0<=fU p l):∃ i,∃ hi:i<l.length,fU p l=(i:Nat)/\p l[i]=true:=by
 unfold fU at h ⊢;cases e:(List.range l.length).find? fun i=>(l[i]?.map p).getD false with
 | none=>rw [e] at h;exact absurd h (by decide)
 | some i =>
  have h1:=ZP.1 (ZaR e);have h2:=List.find?_some e;refine ⟨i,h1,I,?_⟩;simpa [h1] using h2
theorem NM {Q:Ro} {IX E:Int} (hne:L≠[]) (hX:fx r L=(Q,IX,E)) (hE:E≠0):∃ i,∃ hi:i<L.length,IX=(i:Nat)/\(E=31/\Al r L[i]=true\/E=18/\Al r L[i]=false):=by
 have h:=Cb (r:=r) (l:=L);rw [hX] at h;dsimp only at h;rcases h with e | ⟨e1,c,_,e3⟩ | ⟨e1,c,_,e3,_⟩
 ·exact absurd e hE
 ·obtain ⟨i,hi,e4,e5⟩:=Hv c;exact ⟨i,hi,e3.trans e4,.inl ⟨e1,e5⟩⟩
 ·have aN:Ae r L (pb r L)<L.length:=by
   unfold Ae;cases e:(List.range L.length).find? fun i=>(iu r L (pb r L) (i+1)).isNone with
   | none=>exact Zby.2 hne
   | some i=>exact ZP.1 (ZaR e)
  refine ⟨_,aN,e3,.inr ⟨e1,?_⟩⟩;have:=iY (Al r) L;rw [decide_eq_false (show ¬ 0<=fU (Al r) L from c)] at this;have:=Zac.1 this.symm L[Ae r L (pb r L)] (Zj aN);simpa using this
theorem Ou (c:¬ 0<=lq r L) {t:Tk} (ht:t∈L):Al r t=false:=by
 have:=iY (Al r) L;rw [decide_eq_false (show ¬ 0<=fU (Al r) L from c)] at this;simpa using Zac.1 this.symm t ht
theorem jY (r:Ro) (y:ByteArray):(bH r y).length=r.lv.toNat:=by unfold bH;simp
theorem CJ (wb:r.lv<=1000) {k:Nat} (hk:(k:Int)<r.lv):DH r (k:Nat)=0:=by
 unfold DH;rw [Io (by omega) (by omega),gC];omega
theorem pe (hy:y∈bU r):mB r y=0:=by
 unfold mB;rw [bI (by decide)];exact decide_eq_false fun c=>cg.1 c hy
theorem Lh (dD:ew r=0) {y:ByteArray} (hy:y∈bU r):CY r y=0/\ET r y=bH r y:=by
 have e:CY r y=0:=by unfold CY;rw [dD,iR,te,pe hy]
 exact ⟨e,if_neg (not_not_intro e)⟩
theorem IC (dD:ew r=0) {k:Nat} (hk:(k:Int)<r.lv) {y:ByteArray} (hy:y∈bU r):BJ r (k:Nat) y=0/\DY r (k:Nat) y=oz r (k:Nat) y:=by
 have hl:=(rO dD).lim;have e:BJ r (k:Nat) y=0:=by unfold BJ;rw [dD,iR,CJ (by omega) hk,iR,te,pe hy]
 exact ⟨e,if_neg (not_not_intro e)⟩
theorem Mj (dD:ew r=0) {k:Nat} (hk:(k:Int)<r.lv):Dq r (k:Nat)=0/\Fg r (k:Nat)=(cN r).filter (ig r.po (k:Nat)):=by
 have hl:=(rO dD).lim;have e:Dq r (k:Nat)=0:=by unfold Dq;rw [dD,iR,te,CJ (by omega) hk]
 exact ⟨e,if_neg (not_not_intro e)⟩
theorem jz (h:RR w r s d t p) (hf:mE r):bb T_ 57 [.agg #[.q r.lv,.q r.ma,s,d,t,p]] w [] (fun _:Value×Value×Value×Value=>True) (fun x=>.agg #[.q r.lv,.q r.ma,x.1,x.2.1,x.2.2.1,x.2.2.2]) (fun x=>DE r x):=D6 h hf
theorem Ln (h:RR w r s d t p) (hf:kE r) (dD:ew r=0) (hy:y∈bU r):bb T_ 20 [.agg #[.q r.lv,.q r.ma,s,d,t,p],.string y] w [] (fun _:Value=>True) (fun x=>.tuple #[x,.q 0]) (fun x=>[row 9 1 x r.lv.toNat (aJ (bH r y))]):=by
 have:=QY y h hf (Lh dD hy).1 (Lh dD hy).2;rwa [jY] at this
theorem Nj (h:RR w r s d t p) (hf:kE r) (dD:ew r=0) (hk:(k:Int)<r.lv) (hy:y∈bU r):bb T_ 22 [.agg #[.q r.lv,.q r.ma,s,d,t,p],.q (k:Nat),.string y] w [] (fun _:Value=>True) (fun x=>.tuple #[x,.q 0]) (fun x=>[row 9 1 x (oz r (k:Nat) y).length (aJ (oz r (k:Nat) y))]):=
 QW _ y h hf (IC dD hk hy).1 (IC dD hk hy).2
theorem TA (h:RR w r s d t p) (hf:kE r) (dD:ew r=0) (hk:(k:Int)<r.lv):bb T_ 23 [.agg #[.q r.lv,.q r.ma,s,d,t,p],.q (k:Nat)] w [] (fun _:Value=>True) (fun x=>.tuple #[x,.q 0]) (fun x=>[row 9 1 x ((cN r).filter (ig r.po (k:Nat))).length (aJ ((cN r).filter (ig r.po (k:Nat))))]):=
 QZ _ h hf (Mj dD hk).1 (Mj dD hk).2
theorem zV {v1 v2:Value} {l m:List ByteArray} (h1:Rd w v1 1 (fX l)) (h2:Rd w v2 1 (fX m)) (e:l=m):aj T_ 58 [v1,v2] w (.bool true):=by
 have:=zW h1 h2;rwa [decide_eq_true e] at this
theorem mD (h:RR w r s d t p) (hf:mE r) (dD:ew r=0):aj T_ 25 [.agg #[.q r.lv,.q r.ma,s,d,t,p]] w (.q 0):=by
 have:=qu h hf;rwa [dD] at this
theorem zG (l:List eN):(cq l).length=l.length:=Zd _
theorem Ri {l:List eN} {i:Nat} (h:i<(cq l).length):(cq l)[i]=(l[i]'(by rw [<- zG];exact h)).tk:=Z0 _
theorem eI {P:Program} {c:Cx} {sl:aH} {hs:List bd} {dst:Option Tmp} {ty:TypeId} {pos:String} {af:Array Edge} {g:Option (Nat×Bool)} {k:IntKind} {t u:TypeId} {x y:Operand} {a b:Int} (hx:Is sl x (.int k a)) (hy:Is sl y (.int k b)) (e:a=b) :
  cY P c sl hs ⟨dst,.binOp .neq t x y u,ty,pos,af,g⟩ (.bool false):=by
 have:=gU (P:=P) (c:=c) (hs:=hs) (dst:=dst) (ty:=ty) (pos:=pos) (af:=af) (g:=g) (t:=t) (u:=u) hx hy;rwa [decide_eq_false (not_not_intro e)] at this
end Go.Proofs.A1
namespace Go.Proofs.A1
open Go Go.SL
def LO (y:eN):Value:=.agg #[.string y.tk.de,.agg (aJ y.tk.so).toArray,y.v]
theorem B1:∀ {a b:List ByteArray},aJ a=aJ b->a=b
 | [],[],_=>rfl
 | x :: a, y :: b, h => by
  injection h with h1 h2
  injection h1 with h1
  rw [h1,B1 h2]
theorem LN {x y:eN} (h:LO x=LO y):x=y:=by
 obtain ⟨⟨a,b⟩,c⟩:=x;obtain ⟨⟨a',b'⟩,c'⟩:=y;injection h with h
 have h:=congrArg Array.toList h;simp only [List.cons.injEq,and_true] at h;obtain ⟨h1,h2,h3⟩:=h;injection h1 with h1
 injection h2 with h2
 have h2:=B1 (congrArg Array.toList h2)
 try dsimp only at h1 h2 h3
 rw [h1,h2,h3]
theorem Dc:∀ {a b:List eN},a.map LO=b.map LO->a=b
 | [],[],_=>rfl
 | x :: a, y :: b, h => by
  rw [ZZ,ZZ] at h;injection h with h1 h2
  rw [LN h1,Dc h2]
end Go.Proofs.A1
namespace Go.Proofs.A1
open Go Go.SL
end Go.Proofs.A1
namespace Go.Proofs.A1
open Go Go.SL

end Go.Proofs.A1
namespace Go.Proofs.A1
open Go Go.SL
end Go.Proofs.A1
namespace Go.Proofs.A1
open Go Go.SL
def He (r:Ro) (a b:ByteArray):Int:=aW [bQ (!fv (bW r) a) 10,X8 b,bQ (fv (bW r) b) 9]
def dM {α:Type} (f:α->α) (l:List α) (k:Nat):List α:=(l.take k).map f++l.drop k
theorem oK {α:Type} (f:α->α) (l:List α) (k:Nat):(dM f l k).length=l.length:=by
 unfold dM;rw [Zg,Zd,Zs,ZaS];omega
theorem mf {α:Type} (f:α->α) {l:List α} {k:Nat} (h:k<l.length):(dM f l k)[k]'(by rw [oK];exact h)=l[k]:=by
 unfold dM;rw [Zar (by rw [Zd,Zs];omega),List.getElem_drop];congr 1;rw [Zd,Zs];omega
theorem pO {α:Type} (f:α->α) {l:List α} {k:Nat} (h:k<l.length):(dM f l k).set k (f l[k])=dM f l (k+1):=by
 unfold dM;rw [Zbn _ _ (by rw [Zd,Zs];omega),Zd,Zs,Zn h,Zt,Zh,show k-min k l.length=0 by omega,Zu h]
 rfl
theorem rP {α:Type} (f:α->α) (l:List α):dM f l l.length=l.map f:=by
 unfold dM;rw [ZL,Z7,ZS]
theorem rA {α:Type} {cells:α->List Value} {sz:Nat} (hsz:∀ x,(cells x).length=sz) (l:List α) (cur:List Value) {k i:Nat} (h:k<l.length) (hi:i<sz) (v:Value) (y:α) (hy:cells y=(cells l[k]).set i v) :
  setCells ((l.map cells).flatten++cur) (k*sz+i) [v]=((l.set k y).map cells).flatten++cur:=by
 have hl:∀ (m:List α),((m.map cells).flatten).length=m.length*sz:=fun m=>by
  induction m with
  | nil=>simp
  | cons x m ih=>rw [ZZ,Zam,Zg,hsz,ih,ZI,Zab,Nat.add_comm]
 have hle:k*sz+i<l.length*sz:=by
  have:(k+1)*sz<=l.length*sz:=Z4 _ h;rw [Zab] at this;omega
 rw [j9 _ _ _ (by rw [Zg,hl];omega),Zbv _ _ (by rw [hl];exact hle)];congr 1;have e:l=l.take k++l[k]::l.drop (k+1):=by rw [<- Zu h,ZV]
 have ht:(((l.take k).map cells).flatten).length=k*sz:=by rw [hl,Zs,Zbd (by omega)]
 have hs:∀ (a:List α) (x:α) (b:List α),((a++x::b).map cells).flatten=(a.map cells).flatten++(cells x++(b.map cells).flatten):=fun a x b=>by simp
 rw [show l.set k y=l.take k++y::l.drop (k+1) by rw [List.set_eq_take_append_cons_drop,if_pos h],hs]
 conv=>lhs;rw [e,hs]
 rw [Zbn _ _ (by omega),ht,Nat.add_sub_cancel_left,Zbv _ _ (by rw [hsz];exact hi),hy]
theorem sJ {α:Type} {cells:α->List Value} {sz:Nat} (hsz:∀ x,(cells x).length=sz) (cur:List Value):∀ (l:List α) {k i:Nat} (h:k<l.length),i<sz->((l.map cells).flatten++cur)[k*sz+i]? = (cells l[k])[i]?
 | [],k,_,h,_=>absurd h (ZR _)
 | x :: l, 0, i, _, hi => by
  rw [ZZ,Zam,Zh,Zbt,ZH,ZD (by rw [hsz];exact hi)];rfl
 | x :: l, k + 1, i, h, hi => by
  have:=sJ hsz cur l (k:=k) (i:=i) (Nat.lt_of_succ_lt_succ h) hi;rw [ZZ,Zam,Zh,ZJ (by rw [hsz,Zab];omega),hsz,show (k+1)*sz+i-sz=k*sz+i by rw [Zab];omega,this];rfl
end Go.Proofs.A1
namespace Go.Proofs.A1
open Go Go.SL
open Tryz
open Tryz renaming prog->T_
theorem vC {g o p4 p5:Nat} {cs:List Value} {E:TypeId} {x a b:ByteArray} (ho:cs[o]? = some (.string x)) {w:World} {fp:List Nat} (jv:fp.Nodup) (hs:cC (hp w) [bo g (.cells cs.toArray E (0,0)),bo p4 (.cells #[.string a] 9 (0,0)),bo p5 (.cells #[.string b] 9 (0,0))] fp) :
  bb T_ 188 [.pointer (some ⟨g,o,none⟩),.p p4,.p p5] w fp (fun _:Unit=>True) (fun _=>.tuple #[]) (fun _=>[bo g (.cells (setCells cs o [.string (gX a b x)]).toArray E (0,0)),bo p4 (.cells #[.string a] 9 (0,0)),bo p5 (.cells #[.string b] 9 (0,0))]):=by
 have aN:o<cs.length:=(Zm.1 ho).1;have hle:o+1<=cs.length:=aN;obtain ⟨C1,XG⟩:∃ C,setCells cs o [.string b]=C:=⟨_,rfl⟩;have hC0:setCells cs o [.string x]=cs:=by
  rw [j9 _ _ _ aN];obtain ⟨h1,h2⟩:=Zm.1 ho;rw [<- h2];exact List.set_getElem_self h1
 refine dU func188 I I jv hs ?_;refine vg ?_
 with_reducible refine ef 5 (by kernel_rfl) ?_
 (refine lH I I<|aO (dA (.of I)) I<|aO (ag (.of I) (At.mW .here ho)) I<|aO (ie (.there .here)) I<|aO (ei (.of I) (.of I)) I ?_)
 with_reducible refine er ?_
 (refine Jn<|gB I (fun ar=>?_) fun ar=>?_;refine Jg<|Jv I<|JL I bF I<|ab (dA (.of I)) I<|an (.of I) (.of I) .here I I (eL I) hle XG<|Jx ?_;rotate_left;refine Jw ?_;rotate_right)
 ·rw [show gX a b x=b from if_pos ar,XG]
  with_reducible first|apply aR|apply aS
  case he=>exact nS I
  case hR=>
   intro w' aA;exact aD () trivial (by exact .h3 .nil) aA I
 ·rw [show gX a b x=x from if_neg ar,hC0]
  with_reducible first|apply aR|apply aS
  case he=>exact nS I
  case hR=>
   intro w' aA;exact aD () trivial (by exact .h3 .nil) aA I
end Go.Proofs.A1
namespace Go.Proofs.A1
open Go Go.SL
open Tryz
open Tryz renaming prog->T_
def MK (r:Ro) (a b:ByteArray):Int:=if ew r≠0 then ew r else He r a b
def NT (r:Ro) (a b:ByteArray):Ro:=if MK r a b≠0 then Ro.nil else r.kp a b
variable {r:Ro}
theorem Kd (hd:DB r) (s:ByteArray):(∃ x y z,(eA s (nw r)).getD (ke 0 0 0)=ke x y z)/\(eA s (nw r)).isSome=fv (bW r) s:=by
 rw [ny hd];cases fv (bW r) s
 ·exact ⟨⟨0,0,0,I⟩,I⟩
 ·exact ⟨⟨_,_,_,I⟩,I⟩
set_option maxHeartbeats 2000000 in
theorem H5 {s d t p:Value} (a b:ByteArray) {w:World} (h:RR w r s d t p) (cO:kE r) :
  bb T_ 80 [.agg #[.q r.lv,.q r.ma,s,d,t,p],.string a,.string b] w [] (fun _:Value×Value×Value×Value=>True) (fun x=>.tuple #[RA (NT r a b) x.1 x.2.1 x.2.2.1 x.2.2.2,.q (MK r a b)]) (fun x=>oA (NT r a b) x):=by
 obtain ⟨h1,h2,h3,h4⟩:=h.one;have hcr:∀ {w'},aK [] w w'->aj T_ 34 [.agg #[.int .i64 r.lv,.int .i64 r.ma,s,d,t,p]] w' (.int .i64 (ew r)):=fun hk=>dR (h.keeps hk) cO
 refine aT func80 I I ?_;refine Jr<|Jy I I fun _ _=>Jy I I fun _ _=>Jy I I fun _ _=>Jz I I fun _ _=>Ja I<|Jn<|Jq<|Jr<|ab (cK cA) I ?_;rename_i b3 uR b4 uQ b5 MY b6 hb6;by_cases dD:ew r=0
 rotate_left
 ·have hE:MK r a b=ew r:=if_pos dD;have hX:NT r a b=Ro.nil:=if_pos (by rw [hE];exact dD)
  (refine ai bz I (fun w' aA=>(hcr (Mem.keeps aA)))<|Ja I<|Ji<|Jv I<|JD I<|Jn<|Jd I fun ar=>Jr<|ab (aU .nil ak) I<|Jv I<|an (.of I) (.of I) .here I I (gr I I I I I I) (bG I) ak<|Ja I<|Jn<|Ju ?_)
  rw [hX,hE];refine aP 186 2 ?_;refine aP 90 3 ?_;refine aP 187 3 ?_;refine aP 188 3 ?_
  with_reducible first|apply aR|apply aS
  case he=>exact lC I inferInstance I df ak (by rfl) (by rfl)
  case hR=>
   intro w' aA;exact aD (.z,.z,.z,.z) trivial (by exact .cons cA (.cons bF (.cons (.there .here) (.h1 .nil)))) aA I
 have hE:MK r a b=He r a b:=if_neg (not_not_intro dD);have ee:=rO dD;have Xs:=kF ee ee.val;have jZ:=ee.Ii;obtain ⟨⟨x1,x2,x3,OZ⟩,hka⟩:=Kd jZ a;obtain ⟨⟨y1,y2,y3,Qn⟩,VK⟩:=Kd jZ b;have ab1:=ee.len;rw [dD] at hcr
 (refine ai bz I (fun w' aA=>(hcr (Mem.keeps aA)))<|Ja I<|Ji<|Jv I<|JD I<|Jn<|Jc I fun ar=>Jk<|Jr<|ab (cK cA) I ?_)
 refine JN bz I (fun w1 aG=>Am (h.keeps aG.keeps) (by omega)) ?_;rintro mb _
 try dsimp only [id_eq,Zb,Za]
 refine Ja I<|Ji<|Jv I<|JL I cA I ?_;refine ab (nr (.of I) (.of I) (Looks.mp (by exact .here)) OZ) I ?_;rw [hka];unfold ke
 (refine Jv I<|JJ I I<|JJ I I<|Jz I I fun _ _=>an (.of I) (.of I) .here I I (fq I I I) (bG I) ak<|Ja I<|Ji<|Jv I<|JL I cA I ?_)
 refine ab (nr (.of I) (.of I) (Looks.mp (by exact Take.there .here)) Qn) I ?_;rw [VK];unfold ke
 (refine Jv I<|JJ I I<|JJ I I<|Jz I I fun _ _=>an (.of I) (.of I) .here I I (fq I I I) (bG I) ak<|Ja I<|Jn<|Jq<|Jq ?_)
 with_reducible refine dP 12 (by kernel_rfl) ?_
 refine aq (fun β=>(aX (.of I))) br I ?_;refine aq (fun β=>(dX (.of I))) br I ?_;dsimp only [Nat.zero_add,Nat.reduceAdd]
 with_reducible apply cy (B:=[]) (F:=fun _=>.q (bQ (!fv (bW r) a) 10)) (args:=fun _=>[.bool (!fv (bW r) a),.q 10])
 case hB=>rfl
 case hr=>exact fun β=>aZ (.of I) ((.o I (.o I .nil))) inferInstance I
 case hi=>exact br
 case hd=>rfl
 case hc=>exact fun β w' hb=>dO _ _ _
 dsimp only [Nat.reduceAdd];refine aq (fun β=>(ag (.of I) (At.lit df I))) br I ?_;dsimp only [Nat.zero_add,Nat.reduceAdd]
 with_reducible apply cy (B:=[]) (F:=fun _=>.bool (fA b)) (args:=fun _=>[.string b])
 case hB=>rfl
 case hr=>exact fun β=>aZ (.of I) ((.o I .nil)) inferInstance I
 case hi=>exact br
 case hd=>rfl
 case hc=>exact fun β w' hb=>AA _ _
 dsimp only [Nat.reduceAdd];refine aq (fun β=>(dX (.of I))) br I ?_;dsimp only [Nat.zero_add,Nat.reduceAdd]
 with_reducible apply cy (B:=[]) (F:=fun _=>.q (bQ (!fA b) 8)) (args:=fun _=>[.bool (!fA b),.q 8])
 case hB=>rfl
 case hr=>exact fun β=>aZ (.of I) ((.o I (.o I .nil))) inferInstance I
 case hi=>exact br
 case hd=>rfl
 case hc=>exact fun β w' hb=>dO _ _ _
 dsimp only [Nat.reduceAdd];refine aq (fun β=>(aX (.of I))) br I ?_;dsimp only [Nat.zero_add,Nat.reduceAdd]
 with_reducible apply cy (B:=[]) (F:=fun _=>.q (bQ (fv (bW r) b) 9)) (args:=fun _=>[.bool (fv (bW r) b),.q 9])
 case hB=>rfl
 case hr=>exact fun β=>aZ (.of I) ((.o I (.o I .nil))) inferInstance I
 case hi=>exact br
 case hd=>rfl
 case hc=>exact fun β w' hb=>dO _ _ _
 dsimp only [Nat.reduceAdd];refine jN (fun β=>(aC (.o I (.o I (.o I .nil))) I I I I)) (fun _ _ _=>rfl) I ?_;dsimp only [Nat.reduceAdd]
 with_reducible apply cy (B:=[9]) (F:=fun _=>.q (He r a b)) (args:=fun β=>[.slice (some ⟨fk (β 9),0,none⟩) 3 3])
 case hB=>kernel_rfl
 case hr=>exact fun β=>aZ (.of I) (.o I .nil) inferInstance I
 case hi=>exact br
 case hd=>rfl
 case hc=>
  intro β w' hb;have m2:=hb.at 9 Zr (s:=⟨fun β=>.slice (some ⟨fk (β 9),0,none⟩) 3 3,fun β=>[bo (fk (β 9)) (.cells #[.q (bQ (!fv (bW r) a) 10),.q (bQ (!fA b) 8),.q (bQ (fv (bW r) b) 9)] 33 (0,0))]⟩) (by kernel_rfl)
  dsimp only [Zb,Za] at m2;exact Gu _ [bQ (!fv (bW r) a) 10,bQ (!fA b) 8,bQ (fv (bW r) b) 9] w' (Mem.dh m2 (by exact .here) I I)
 dsimp only [Nat.reduceAdd];refine aq (fun β=>(cS (.of I))) br I ?_;refine fo fun β=>?_;dsimp only [eB,Za,Zb,List.append_eq,Nat.reduceAdd];generalize fk (β 9)=g9;clear β
 with_reducible refine cM (by kernel_rfl) ?_
 refine cz [bo b6 (.cells #[.q 0,.q 0,.z,.z,.z,.z] 41 (0,0)),JP b3 r s d t p,bo b4 (.cells #[.string a] 9 (0,0)),bo b5 (.cells #[.string b] 9 (0,0))] (by exact .cons df (.cons kU (.cons eG (.cons df .nil)))) ?_;by_cases he:He r a b=0
 rotate_left
 ·have hX:NT r a b=Ro.nil:=if_pos (by rw [hE];exact he)
  (refine Jt<|Jr<|Jv I<|JD I<|Jn<|Jd I fun ar=>Jr<|ab (aU .nil ak) I<|Jv I<|an (.of I) (.of I) .here I I (gr I I I I I I) (bG I) ak<|Ja I<|Jn<|Ju ?_)
  rw [hX,hE];refine aP 186 2 ?_;refine aP 90 3 ?_;refine aP 187 3 ?_;refine aP 188 3 ?_
  with_reducible first|apply aR|apply aS
  case he=>exact lC I inferInstance I df ak (by rfl) (by rfl)
  case hR=>
   intro w' aA;exact aD (.z,.z,.z,.z) trivial (by exact .cons cA (.cons bF (.cons (.there .here) (.h1 .nil)))) aA I
 have hX:NT r a b=r.kp a b:=if_neg (by rw [hE];exact not_not_intro he);rw [hX,hE,he]
 (refine Jt<|Jr<|Jv I<|JD I<|Jn<|Jc I fun ar=>Jk<|Jr<|ab (bD .nil (.o I (.o I .nil))) I<|Ja I<|Ji<|ab (cK (.there .here)) I ?_)
 refine JN bz I (fun w1 aG=>uJ (h.keeps aG.keeps) cO (by omega)) ?_;rintro ⟨s1,d1,t1,p1⟩ _
 try dsimp only [id_eq,Zb,Za]
 unfold RA PB;refine cn (r:=r) (s:=s1) (d:=d1) (t:=t1) (p:=p1) (by unfold oA PB;exact .h4 .nil) fun k1 k2 k3 k4=>?_;refine aY (E:=186) (sz:=2) (v:=s1) (by exact .here) fun a0 c0 e=>?_;subst e;refine aY (E:=90) (sz:=3) (v:=d1) (by exact Take.there .here) fun a1 c1 e=>?_;subst e;refine aY (E:=187) (sz:=3) (v:=t1) bF fun a2 c2 e=>?_;subst e;refine aY (E:=188) (sz:=3) (v:=p1) cA fun a3 c3 e=>?_;subst e
 (refine Jz I I fun _ _=>an (.of I) (.of I) .here I I (gr I I I I I I) (bG I) ak<|Jn<|Jq<|Jr<|bP I I ae<|JL I .here I<|JI I<|Jv I<|Jn<|J0 ?_)
 rename_i xV aaP;refine a7 (ι:=Nat) (fun k=>k<=r.sr.length) (fun k=>[(62,.q (k:Nat)),(61,.q (r.sr.length:Nat)),(16,.p xV),(15,.func (.func 188) #[] #[.p b4,.p b5]),(3,.p b3),(6,.p b6)]) (fun k=>[JP xV r (.slice a0 r.sr.length c0) (.slice a1 r.de.length c1) (.slice a2 r.ti.length c2) (.slice a3 r.po.length c3),row 186 2 (.slice a0 r.sr.length c0) r.sr.length (kY (dM (ll a b) r.sr k)),row 90 3 (.slice a1 r.de.length c1) r.de.length (jQ r.de),row 187 3 (.slice a2 r.ti.length c2) r.ti.length (l6 r.ti),row 188 3 (.slice a3 r.po.length c3) r.po.length (gK r.po),JP b3 r s d t p,bo b4 (.cells #[.string a] 9 (0,0)),bo b5 (.cells #[.string b] 9 (0,0)),bo b6 (.cells #[.q 0,.q 0,.z,.z,.z,.z] 41 (0,0))]) (fun k=>r.sr.length-k) ?_ ?_
 ·apply aI 0 (show 0<=r.sr.length from Zi _)
  case hs1=>exact cu
  case ht=>
   exact .h5 (.cons (.there .here) (.cons (.there .here) (.cons (.there .here) (.h1 .nil))))
 intro k hk
 try dsimp only at hk ⊢
 by_cases aN:k<r.sr.length
 ·have wa:∀ i,(dM (ll a b) r.sr i).length=r.sr.length:=oK _ _;have hsz:∀ x:Sr,(Sr.cells x).length=2:=fun _=>rfl
  have By:k<(dM (ll a b) r.sr k).length:=by rw [wa];exact aN
  have xH:∀ l:List Sr,(kY l).length=l.length*2:=fun l=>zQ l
  refine cQ (E:=186) (sz:=2) (v:=(.slice a0 r.sr.length c0)) (by exact Take.there .here) (by omega) fun gd cap cur e Ll EV DL VU=>?_;cases e;have sU:=EV;unfold maxLen at sU;have iF:(kY (dM (ll a b) r.sr k)++cur)[k*2]? = some (.string r.sr[k].nm):=by
   have:=sJ hsz cur (dM (ll a b) r.sr k) (k:=k) (i:=0) By (by decide);rw [mf _ aN] at this;exact this
  have p0:setCells (kY (dM (ll a b) r.sr k)++cur) (k*2) [.string (gX a b r.sr[k].nm)]=kY (dM (ll a b) r.sr (k+1))++cur:=by
   rw [<- pO (ll a b) aN];exact rA hsz (dM (ll a b) r.sr k) cur (k:=k) (i:=0) By (by decide) _ (ll a b r.sr[k]) (by rw [mf _ aN];rfl)
  generalize r.sr[k].nm=x at iF p0
  (refine Jr<|JA I<|Jn<|Jq<|Jd I fun ar=>Jk<|Jq<|J0<|Jr<|Jv I<|Ja I<|Jn<|Jg<|Jv I<|bP I I ae<|JL I (.there .here) I<|Jv I<|ab (au (.of I) (.of I) I (by omega) ar bn) I<|bP I I ae ?_)
  with_reducible apply eH (As:=[bo gd (.cells (kY (dM (ll a b) r.sr k)++cur).toArray 186 (0,0)),bo b4 (.cells #[.string a] 9 (0,0)),bo b5 (.cells #[.string b] 9 (0,0))]) (ι:=Unit) (Φ:=fun _=>True) (val:=fun _=>.tuple #[]) (own:=fun _=>[bo gd (.cells (setCells (kY (dM (ll a b) r.sr k)++cur) (k*2) [.string (gX a b x)]).toArray 186 (0,0)),bo b4 (.cells #[.string a] 9 (0,0)),bo b5 (.cells #[.string b] 9 (0,0))])
  case hr=>exact bz
  case hd=>rfl
  case ht=>exact bj.cons (by exact .here) (bj.cons eG (bj.cons eG bj.nil))
  case hc=>exact fun w1 fp aG jv fV _ _=>vC iF jv fV
  rintro ⟨⟩ _;dsimp only [Zb,Za];rw [p0];have AS:(kY (dM (ll a b) r.sr (k+1))++cur).length=c0*2:=by rw [Zg,xH,wa] at DL ⊢;exact DL
  refine cH (n:=r.sr.length) (xs:=kY (dM (ll a b) r.sr (k+1))) (g:=gd) (E:=186) (sz:=2) (by exact .here) Ll EV AS (by rw [xH,wa]) ?_;refine Jx<|Jj<|Jt<|Jg<|JB I (by omega)<|Jv I<|Jn ?_;apply aL (k+1) (show k+1<=r.sr.length from aN) (show r.sr.length-(k+1)<r.sr.length-k by omega)
  case hs1=>exact cu
  case ht=>exact .cons cA (.h1 (.cons bF (.cons bF (.cons bF (.cons bF (.h3 .nil))))))
 obtain rfl:k=r.sr.length:=by omega
 rw [rP]
 (refine Jr<|JA I<|Jn<|Jq<|Jc I fun ar=>Jp<|Jl<|Jo<|Jt<|Jq<|Jr<|bP I I ae<|JL I .here I<|JI I<|Jv I<|Jn<|J0 ?_)
 refine a7 (ι:=Nat) (fun k=>k<=r.de.length) (fun k=>[(76,.q (k:Nat)),(75,.q (r.de.length:Nat)),(16,.p xV),(15,.func (.func 188) #[] #[.p b4,.p b5]),(3,.p b3),(6,.p b6)]) (fun k=>[JP xV r (.slice a0 r.sr.length c0) (.slice a1 r.de.length c1) (.slice a2 r.ti.length c2) (.slice a3 r.po.length c3),row 186 2 (.slice a0 r.sr.length c0) r.sr.length (kY (r.sr.map (ll a b))),row 90 3 (.slice a1 r.de.length c1) r.de.length (jQ (dM (lP a b) r.de k)),row 187 3 (.slice a2 r.ti.length c2) r.ti.length (l6 r.ti),row 188 3 (.slice a3 r.po.length c3) r.po.length (gK r.po),JP b3 r s d t p,bo b4 (.cells #[.string a] 9 (0,0)),bo b5 (.cells #[.string b] 9 (0,0)),bo b6 (.cells #[.q 0,.q 0,.z,.z,.z,.z] 41 (0,0))]) (fun k=>r.de.length-k) ?_ ?_
 ·apply aI 0 (show 0<=r.de.length from Zi _)
  case hs1=>exact cu
  case ht=>
   exact .h1 (.h8 .nil)
 intro k hk
 try dsimp only at hk ⊢
 by_cases aN:k<r.de.length
 ·have wa:∀ i,(dM (lP a b) r.de i).length=r.de.length:=oK _ _;have hsz:∀ x:De,(De.cells x).length=3:=fun _=>rfl
  have By:k<(dM (lP a b) r.de k).length:=by rw [wa];exact aN
  have xH:∀ l:List De,(jQ l).length=l.length*3:=fun l=>A7 l
  refine cQ (E:=90) (sz:=3) (v:=(.slice a1 r.de.length c1)) bF (by omega) fun gd cap cur e Ll EV DL VU=>?_;cases e;have sU:=EV;unfold maxLen at sU;have iF:(jQ (dM (lP a b) r.de k)++cur)[k*3]? = some (.string r.de[k].nm):=by
   have:=sJ hsz cur (dM (lP a b) r.de k) (k:=k) (i:=0) By (by decide);rw [mf _ aN] at this;exact this
  have p0:setCells (jQ (dM (lP a b) r.de k)++cur) (k*3) [.string (gX a b r.de[k].nm)]=jQ (dM (lP a b) r.de (k+1))++cur:=by
   rw [<- pO (lP a b) aN];exact rA hsz (dM (lP a b) r.de k) cur (k:=k) (i:=0) By (by decide) _ (lP a b r.de[k]) (by rw [mf _ aN];rfl)
  generalize r.de[k].nm=x at iF p0
  (refine Jr<|JA I<|Jn<|Jq<|Jd I fun ar=>Jk<|Jq<|J0<|Jr<|Jv I<|Ja I<|Jn<|Jg<|Jv I<|bP I I ae<|JL I (.there .here) I<|Jv I<|ab (au (.of I) (.of I) I (by omega) ar bn) I<|bP I I ae ?_)
  with_reducible apply eH (As:=[bo gd (.cells (jQ (dM (lP a b) r.de k)++cur).toArray 90 (0,0)),bo b4 (.cells #[.string a] 9 (0,0)),bo b5 (.cells #[.string b] 9 (0,0))]) (ι:=Unit) (Φ:=fun _=>True) (val:=fun _=>.tuple #[]) (own:=fun _=>[bo gd (.cells (setCells (jQ (dM (lP a b) r.de k)++cur) (k*3) [.string (gX a b x)]).toArray 90 (0,0)),bo b4 (.cells #[.string a] 9 (0,0)),bo b5 (.cells #[.string b] 9 (0,0))])
  case hr=>exact bz
  case hd=>rfl
  case ht=>exact bj.cons (by exact .here) (bj.cons eG (bj.cons eG bj.nil))
  case hc=>exact fun w1 fp aG jv fV _ _=>vC iF jv fV
  rintro ⟨⟩ _;dsimp only [Zb,Za];rw [p0];have AS:(jQ (dM (lP a b) r.de (k+1))++cur).length=c1*3:=by rw [Zg,xH,wa] at DL ⊢;exact DL
  refine cH (n:=r.de.length) (xs:=jQ (dM (lP a b) r.de (k+1))) (g:=gd) (E:=90) (sz:=3) (by exact .here) Ll EV AS (by rw [xH,wa]) ?_;refine Jx<|Jj<|Jt<|Jg<|JB I (by omega)<|Jv I<|Jn ?_;apply aL (k+1) (show k+1<=r.de.length from aN) (show r.de.length-(k+1)<r.de.length-k by omega)
  case hs1=>exact cu
  case ht=>exact .cons cA (.cons cA (.h1 (.cons bF (.cons bF (.cons bF (.h3 .nil))))))
 obtain rfl:k=r.de.length:=by omega
 rw [rP]
 (refine Jr<|JA I<|Jn<|Jq<|Jc I fun ar=>Jp<|Jl<|Jo<|Jt<|Jq<|Jr<|bP I I ae<|JL I .here I<|JI I<|Jv I<|Jn<|J0 ?_)
 refine a7 (ι:=Nat) (fun k=>k<=r.ti.length) (fun k=>[(90,.q (k:Nat)),(89,.q (r.ti.length:Nat)),(16,.p xV),(15,.func (.func 188) #[] #[.p b4,.p b5]),(3,.p b3),(6,.p b6)]) (fun k=>[JP xV r (.slice a0 r.sr.length c0) (.slice a1 r.de.length c1) (.slice a2 r.ti.length c2) (.slice a3 r.po.length c3),row 186 2 (.slice a0 r.sr.length c0) r.sr.length (kY (r.sr.map (ll a b))),row 90 3 (.slice a1 r.de.length c1) r.de.length (jQ (r.de.map (lP a b))),row 187 3 (.slice a2 r.ti.length c2) r.ti.length (l6 (dM (lO a b) r.ti k)),row 188 3 (.slice a3 r.po.length c3) r.po.length (gK r.po),JP b3 r s d t p,bo b4 (.cells #[.string a] 9 (0,0)),bo b5 (.cells #[.string b] 9 (0,0)),bo b6 (.cells #[.q 0,.q 0,.z,.z,.z,.z] 41 (0,0))]) (fun k=>r.ti.length-k) ?_ ?_
 ·apply aI 0 (show 0<=r.ti.length from Zi _)
  case hs1=>exact cu
  case ht=>
   exact .h1 (.h8 .nil)
 intro k hk
 try dsimp only at hk ⊢
 by_cases aN:k<r.ti.length
 ·have wa:∀ i,(dM (lO a b) r.ti i).length=r.ti.length:=oK _ _;have hsz:∀ x:Ti,(Ti.cells x).length=3:=fun _=>rfl
  have By:k<(dM (lO a b) r.ti k).length:=by rw [wa];exact aN
  have xH:∀ l:List Ti,(l6 l).length=l.length*3:=fun l=>zK l
  refine cQ (E:=187) (sz:=3) (v:=(.slice a2 r.ti.length c2)) cA (by omega) fun gd cap cur e Ll EV DL VU=>?_;cases e;have sU:=EV;unfold maxLen at sU;have iF:(l6 (dM (lO a b) r.ti k)++cur)[k*3]? = some (.string r.ti[k].nm):=by
   have:=sJ hsz cur (dM (lO a b) r.ti k) (k:=k) (i:=0) By (by decide);rw [mf _ aN] at this;exact this
  have p0:setCells (l6 (dM (lO a b) r.ti k)++cur) (k*3) [.string (gX a b r.ti[k].nm)]=l6 (dM (lO a b) r.ti (k+1))++cur:=by
   rw [<- pO (lO a b) aN];exact rA hsz (dM (lO a b) r.ti k) cur (k:=k) (i:=0) By (by decide) _ (lO a b r.ti[k]) (by rw [mf _ aN];rfl)
  generalize r.ti[k].nm=x at iF p0
  (refine Jr<|JA I<|Jn<|Jq<|Jd I fun ar=>Jk<|Jq<|J0<|Jr<|Jv I<|Ja I<|Jn<|Jg<|Jv I<|bP I I ae<|JL I (.there .here) I<|Jv I<|ab (au (.of I) (.of I) I (by omega) ar bn) I<|bP I I ae ?_)
  with_reducible apply eH (As:=[bo gd (.cells (l6 (dM (lO a b) r.ti k)++cur).toArray 187 (0,0)),bo b4 (.cells #[.string a] 9 (0,0)),bo b5 (.cells #[.string b] 9 (0,0))]) (ι:=Unit) (Φ:=fun _=>True) (val:=fun _=>.tuple #[]) (own:=fun _=>[bo gd (.cells (setCells (l6 (dM (lO a b) r.ti k)++cur) (k*3) [.string (gX a b x)]).toArray 187 (0,0)),bo b4 (.cells #[.string a] 9 (0,0)),bo b5 (.cells #[.string b] 9 (0,0))])
  case hr=>exact bz
  case hd=>rfl
  case ht=>exact bj.cons (by exact .here) (bj.cons eG (bj.cons eG bj.nil))
  case hc=>exact fun w1 fp aG jv fV _ _=>vC iF jv fV
  rintro ⟨⟩ _;dsimp only [Zb,Za];rw [p0];have AS:(l6 (dM (lO a b) r.ti (k+1))++cur).length=c2*3:=by rw [Zg,xH,wa] at DL ⊢;exact DL
  refine cH (n:=r.ti.length) (xs:=l6 (dM (lO a b) r.ti (k+1))) (g:=gd) (E:=187) (sz:=3) (by exact .here) Ll EV AS (by rw [xH,wa]) ?_;refine Jx<|Jj<|Jt<|Jg<|JB I (by omega)<|Jv I<|Jn ?_;apply aL (k+1) (show k+1<=r.ti.length from aN) (show r.ti.length-(k+1)<r.ti.length-k by omega)
  case hs1=>exact cu
  case ht=>exact .cons cA (.cons cA (.cons cA (.h1 (.cons bF (.cons bF (.h3 .nil))))))
 obtain rfl:k=r.ti.length:=by omega
 rw [rP]
 (refine Jr<|JA I<|Jn<|Jq<|Jc I fun ar=>Jp<|Jl<|Jo<|Jt<|Jq<|Jr<|bP I I ae<|JL I .here I<|JI I<|Jv I<|Jn<|J0 ?_)
 refine a7 (ι:=Nat) (fun k=>k<=r.po.length) (fun k=>[(104,.q (k:Nat)),(103,.q (r.po.length:Nat)),(16,.p xV),(15,.func (.func 188) #[] #[.p b4,.p b5]),(3,.p b3),(6,.p b6)]) (fun k=>[JP xV r (.slice a0 r.sr.length c0) (.slice a1 r.de.length c1) (.slice a2 r.ti.length c2) (.slice a3 r.po.length c3),row 186 2 (.slice a0 r.sr.length c0) r.sr.length (kY (r.sr.map (ll a b))),row 90 3 (.slice a1 r.de.length c1) r.de.length (jQ (r.de.map (lP a b))),row 187 3 (.slice a2 r.ti.length c2) r.ti.length (l6 (r.ti.map (lO a b))),row 188 3 (.slice a3 r.po.length c3) r.po.length (gK (dM (jt a b) r.po k)),JP b3 r s d t p,bo b4 (.cells #[.string a] 9 (0,0)),bo b5 (.cells #[.string b] 9 (0,0)),bo b6 (.cells #[.q 0,.q 0,.z,.z,.z,.z] 41 (0,0))]) (fun k=>r.po.length-k) ?_ ?_
 ·apply aI 0 (show 0<=r.po.length from Zi _)
  case hs1=>exact cu
  case ht=>
   exact .h1 (.h8 .nil)
 intro k hk
 try dsimp only at hk ⊢
 by_cases aN:k<r.po.length
 ·have wa:∀ i,(dM (jt a b) r.po i).length=r.po.length:=oK _ _;have hsz:∀ x:Po,(Po.cells x).length=3:=fun _=>rfl
  have By:k<(dM (jt a b) r.po k).length:=by rw [wa];exact aN
  have xH:∀ l:List Po,(gK l).length=l.length*3:=fun l=>jg l
  refine cQ (E:=188) (sz:=3) (v:=(.slice a3 r.po.length c3)) df (by omega) fun gd cap cur e Ll EV DL VU=>?_;cases e;have sU:=EV;unfold maxLen at sU;have iF:(gK (dM (jt a b) r.po k)++cur)[k*3+1]? = some (.string r.po[k].ou):=by
   have:=sJ hsz cur (dM (jt a b) r.po k) (k:=k) (i:=1) By (by decide);rw [mf _ aN] at this;exact this
  have p0:setCells (gK (dM (jt a b) r.po k)++cur) (k*3+1) [.string (gX a b r.po[k].ou)]=gK ((dM (jt a b) r.po k).set k ⟨r.po[k].lv,gX a b r.po[k].ou,r.po[k].ip⟩)++cur:=
   rA hsz (dM (jt a b) r.po k) cur (k:=k) (i:=1) By (by decide) _ _ (by rw [mf _ aN];rfl)
  have OX:k<((dM (jt a b) r.po k).set k ⟨r.po[k].lv,gX a b r.po[k].ou,r.po[k].ip⟩).length:=by rw [List.length_set];exact By
  have Lu:(gK ((dM (jt a b) r.po k).set k ⟨r.po[k].lv,gX a b r.po[k].ou,r.po[k].ip⟩)++cur)[k*3+2]? = some (.string r.po[k].ip):=by
   have:=sJ hsz cur ((dM (jt a b) r.po k).set k ⟨r.po[k].lv,gX a b r.po[k].ou,r.po[k].ip⟩) (k:=k) (i:=2) OX (by decide);rw [List.getElem_set_self] at this;exact this
  have p2:setCells (gK ((dM (jt a b) r.po k).set k ⟨r.po[k].lv,gX a b r.po[k].ou,r.po[k].ip⟩)++cur) (k*3+2) [.string (gX a b r.po[k].ip)]=gK (dM (jt a b) r.po (k+1))++cur:=by
   have e9:dM (jt a b) r.po (k+1)=((dM (jt a b) r.po k).set k ⟨r.po[k].lv,gX a b r.po[k].ou,r.po[k].ip⟩).set k (jt a b r.po[k]):=by rw [List.set_set,pO (jt a b) aN]
   rw [e9];exact rA hsz _ cur (k:=k) (i:=2) OX (by decide) (.string (gX a b r.po[k].ip)) (jt a b r.po[k]) (by rw [List.getElem_set_self];rfl)
  generalize r.po[k].ou=x at iF p0 OX Lu p2;generalize r.po[k].ip=y at iF p0 OX Lu p2
  (refine Jr<|JA I<|Jn<|Jq<|Jd I fun ar=>Jk<|Jq<|J0<|Jr<|Jv I<|Ja I<|Ji<|Jv I<|bP I I ae<|JL I (.there .here) I<|Jv I<|ab (au (.of I) (.of I) I (by omega) ar bn) I<|bP I I ae ?_)
  with_reducible apply eH (As:=[bo gd (.cells (gK (dM (jt a b) r.po k)++cur).toArray 188 (0,0)),bo b4 (.cells #[.string a] 9 (0,0)),bo b5 (.cells #[.string b] 9 (0,0))]) (ι:=Unit) (Φ:=fun _=>True) (val:=fun _=>.tuple #[]) (own:=fun _=>[bo gd (.cells (setCells (gK (dM (jt a b) r.po k)++cur) (k*3+1) [.string (gX a b x)]).toArray 188 (0,0)),bo b4 (.cells #[.string a] 9 (0,0)),bo b5 (.cells #[.string b] 9 (0,0))])
  case hr=>exact bz
  case hd=>rfl
  case ht=>exact bj.cons (by exact .here) (bj.cons eG (bj.cons eG bj.nil))
  case hc=>exact fun w1 fp aG jv fV _ _=>vC iF jv fV
  rintro ⟨⟩ _;dsimp only [Zb,Za];rw [p0]
  (refine Jn<|Jg<|Jv I<|bP I I ae<|JL I cA I<|Jv I<|ab (au (.of I) (.of I) I (by omega) ar bn) I<|bP I I ae ?_)
  with_reducible apply eH (As:=[bo gd (.cells (gK ((dM (jt a b) r.po k).set k ⟨r.po[k].lv,gX a b x,y⟩)++cur).toArray 188 (0,0)),bo b4 (.cells #[.string a] 9 (0,0)),bo b5 (.cells #[.string b] 9 (0,0))]) (ι:=Unit) (Φ:=fun _=>True) (val:=fun _=>.tuple #[]) (own:=fun _=>[bo gd (.cells (setCells (gK ((dM (jt a b) r.po k).set k ⟨r.po[k].lv,gX a b x,y⟩)++cur) (k*3+2) [.string (gX a b y)]).toArray 188 (0,0)),bo b4 (.cells #[.string a] 9 (0,0)),bo b5 (.cells #[.string b] 9 (0,0))])
  case hr=>exact bz
  case hd=>rfl
  case ht=>exact bj.cons (by exact .here) (bj.cons (by exact .here) (bj.cons (by exact .here) bj.nil))
  case hc=>exact fun w1 fp aG jv fV _ _=>vC Lu jv fV
  rintro ⟨⟩ _;dsimp only [Zb,Za];rw [p2];have AS:(gK (dM (jt a b) r.po (k+1))++cur).length=c3*3:=by rw [Zg,xH,wa] at DL ⊢;exact DL
  refine cH (n:=r.po.length) (xs:=gK (dM (jt a b) r.po (k+1))) (g:=gd) (E:=188) (sz:=3) (by exact .here) Ll EV AS (by rw [xH,wa]) ?_;refine Jx<|Jj<|Jt<|Jg<|JB I (by omega)<|Jv I<|Jn ?_;apply aL (k+1) (show k+1<=r.po.length from aN) (show r.po.length-(k+1)<r.po.length-k by omega)
  case hs1=>exact cu
  case ht=>exact .cons cA (.cons cA (.cons cA (.cons cA (.h1 (.cons bF (.h3 .nil))))))
 obtain rfl:k=r.po.length:=by omega
 rw [rP]
 (refine Jr<|JA I<|Jn<|Jq<|Jc I fun ar=>Jp<|Jl<|Jo<|Jt<|Jr<|ab (cK .here) I<|an (.of I) (.of I) fW I I (gr I I I I I I) (bG I) ak<|Ja I<|Jn<|Je ?_)
 have e1:(r.kp a b).sr.length=r.sr.length:=Zd _;have e2:(r.kp a b).de.length=r.de.length:=Zd _;have e3:(r.kp a b).ti.length=r.ti.length:=Zd _;have e4:(r.kp a b).po.length=r.po.length:=Zd _
 with_reducible first|apply aR|apply aS
 case he=>exact lC I inferInstance I .here ak (by rfl) (by rfl)
 case hR=>
  intro w' aA;exact aD ((.slice a0 r.sr.length c0),(.slice a1 r.de.length c1),(.slice a2 r.ti.length c2),(.slice a3 r.po.length c3)) trivial (show bj _ [row 186 2 (.slice a0 r.sr.length c0) (r.kp a b).sr.length (kY (r.sr.map (ll a b))),row 90 3 (.slice a1 r.de.length c1) (r.kp a b).de.length (jQ (r.de.map (lP a b))),row 187 3 (.slice a2 r.ti.length c2) (r.kp a b).ti.length (l6 (r.ti.map (lO a b))),row 188 3 (.slice a3 r.po.length c3) (r.kp a b).po.length (gK (r.po.map (jt a b)))] _ by rw [e1,e2,e3,e4];exact .cons bF (.cons bF (.cons bF (.cons bF .nil)))) aA I
end Go.Proofs.A1
namespace Go.Proofs
open Go.Shelf
def Tryz.CL:Go.Shelf.Ren:=⟨fun | 212=>269 | 263=>321 | 264=>322 | n=>n,fun | 46=>318 | 51=>381 | 146=>390 | 53=>383 | 148=>392 | n=>n,fun | n=>n⟩
theorem Tryz.Oz:Go.Proofs.Lays.n212 Tryz.prog Tryz.CL:={
 mixed:=by kernel_rfl
 f212:=Tryz.func269.trans (congrArg some (by kernel_rfl))
 f263:=Tryz.func321.trans (congrArg some (by kernel_rfl))
 f264:=Tryz.func322.trans (congrArg some (by kernel_rfl))
 t46:=Tryz.underlying318
 a46:=Tryz.isAgg318
 z46:=Tryz.sizeOf318
 v46:=Tryz.zeroValue318
 t51:=Tryz.underlying381
 a51:=Tryz.isAgg381
 z51:=Tryz.sizeOf381
 v51:=Tryz.zeroValue381
 t53:=Tryz.underlying383
 a53:=Tryz.isAgg383
 z53:=Tryz.sizeOf383
 v53:=Tryz.zeroValue383
 t146:=Tryz.underlying390
 a146:=Tryz.isAgg390
 z146:=Tryz.sizeOf390
 v146:=Tryz.zeroValue390
 t148:=Tryz.underlying392
 a148:=Tryz.isAgg392
 z148:=Tryz.sizeOf392
 v148:=Tryz.zeroValue392 }
open Go.RowKit Go.Lib in
theorem Tryz.bits_Mul (x y:Nat) (hx:x<18446744073709551616) (hy:y<18446744073709551616) (w:World) :
  Calls Tryz.prog 269 #[.int .u64 x,.int .u64 y] w fun e w'=>e=.returned (.tuple #[.int .u64 ((x*y / 18446744073709551616:Nat):Int),.int .u64 ((x*y % 18446744073709551616:Nat):Int)])/\w'=w:=Any.bits_Mul Tryz.Oz x y hx hy w
end Go.Proofs
