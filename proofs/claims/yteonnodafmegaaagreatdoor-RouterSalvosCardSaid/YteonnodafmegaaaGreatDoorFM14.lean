/- Parts of the proof: P6e LZ MA MB MC PS P6d MD ME MF PC MG MH MI P6f P6g ML MM MN MO. -/
import Derived.Test.YteonnodafmegaaaGreatDoorFM13
import Derived.Test.YteonnodafmegaaaGreatDoorFM04
import Derived.Test.YteonnodafmegaaaGreatDoorFM12
import Derived.Test.YteonnodafmegaaaGreatDoorFM06
import Derived.Test.YteonnodafmegaaaGreatDoorFM09
import Derived.Test.YteonnodafmegaaaGreatDoorFM03
set_option linter.unusedSectionVars false
set_option linter.unusedVariables false
set_option linter.unusedSimpArgs false
namespace Go.Proofs.A1
open Go Go.SL
open Tryz
open Tryz renaming prog->T_
def AW (r:Ro) (k:Nat):Int:=((eI r)[k]?.map fun x=>aZ [cn (!k7 x) 8,cn (jL ((eI r).take k) x) 9]).getD 0
variable {L:List Po} {c:Cx} {d:Value} {hs hs':List bd} {k:Nat} {l:List Po} {lv p:Value} {q:Int->Ti->Bool} {r:Ro} {s:Value} {sl:aL} {so:ByteArray} {t:Value} {v:Int} {w:World} {x:Po}
theorem OQ (h:k<(eI r).length):AW r k=aZ [cn (!k7 (eI r)[k]) 8,cn (jL ((eI r).take k) (eI r)[k]) 9]:=by
 unfold AW;rw [Zc h];rfl
theorem uj (a b:Int) (l:List Int):aZ (aZ [a,b]::l)=aZ (a::b::l):=by
 by_cases ha:a=0
 ·subst ha;have e:aZ [0,b]=b:=by
   unfold aZ;rw [if_neg (by decide)];unfold aZ;split
   ·rfl
   ·rename_i q;rw [Zo] at q;rw [q];rfl
  rw [e]
  conv=>rhs;unfold aZ
  rw [if_neg (by decide)]
 ·have e:aZ [a,b]=a:=by unfold aZ;rw [if_pos ha]
  rw [e];unfold aZ;rw [if_pos ha,if_pos ha]
theorem Fe (a b:Int) (l:List Int):aZ [a,b,aZ l]=aZ (a::b::l):=by
 have h1:∀ x:Int,∀ m,aZ (x::m)=if x≠0 then x else aZ m:=fun x m=>by rw [aZ]
 have h2:∀ x:Int,aZ [x]=x:=fun x=>by
  rw [h1];split
  ·rfl
  ·rename_i q;rw [Zo] at q;rw [q];rfl
 rw [h1,h1 b,h2,h1 a,h1 b]
theorem Nk (r:Ro):(eI r).length=r.sr.length+r.de.length+r.ti.length:=by
 unfold eI cK cy cR;simp only [Zg,Zd]
theorem Nj (h:k<r.sr.length):(eI r)[k]? = some (r.sr[k]).nm/\(eI r).take k=[]++(r.sr.take k).map Sr.nm:=by
 have e1:(cK r).length=r.sr.length:=by unfold cK;rw [Zd]
 unfold eI;rw [Zh];refine ⟨?_,?_⟩
 ·rw [ZD (by omega)];unfold cK;rw [ZI,Zc h];rfl
 ·rw [Zai (by omega)];unfold cK;rw [Zba];rfl
theorem Nl (h:k<r.de.length):(eI r)[r.sr.length+k]? = some (r.de[k]).nm/\(eI r).take (r.sr.length+k)=cK r++(r.de.take k).map De.nm:=by
 have e1:(cK r).length=r.sr.length:=by unfold cK;rw [Zd]
 have e2:(cy r).length=r.de.length:=by unfold cy;rw [Zd]
 unfold eI;rw [Zh];refine ⟨?_,?_⟩
 ·rw [ZH (by omega),ZD (by omega),show r.sr.length+k-(cK r).length=k by omega];unfold cy;rw [ZI,Zc h];rfl
 ·rw [<- e1,List.take_length_add_append,Zai (by omega)];unfold cy;rw [Zba]
theorem Ni (h:k<r.ti.length):(eI r)[r.sr.length+r.de.length+k]? = some (r.ti[k]).nm/\(eI r).take (r.sr.length+r.de.length+k)=(cK r++cy r)++(r.ti.take k).map Ti.nm:=by
 have e1:(cK r++cy r).length=r.sr.length+r.de.length:=by unfold cK cy;rw [Zg,Zd,Zd]
 have e2:(cR r).length=r.ti.length:=by unfold cR;rw [Zd]
 unfold eI;refine ⟨?_,?_⟩
 ·rw [ZH (by omega),e1,show r.sr.length+r.de.length+k-(r.sr.length+r.de.length)=k by omega];unfold cR;rw [ZI,Zc h];rfl
 ·rw [<- e1,List.take_length_add_append];unfold cR;rw [Zba]
theorem EE {j:Nat} {x:ByteArray} {l:List ByteArray} (h:(eI r)[j]? = some x) (h2:(eI r).take j=l):AW r j=aZ [cn (!k7 x) 8,cn (jL l x) 9]:=by
 unfold AW;rw [h,h2];rfl
theorem Wb (h:k<r.sr.length):aZ [AW r k,fM r (r.sr[k]).mx]=yu [] Sr.nm (fun x=>fM r x.mx) r.sr k:=by
 rw [pI h,EE (Nj h).1 (Nj h).2,uj]
theorem Wc (h:k<r.de.length):aZ [AW r (r.sr.length+k),fM r (r.de[k]).mx]=yu (cK r) De.nm (fun x=>fM r x.mx) r.de k:=by
 rw [pI h,EE (Nl h).1 (Nl h).2,uj]
theorem Wa (h:k<r.ti.length):aZ [AW r (r.sr.length+r.de.length+k),fM r (r.ti[k]).fr,fM r (r.ti[k]).to,cn (decide ((r.ti[k]).fr=(r.ti[k]).to)) 24]=yu (cK r++cy r) Ti.nm (oU r) r.ti k:=by
 rw [pI h,EE (Ni h).1 (Ni h).2,uj];unfold oU;rw [Fe]
theorem EF (h1:fK 8 [] Sr.nm (fun x=>fM r x.mx) r.sr=0) (h2:fK 8 (cK r) De.nm (fun x=>fM r x.mx) r.de=0):kK r=fK 6 (cK r++cy r) Ti.nm (oU r) r.ti:=by
 rw [Yw h1 h2];unfold aZ;split
 ·rfl
 ·rename_i q;rw [Zo] at q;rw [q];rfl
theorem SZ (hm:Mem c hs w) {g gc:Nat} {L:List ByteArray} {cur:List Value} {E:TypeId} {fz:Nat×Nat} (ht:Take hs (bz g (.cells (aP L++cur).toArray E fz)) hs') (hc:L.length<=gc) (hx:gc<=maxLen):Rd w (.w g L.length gc) 1 (gT L):=by
 refine ⟨_,gc,g,0,by rw [bF],by rw [bF];exact hc,hx,fun _=>rfl,fun i r hr=>?_⟩;have hi:=(Zl.1 hr).1;rw [bF] at hi;rw [fw hi] at hr;obtain rfl:=Option.some.inj hr;refine ⟨I,fun j u hu=>?_⟩;cases j with
 | zero =>
  simp only [ZaG,Option.some.injEq] at hu;subst hu;rw [cell_of_block (hm.bz ht)];simp [aP,ZD,hi]
 | succ j=>simp at hu
theorem KT (hm:Mem c hs w) {g gc:Nat} {L:List ByteArray} {cur:List Value} {E:TypeId} {fz:Nat×Nat} (ht:Take hs (bz g (.cells (aP L++cur).toArray E fz)) hs') (hc:L.length<=gc) (hx:gc<=maxLen) {k:Nat} (hk:k<=L.length):Rd w (Go.sliced (some ⟨g,0,none⟩) 0 (k:Int).toNat gc 1) 1 (gT (L.take k)):=by
 have:=(SZ hm ht hc hx).sliced (l:=0) (m:=k) (Zi _) hk;rw [ZL];rwa [List.drop_zero,show (gT L).take k=gT (L.take k) by unfold gT;rw [Zba]] at this
theorem MV (m:Int) {w w1:World} (h:RR w1 r s d t p):ak T_ 162 [RA r s d t p,.q m] w (.q (fM r m)):=by
 obtain ⟨h1,h2,h3,h4⟩:=h.one;unfold RA;refine ah func162 I I ?_
 (refine Jr<|Jy I I fun _ _=>Ja I<|Ji<|Jv I<|JA I<|Jv I<|jz I I I I<|aH I I inferInstance (fun hg bE=>(aq (.of I) ae)) I<|aH I I inferInstance (fun hg bE=>(ag (.bM hg I) (At.lit .here I))) I<|aH I I inferInstance (fun hg bE=>(AR (.bM hg I) (.bM hg I))) I<|ab (bH (.of I) I) I<|aj bb I (fun w' aB=>(l8 _ 10 w'))<|Ja I<|Jn<|Je<|JT ?_)
 rfl
theorem DF (k:Nat) {w:World} (h:RR w r s d t p) (hf:kE r) (hk:k<(eI r).length):ak T_ 229 [RA r s d t p,.q (k:Nat)] w (.q (AW r k)):=by
 obtain ⟨h1,h2,h3,h4⟩:=h.one;have zN:∀ w',aJ [] w w'->bh T_ 77 [.agg #[.int .i64 r.lv,.int .i64 r.ma,s,d,t,p]] w' [] (fun _:Value=>True) id (fun x=>[row 9 1 x (eI r).length (aP (eI r))]):=fun w' hk=>Gp (h.keeps hk) hf
 rw [OQ hk];have vG:(eI r).length<=3000000:=by
  obtain ⟨f1,f2,f3,f4⟩:=hf;unfold eI cK cy cR;simp only [Zg,Zd];omega
 generalize eI r=L at zN hk vG ⊢;have hkk:k<=L.length:=by omega
 unfold RA;refine ah func229 I I ?_;refine Jr<|Jy I I fun _ _=>Ja I<|Ji<|ab (cm .here) I ?_;refine JN bN I (fun w1 aT=>zN w1 aT.keeps) ?_;intro x _;dsimp only [id_eq,Zb,Za];refine dA (E:=9) (sz:=1) (v:=x) (by exact .here) (by omega) ?_;rintro g gc cur e dy Bm _ _;subst e;have jA:(aP L++cur)[k*1]? = some (.string L[k]):=si L cur hk;refine Ja I<|Jn<|Jq ?_
 with_reducible refine di 15 (by kernel_rfl) ?_
 (refine az mB I ?_;refine az mB I ?_;refine az (an (.of I) (.of I) I (by omega) (by omega) aW) I ?_;refine az (ag (.of I) (At.mJ .here jA)) I ?_;refine aY bN I (fun w' aB=>(aaD _ w')) ?_;refine az mB I ?_;refine az mB I ?_;refine az (iZ (.of I) (.of I) (by omega) (by omega)) I ?_;refine az mB I ?_;refine az mB I ?_;refine az (an (.of I) (.of I) I (by omega) (by omega) aW) I ?_;refine az (ag (.of I) (At.mJ .here jA)) I ?_;refine aY bb I (fun w' aB=>(Mo _ (KT aB .here dy Bm hkk))) ?_;refine aY bb I (fun w' aB=>(l8 _ 9 w')) ?_;refine eN (aD (.o I (.o I .nil)) I I I I) I I ?_)
 with_reducible refine dN I fun bq nf=>?_
 (refine aj bN I (fun w' aB=>(mm (Mem.dH aB .here I I) (cg.cons (cg.cons cg.nil))))<|Ja I<|Jn<|Je<|JT ?_)
 rfl
set_option maxHeartbeats 1000000 in
theorem BG (h:RR w r s d t p) (hf:kE r):ak T_ 127 [RA r s d t p] w (.q (kK r)):=by
 obtain ⟨h1,h2,h3,h4⟩:=h.one;have TV:∀ k,k<(eI r).length->∀ w',aJ [] w w'->ak T_ 229 [.agg #[.int .i64 r.lv,.int .i64 r.ma,s,d,t,p],.int .i64 (k:Nat)] w' (.int .i64 (AW r k)):=fun k hk w' hkk=>DF k (h.keeps hkk) hf hk
 have gD:∀ (m:Int) {w'},aJ [] w w'->ak T_ 162 [.agg #[.q r.lv,.q r.ma,s,d,t,p],.q m] w' (.q (fM r m)):=fun m _ hk=>MV m (h.keeps hk)
 have dK:=Nk r;have C9:=h.sr;have Dk:=h.de;have yy:=h.ti;obtain ⟨a1,ei,IW,IL,rfl,oP,iI,lF,kS⟩:=C9;obtain ⟨a2,db,IV,IK,rfl,kq,eU,jB,kr⟩:=Dk;obtain ⟨a3,dV,G1,Gj,rfl,nb,gC,se,o9⟩:=yy;rw [ct] at *;rw [bY] at *;rw [bQ] at *;unfold maxLen at iI eU gC;obtain ⟨f1,f2,f3,f4⟩:=hf;unfold RA;refine ah func127 I I ?_
 (refine Jr<|Jy I I fun _ _=>Ja I<|Ji<|Ja I<|Jn<|Jq<|Jr<|bG I I ae<|JL I .here I<|JI I<|JE I<|Jn<|gG I (fun au=>?_) fun au=>?_;refine Jr<|Ja I<|Jn<|Ju<|JT ?_;rotate_left;refine Jk<|Jq<|Jr<|Ja I<|Jn<|J0 ?_;rotate_right)
 ·skip
  have e:fK 8 [] Sr.nm (fun x=>fM r x.mx) r.sr=5:=by unfold fK;rw [if_pos (show (8:Int)<(r.sr.length:Int) by omega)]
  rw [po1 (by rw [e];decide),e]
 rename_i b1 r9;refine aV (ι:=Nat) (fun x=>x<=r.sr.length/\∀ i,i<x->yu [] Sr.nm (fun x=>fM r x.mx) r.sr i=0) (fun x=>[(4,.q (x:Nat)),(3,.q ((x:Nat):Int)),(1,.p b1)]) (fun x=>[JQ b1 r (.slice a1 r.sr.length ei) (.slice a2 r.de.length db) (.slice a3 r.ti.length dV) p]) (fun x=>r.sr.length-x) ?_ ?_
 ·apply aI (0:Nat) ⟨Zi _,fun i h=>absurd h (ZU _)⟩
  case hs1=>exact bS
  case ht=>(try simp only [Ze,Zf,Za]);exact .h1 .nil
 rintro k ⟨hk,hz⟩;by_cases aM:k<r.sr.length
 ·have cu:=lF (iK aM);obtain ⟨gi,aC⟩:=kS k _ (fV aM);unfold Sr.cells at aC;have cc0:=aC 0 _ I;have cc1:=aC 1 _ I;have TW:=TV (k) (by omega);have hq:=Wb (r:=r) aM
  (refine Jq<|Jr<|Jv I<|bG I I ae<|JL I .here I<|JI I<|JA I<|Jn<|Jd I fun au=>Jk<|Jq<|J0<|Jq<|Jq ?_)
  with_reducible refine di 12 (by kernel_rfl) ?_
  (refine az (cm .here) I<|az mB I<|aY bb I (fun w' aB=>(TW w' (Mem.keeps aB)))<|az (cm .here) I<|az lV I<|az (iB .here) I<|az mB I<|az (fY cu au) I<|az lV I<|az (ag (.of I) (At.base cc1 I)) I<|aY bb I (fun w' aB=>(gD _ (Mem.keeps aB)))<|eN (aD (.o I (.o I .nil)) I I I I) I I ?_)
  with_reducible refine dN I fun bq nf=>?_
  (refine aj bN I (fun w' aB=>(mm (Mem.dH aB .here I I) (cg.cons (cg.cons cg.nil))))<|Ja I<|Ji<|Jv I<|JD I<|Jn<|gG I (fun au=>?_) fun au=>?_;refine Jr<|Jv I<|Ja I<|Jn<|Ju<|Jm<|Jh<|Jh<|Jm<|Jh<|JT ?_;rotate_left;refine Jk<|Jg<|Jv I<|JB I (by omega)<|Ja I<|Jx<|Jj<|Jt<|Jg<|Jv I<|JB I (by omega)<|Ja I<|Jn ?_;rotate_right)
  ·rw [hq] at au ⊢;have hb:fK 8 [] Sr.nm (fun x=>fM r x.mx) r.sr=yu [] Sr.nm (fun x=>fM r x.mx) r.sr k:=by unfold fK;rw [if_neg (by omega)];exact fI hz aM au
   rw [po1 (by rw [hb];exact au),hb]
  have LN:yu [] Sr.nm (fun x=>fM r x.mx) r.sr k=0:=by rw [<- hq];exact Zo.1 au
  apply aG (k+1) ⟨(show k+1<=r.sr.length from aM),fun i hi=>by
   by_cases e:i=k
   ·rw [e];exact LN
   ·exact hz i (by omega)⟩ (show r.sr.length-(k+1)<r.sr.length-k by omega)
  case hs1=>exact bS
  case ht=>(try simp only [Ze,Zf,Za]);exact .cons (.there .here) .nil
 obtain rfl:k=r.sr.length:=by omega
 have z1:fK 8 [] Sr.nm (fun x=>fM r x.mx) r.sr=0:=by unfold fK;rw [if_neg (by omega)];exact ew.2 hz
 clear hk aM hz
 (refine Jq<|Jr<|Jv I<|bG I I ae<|JL I .here I<|JI I<|JA I<|Jn<|Jc I fun au=>Jp<|Jl<|Jo<|Jt<|Jq<|Jr<|bG I I ae<|JL I .here I<|JI I<|JE I<|Jn<|gG I (fun au=>?_) fun au=>?_;refine Jr<|Ja I<|Jn<|Ju<|JT ?_;rotate_left;refine Jk<|Jq<|Jr<|Ja I<|Jn<|J0 ?_;rotate_right)
 ·have e:fK 8 (cK r) De.nm (fun x=>fM r x.mx) r.de=5:=by unfold fK;rw [if_pos (show (8:Int)<(r.de.length:Int) by omega)]
  rw [po2 z1 (by rw [e];decide),e]
 refine aV (ι:=Nat) (fun x=>x<=r.de.length/\∀ i,i<x->yu (cK r) De.nm (fun x=>fM r x.mx) r.de i=0) (fun x=>[(6,.q (x:Nat)),(3,.q ((r.sr.length+x:Nat):Int)),(1,.p b1)]) (fun x=>[JQ b1 r (.slice a1 r.sr.length ei) (.slice a2 r.de.length db) (.slice a3 r.ti.length dV) p]) (fun x=>r.de.length-x) ?_ ?_
 ·apply aI (0:Nat) ⟨Zi _,fun i h=>absurd h (ZU _)⟩
  case hs1=>exact bS
  case ht=>(try simp only [Ze,Zf,Za]);exact .h1 .nil
 rintro k ⟨hk,hz⟩;by_cases aM:k<r.de.length
 ·have cu:=jB (iy aM);obtain ⟨gi,aC⟩:=kr k _ (fN aM);unfold De.cells at aC;have cc0:=aC 0 _ I;have cc1:=aC 1 _ I;have TW:=TV (r.sr.length+k) (by omega);have hq:=Wc (r:=r) aM
  (refine Jq<|Jr<|Jv I<|bG I I ae<|JL I .here I<|JI I<|JA I<|Jn<|Jd I fun au=>Jk<|Jq<|J0<|Jq<|Jq ?_)
  with_reducible refine di 12 (by kernel_rfl) ?_
  (refine az (cm .here) I<|az mB I<|aY bb I (fun w' aB=>(TW w' (Mem.keeps aB)))<|az (cm .here) I<|az lV I<|az (iB .here) I<|az mB I<|az (fY cu au) I<|az lV I<|az (ag (.of I) (At.base cc1 I)) I<|aY bb I (fun w' aB=>(gD _ (Mem.keeps aB)))<|eN (aD (.o I (.o I .nil)) I I I I) I I ?_)
  with_reducible refine dN I fun bq nf=>?_
  (refine aj bN I (fun w' aB=>(mm (Mem.dH aB .here I I) (cg.cons (cg.cons cg.nil))))<|Ja I<|Ji<|Jv I<|JD I<|Jn<|gG I (fun au=>?_) fun au=>?_;refine Jr<|Jv I<|Ja I<|Jn<|Ju<|Jm<|Jh<|Jh<|Jm<|Jh<|JT ?_;rotate_left;refine Jk<|Jg<|Jv I<|JB I (by omega)<|Ja I<|Jx<|Jj<|Jt<|Jg<|Jv I<|JB I (by omega)<|Ja I<|Jn ?_;rotate_right)
  ·rw [hq] at au ⊢;have hb:fK 8 (cK r) De.nm (fun x=>fM r x.mx) r.de=yu (cK r) De.nm (fun x=>fM r x.mx) r.de k:=by unfold fK;rw [if_neg (by omega)];exact fI hz aM au
   rw [po2 z1 (by rw [hb];exact au),hb]
  have LN:yu (cK r) De.nm (fun x=>fM r x.mx) r.de k=0:=by rw [<- hq];exact Zo.1 au
  apply aG (k+1) ⟨(show k+1<=r.de.length from aM),fun i hi=>by
   by_cases e:i=k
   ·rw [e];exact LN
   ·exact hz i (by omega)⟩ (show r.de.length-(k+1)<r.de.length-k by omega)
  case hs1=>exact bS
  case ht=>(try simp only [Ze,Zf,Za]);exact .cons (.there .here) .nil
 obtain rfl:k=r.de.length:=by omega
 have z2:fK 8 (cK r) De.nm (fun x=>fM r x.mx) r.de=0:=by unfold fK;rw [if_neg (by omega)];exact ew.2 hz
 clear hk aM hz
 (refine Jq<|Jr<|Jv I<|bG I I ae<|JL I .here I<|JI I<|JA I<|Jn<|Jc I fun au=>Jp<|Jl<|Jo<|Jt<|Jq<|Jr<|bG I I ae<|JL I .here I<|JI I<|JE I<|Jn<|gG I (fun au=>?_) fun au=>?_;refine Jr<|Ja I<|Jn<|Ju<|JT ?_;rotate_left;refine Jk<|Jq<|Jr<|Ja I<|Jn<|J0 ?_;rotate_right)
 ·have e:fK 6 (cK r++cy r) Ti.nm (oU r) r.ti=5:=by unfold fK;rw [if_pos (show (6:Int)<(r.ti.length:Int) by omega)]
  rw [EF z1 z2,e]
 refine aV (ι:=Nat) (fun x=>x<=r.ti.length/\∀ i,i<x->yu (cK r++cy r) Ti.nm (oU r) r.ti i=0) (fun x=>[(8,.q (x:Nat)),(3,.q (((r.sr.length+r.de.length)+x:Nat):Int)),(1,.p b1)]) (fun x=>[JQ b1 r (.slice a1 r.sr.length ei) (.slice a2 r.de.length db) (.slice a3 r.ti.length dV) p]) (fun x=>r.ti.length-x) ?_ ?_
 ·apply aI (0:Nat) ⟨Zi _,fun i h=>absurd h (ZU _)⟩
  case hs1=>exact bS
  case ht=>(try simp only [Ze,Zf,Za]);exact .h1 .nil
 rintro k ⟨hk,hz⟩;by_cases aM:k<r.ti.length
 ·have cu:=se (fm aM);obtain ⟨gi,aC⟩:=o9 k _ (ef aM);unfold Ti.cells at aC;have cc0:=aC 0 _ I;have cc1:=aC 1 _ I;have TW:=TV ((r.sr.length+r.de.length)+k) (by omega);have hq:=Wa (r:=r) aM
  (refine Jq<|Jr<|Jv I<|bG I I ae<|JL I .here I<|JI I<|JA I<|Jn<|Jd I fun au=>Jk<|Jq<|J0<|Jr<|bG I I ae<|JL I .here I<|Jv I<|ab (fY cu au) I<|ab (iU (eR.base aC I)) I<|Jz I I fun _ _=>ao (.of I) (.of I) .here I I (fv I I I) (bu I) ai<|Jn<|Jq<|Jq ?_)
  with_reducible refine di 18 (by kernel_rfl) ?_
  (refine az (cm (.there .here)) I<|az mB I<|aY bb I (fun w' aB=>(TW w' (Mem.keeps aB)))<|az (cm (.there .here)) I<|az lV I<|az (iB .here) I<|aY bb I (fun w' aB=>(gD _ (Mem.keeps aB)))<|az (cm (.there .here)) I<|az lV I<|az (iB .here) I<|aY bb I (fun w' aB=>(gD _ (Mem.keeps aB)))<|az lV I<|az (iB .here) I<|az lV I<|az (iB .here) I<|az (oo (.of I) (.of I)) I<|aY bb I (fun w' aB=>(l8 _ 24 w'))<|eN (aD (.o I (.o I (.o I (.o I .nil)))) I I I I) I I ?_)
  with_reducible refine dN I fun bq nf=>?_
  (refine aj bN I (fun w' aB=>(mm (Mem.dH aB .here I I) (cg.cons (cg.cons (cg.cons (cg.cons cg.nil))))))<|Ja I<|Ji<|Jv I<|JD I<|Jn<|gG I (fun au=>?_) fun au=>?_;refine Jr<|Jv I<|Ja I<|Jn<|Ju<|Jm<|Jh<|Jh<|Jm<|Jh<|JT ?_;rotate_left;refine Jk<|Jg<|Jv I<|JB I (by omega)<|Ja I<|Jx<|Jj<|Jt<|Jg<|Jv I<|JB I (by omega)<|Ja I<|Jn ?_;rotate_right)
  ·rw [hq] at au ⊢;have hb:fK 6 (cK r++cy r) Ti.nm (oU r) r.ti=yu (cK r++cy r) Ti.nm (oU r) r.ti k:=by unfold fK;rw [if_neg (by omega)];exact fI hz aM au
   rw [EF z1 z2,hb]
  have LN:yu (cK r++cy r) Ti.nm (oU r) r.ti k=0:=by rw [<- hq];exact Zo.1 au
  apply aG (k+1) ⟨(show k+1<=r.ti.length from aM),fun i hi=>by
   by_cases e:i=k
   ·rw [e];exact LN
   ·exact hz i (by omega)⟩ (show r.ti.length-(k+1)<r.ti.length-k by omega)
  case hs1=>exact bS
  case ht=>(try simp only [Ze,Zf,Za]);exact .cons bI .nil
 obtain rfl:k=r.ti.length:=by omega
 have z3:fK 6 (cK r++cy r) Ti.nm (oU r) r.ti=0:=by unfold fK;rw [if_neg (by omega)];exact ew.2 hz
 clear hk aM hz
 (refine Jq<|Jr<|Jv I<|bG I I ae<|JL I .here I<|JI I<|JA I<|Jn<|Jc I fun au=>Jp<|Jl<|Jo<|Jt<|Jr<|Ja I<|Jn<|Je<|JT ?_)
 rw [EF z1 z2,z3]
theorem S3 (h:k<r.po.length):HD r k=if Nv r r.po[k]≠0 then Nv r r.po[k] else if 0<k/\(r.po[k].lv<((r.po[k-1]?).getD r.po[k]).lv\/r.po[k].lv=((r.po[k-1]?).getD r.po[k]).lv/\eC r r.po[k].ou<=eC r ((r.po[k-1]?).getD r.po[k]).ou) then 11 else 0:=by
 unfold HD;rw [Zc h];rfl
def Ih (r:Ro) (v:Int) (x:Ti):Bool:=decide ((qi r.po v 8 x.nm).length=8)
def Gl (r:Ro) (v:Int) (x:Ti):Bool:=nD r.po v x.nm != !decide ((eB r.po v x.nm).getD ⟨#[]⟩=⟨#[]⟩)
theorem OS (r:Ro):Wd r=if kN r (fun v=>r.ti.any (Ih r v)) then 33 else if kN r (fun v=>r.ti.any (Gl r v)) then 32 else 0:=rfl
theorem DN {v i:Nat} (hv:(v:Int)<r.lv) (hi:i<r.ti.length) (h:q v r.ti[i]=true):kN r (fun v=>r.ti.any (q v))=true:=by
 unfold kN;exact ZQ.2 ⟨v,ZX.2 (by omega),ZQ.2 ⟨_,Zj hi,h⟩⟩
theorem Ad (h:∀ v:Nat,v<r.lv.toNat->∀ (i:Nat) (hi:i<r.ti.length),q v r.ti[i]=false):kN r (fun v=>r.ti.any (q v))=false:=by
 refine mu.2 fun v h0 h1=>Zas.2 fun x hx=>?_;obtain ⟨i,hi,rfl⟩:=ZA hx;have:=h v.toNat (by omega) i hi;rw [show ((v.toNat:Nat):Int)=v by omega] at this;rw [this];decide
set_option maxHeartbeats 2000000 in
theorem yL (h:RR w r s d t p) (hf:kE r) (ahy:1<=r.lv/\r.lv<=3):ak T_ 128 [RA r s d t p] w (.q (AX r)):=by
 obtain ⟨h1,h2,h3,h4⟩:=h.one;have T1:∀ (o:ByteArray) {w'},aJ [] w w'->ak T_ 230 [.agg #[.int .i64 r.lv,.int .i64 r.ma,s,d,t,p],.string o] w' (.int .i64 (eC r o)):=fun o _ hk=>Gi o (h.keeps hk) hf
 have Xe:∀ (o:ByteArray) {w'},aJ [] w w'->ak T_ 231 [.agg #[.q r.lv,.q r.ma,s,d,t,p],.string o] w' (.q (kI r o)):=fun o _ hk=>Pr o (h.keeps hk)
 have abi:∀ (o:ByteArray) {w'},aJ [] w w'->ak T_ 232 [.agg #[.q r.lv,.q r.ma,s,d,t,p],.string o] w' (.q (k6 r o)):=fun o _ hk=>K7 o (h.keeps hk)
 have Wx:∀ (v:Int) (o:ByteArray) {w'},aJ [] w w'->ak T_ 233 [.agg #[.q r.lv,.q r.ma,s,d,t,p],.q v,.string o] w' (.bool (nD r.po v o)):=fun v o _ hk=>J5 v o (h.keeps hk)
 have yB:∀ (v:Int) (o:ByteArray) {w'},aJ [] w w'->ak T_ 133 [.agg #[.q r.lv,.q r.ma,s,d,t,p],.q v,.string o] w' (.string ((eB r.po v o).getD ⟨#[]⟩)):=fun v o _ hk=>qF v o (h.keeps hk)
 have PU:∀ (v:Int) (o:ByteArray) w',aJ [] w w'->bh T_ 132 [.agg #[.q r.lv,.q r.ma,s,d,t,p],.q v,.string o,.q 8] w' [] (fun _:Option Addr×Nat=>True) (fun z=>.slice z.1 (qi r.po v 8 o).length z.2) (fun z=>[row 9 1 (.slice z.1 (qi r.po v 8 o).length z.2) (qi r.po v 8 o).length (aP (qi r.po v 8 o))]):=fun v o w' hk=>bh.Es (val:=id) (GZ v o 8 (by decide) (h.keeps hk))
 have EZ:=h.po;have yy:=h.ti;obtain ⟨a4,eV,NN,IJ,rfl,re,jV,zS,ud⟩:=EZ;obtain ⟨a3,dV,G1,Gj,rfl,nb,gC,se,o9⟩:=yy;rw [cT] at *;rw [bQ] at *;unfold maxLen at gC jV;obtain ⟨f1,f2,f3,f4⟩:=hf;unfold RA;refine ah func128 I I ?_;refine Jr<|Jy I I fun _ _=>Ja I<|Jn<|Jq<|Jr<|Ja I<|Jn<|J0 ?_;rename_i b1 r9;refine aV (ι:=Nat) (fun x=>x<=r.po.length/\∀ i,i<x->HD r i=0) (fun x=>[(3,.int .i64 (x:Nat)),(1,.pointer (some ⟨b1,0,none⟩))]) (fun x=>[JQ b1 r s d (.slice a3 r.ti.length dV) (.slice a4 r.po.length eV)]) (fun x=>r.po.length-x) ?_ ?_
 ·apply aI (0:Nat) ⟨Zi _,fun i h=>absurd h (ZU _)⟩
  case hs1=>exact bS
  case ht=>(try simp only [Ze,Zf,Za]);exact .h1 .nil
 rintro k ⟨hk,hz⟩;by_cases aM:k<r.po.length
 ·have cu:=zS (kl aM);obtain ⟨gi,aC⟩:=ud k _ (iq aM);unfold Po.cells at aC;have jA:=S3 (r:=r) aM;have Y3:∀ e:Int,HD r k=e->e≠0->AX r=e:=fun e he hne=>by
   have hb:ku (HD r) r.po.length=e:=by rw [<- he];exact fI hz aM (by rw [he];exact hne)
   unfold AX;rw [hb,if_pos hne]
  have gn:HD r k=0->∀ i,i<k+1->HD r i=0:=fun e i hi=>by
   by_cases e2:i=k
   ·rw [e2];exact e
   ·exact hz i (by omega)
  generalize hx:r.po[k]=x at aC jA
  (refine Jq<|Jr<|Jv I<|bG I I ae<|JL I .here I<|JI I<|JA I<|Jn<|Jd I fun au=>Jk<|Jq<|J0<|Jr<|bG I I ae<|JL I .here I<|Jv I<|ab (fY cu au) I<|ab (iU (eR.base aC I)) I<|Jz I I fun _ _=>ao (.of I) (.of I) .here I I (fv I I I) (bu I) ai<|Jn<|Jq<|Jq ?_)
  with_reducible refine di 29 (by kernel_rfl) ?_
  (refine az lV I<|az (iB .here) I<|az lV I<|az (iB (.there .here)) I<|az (tK (.of I) (.of I) (Tx (by omega))) I<|aY eo I (fun w' aB=>(AV _ 0 _ w'))<|az (cm (.there .here)) I<|az lV I<|az (iB .here) I<|aY bb I (fun w' aB=>(T1 _ (Mem.keeps aB)))<|az (lr (.of I) (.of I)) I<|aY bb I (fun w' aB=>(l8 _ 10 w'))<|az (cm (.there .here)) I<|az lV I<|az (iB .here) I<|aY bb I (fun w' aB=>(Xe _ (Mem.keeps aB)))<|az (lr (.of I) (.of I)) I<|aY bb I (fun w' aB=>(l8 _ 10 w'))<|az (cm (.there .here)) I<|az lV I<|az (iB .here) I<|aY bb I (fun w' aB=>(abi _ (Mem.keeps aB)))<|az (cm (.there .here)) I<|az lV I<|az (iB .here) I<|aY bb I (fun w' aB=>(Xe _ (Mem.keeps aB)))<|az (j8 (.of I) (.of I)) I<|aY bb I (fun w' aB=>(l8 _ 24 w'))<|eN (aD (.o I (.o I (.o I (.o I .nil)))) I I I I) I I ?_)
  with_reducible refine dN I fun bq nf=>?_
  (refine aj bN I (fun w' aB=>(mm (Mem.dH aB .here I I) (cg.cons (cg.cons (cg.cons (cg.cons cg.nil))))))<|Ja I<|Ji<|Jv I<|JD I<|Jn<|gG I (fun au=>?_) fun au=>?_;refine Jr<|Jv I<|Ja I<|Jn<|Ju<|Jm<|Jh<|Jh<|Jm<|Jh<|JT ?_;rotate_left;refine Jk<|Jr<|Jv I<|JE I<|Jn<|gG I (fun au=>?_) fun au=>?_;refine Jr<|bG I I ae<|JL I bI I<|Jv I<|JS I (by omega)<|ab (an (.of I) (.of I) cu (by omega) (by omega) aW) I ?_;rotate_left;refine Jw<|Jj<|Jt<|Jg<|Jv I<|JB I (by omega)<|Ja I<|Jn ?_;rotate_right;rotate_right)
  ·have e:=Y3 (Nv r x) (by rw [jA,if_pos (show Nv r x≠0 from au)]) au;rw [e];rfl
  ·rename_i b4 uT hE;have hE:Nv r x=0:=Zo.1 hE;have NG:0<k:=by omega
   have Vm:k-1<r.po.length:=by omega
   obtain ⟨ac8,fE⟩:=ud (k-1) _ (iq Vm);unfold Po.cells at fE;rw [show IJ+(k-1)*3=IJ+((k:Int)-1).toNat*3 by rw [show ((k:Int)-1).toNat=k-1 by omega]] at fE;rw [if_neg (not_not_intro hE),Zc Vm,Zam] at jA;generalize r.po[k-1]=y at fE jA
   (refine ab (iU (eR.base fE I)) I<|Jz I I fun _ _=>ao (.of I) (.of I) .here I I (fv I I I) (bu I) ai<|Jn<|Jq ?_)
   with_reducible refine cJ 23 (by kernel_rfl) ?_
   (refine lU I I ae<|ar (iB bI) I<|lU I I ae<|ar (iB .here) I<|ar (lr (.of I) (.of I)) I<|fW I I<|bL I I inferInstance (fun hg bE=>(aq (.of I) ae)) I<|bL I I inferInstance (fun hg bE=>(ag (.bM hg I) (At.lit bI I))) I<|bL I I inferInstance (fun hg bE=>(aq (.of I) ae)) I<|bL I I inferInstance (fun hg bE=>(ag (.bM hg I) (At.lit .here I))) I<|bL I I inferInstance (fun hg bE=>(oo (.bM hg I) (.bM hg I))) I<|bL I I inferInstance (fun hg bE=>(aS (.bM hg I))) I<|gN I I inferInstance (fun hg bE=>(bK (.of I) cZ ai (by rfl))) I<|gN I I inferInstance (fun hg bE=>(aq (.of I) ae)) I<|gN I I inferInstance (fun hg bE=>(ag (.bM hg I) (At.lit bI I))) I<|nY I I (fun hg=>(bj (.of I) (.cons (.bM hg I) (.cons (.bM hg I) .nil)) inferInstance eY)) I (fun hg w' aB=>(T1 _ (Mem.keeps aB)))<|gN I I inferInstance (fun hg bE=>(bK (.of I) cZ ai (by rfl))) I<|gN I I inferInstance (fun hg bE=>(aq (.of I) ae)) I<|gN I I inferInstance (fun hg bE=>(ag (.bM hg I) (At.lit .here I))) I<|nY I I (fun hg=>(bj (.of I) (.cons (.bM hg I) (.cons (.bM hg I) .nil)) inferInstance eY)) I (fun hg w' aB=>(T1 _ (Mem.keeps aB)))<|gN I I inferInstance (fun hg bE=>(nq (.bM hg I) (.bM hg I))) I<|bL I I inferInstance (fun hg bE=>(jn hg (.bM hg I) I)) I<|ar (bH (.of I) I) I ?_)
   with_reducible refine cN ?_
   (refine Jn<|nW I (fun au=>?_) fun au=>?_;refine Jr<|Ja I<|Jn<|Je<|Jm<|Jh<|Jh<|Jm<|Jh<|JT ?_;rotate_left;refine Jw<|Jj<|Jt<|Jg<|Jv I<|JB I (by omega)<|Ja I<|Jn ?_;rotate_right)
   ·have hE2:0<k/\(x.lv<y.lv\/x.lv=y.lv/\eC r x.ou<=eC r y.ou):=⟨NG,au⟩;have e:=Y3 11 (by rw [jA,if_pos hE2]) (by decide);rw [e]
   ·apply aG (k+1) ⟨(show k+1<=r.po.length from aM),gn (by rw [jA,if_neg (fun q=>q.2.elim au.1 fun z=>au.2.elim (fun z2=>z2 z.1) fun z2=>z2 z.2)])⟩ (show r.po.length-(k+1)<r.po.length-k by omega)
    case hs1=>exact bS
    case ht=>(try simp only [Ze,Zf,Za]);exact .cons cZ .nil
  ·rename_i b4 uT hE;have hE:Nv r x=0:=Zo.1 hE;apply aG (k+1) ⟨(show k+1<=r.po.length from aM),gn (by rw [jA,if_neg (not_not_intro hE),if_neg (fun q=>au (by omega))])⟩ (show r.po.length-(k+1)<r.po.length-k by omega)
   case hs1=>exact bS
   case ht=>(try simp only [Ze,Zf,Za]);exact .cons bI .nil
 obtain rfl:k=r.po.length:=by omega
 have YD:ku (HD r) r.po.length=0:=ew.2 hz;have hqs:AX r=Wd r:=by unfold AX;rw [YD];rfl
 rw [hqs,OS];clear hk aM hz
 (refine Jq<|Jr<|Jv I<|bG I I ae<|JL I .here I<|JI I<|JA I<|Jn<|Jc I fun au=>Jp<|Jl<|Jo<|Jt<|Jq<|Jr<|Ja I<|Jn<|J0 ?_)
 refine aV (ι:=Nat) (fun v=>v<=r.lv.toNat/\∀ u,u<v->∀ (i:Nat) (hi:i<r.ti.length),Ih r (u:Nat) r.ti[i]=false) (fun v=>[(7,.q (v:Nat)),(1,.p b1)]) (fun _=>[JQ b1 r s d (.slice a3 r.ti.length dV) (.slice a4 r.po.length eV)]) (fun v=>r.lv.toNat-v) ?_ ?_
 ·apply aI (0:Nat) ⟨Zi _,fun i h=>absurd h (ZU _)⟩
  case hs1=>exact bS
  case ht=>(try simp only [Ze,Zf,Za]);exact .h1 .nil
 rintro v ⟨hv,hz⟩;by_cases IM:v<r.lv.toNat
 ·have TF:((v:Nat):Int)<r.lv:=by omega
  (refine Jq<|Jr<|Jv I<|bG I I ae<|JL I .here I<|JA I<|Jn<|Jd I fun au=>Jk<|Jq<|J0<|Jr<|Ja I<|Jn<|J0 ?_)
  refine aV (ι:=Nat) (fun i=>i<=r.ti.length/\∀ (j:Nat) (hj:j<r.ti.length),j<i->Ih r (v:Nat) r.ti[j]=false) (fun i=>[(8,.q (i:Nat)),(7,.q (v:Nat)),(1,.p b1)]) (fun _=>[JQ b1 r s d (.slice a3 r.ti.length dV) (.slice a4 r.po.length eV)]) (fun i=>r.ti.length-i) ?_ ?_
  ·apply aI (0:Nat) ⟨Zi _,fun j _ h=>absurd h (ZU _)⟩
   case hs1=>exact bS
   case ht=>(try simp only [Ze,Zf,Za]);exact .h1 .nil
  rintro i ⟨hi,hy⟩;by_cases iw:i<r.ti.length
  ·have cu:=se (fm iw);have c0:w.cell? ⟨G1,Gj+i*3,none⟩=some (.string r.ti[i].nm):=(o9 i _ (ef iw)).2 0 _ I;have hqq:∀ b,Ih r (v:Nat) r.ti[i]=b->Ih r (v:Nat) r.ti[i]=b:=fun _ h=>h
   unfold Ih at hqq;have gn:Ih r (v:Nat) r.ti[i]=false->∀ (j:Nat) (hj:j<r.ti.length),j<i+1->Ih r (v:Nat) r.ti[j]=false:=fun e j hj lE=>by
    by_cases e2:j=i
    ·subst e2;exact e
    ·exact hy j hj (by omega)
   have Ua:Ih r (v:Nat) r.ti[i]=true->kN r (fun v=>r.ti.any (Ih r v))=true:=DN TF iw
   generalize hxx:r.ti[i].nm=x at c0
   (refine Jq<|Jr<|Jv I<|bG I I ae<|JL I .here I<|JI I<|JA I<|Jn<|Jd I fun au=>Jk<|Jq<|J0<|Jq ?_)
   have Xs:=PU (v:Nat) x;have Ri:=BH r.po (v:Nat) 8 x;have Xq:Ih r (v:Nat) r.ti[i]=decide ((qi r.po (v:Nat) 8 x).length=8):=by unfold Ih;rw [hxx]
   generalize qi r.po (v:Nat) 8 x=C at Xs Ri Xq
   with_reducible refine dO 9 (by kernel_rfl) ?_
   (refine aA (fun β=>(bK (.of I) .here ai (by rfl))) bo I<|aA (fun β=>(aS (.of I))) bo I<|aA (fun β=>(aq (.of I) ae)) bo I<|aA (fun β=>(ag (.of I) (At.lit .here I))) bo I<|aA (fun β=>(aS (.of I))) bo I<|aA (fun β=>(an (.of I) (.of I) cu (by omega) au aW)) bo I<|aA (fun β=>(aq (.of I) ae)) bo I<|aA (fun β=>(ag (.of I) (At.base c0 I))) bo I ?_)
   dsimp only [Nat.zero_add,Nat.reduceAdd]
   with_reducible apply fC (ι:=Option Addr×Nat) (Φ:=fun _=>True) (val:=fun z=>.slice z.1 C.length z.2) (own:=fun z=>[row 9 1 (.slice z.1 C.length z.2) C.length (aP C)]) (g:=Uv) (B:=[]) (args:=fun _=>[.agg #[.q r.lv,.q r.ma,s,d,.slice a3 r.ti.length dV,.slice a4 r.po.length eV],.q (v:Nat),.string x,.q 8])
   case hg=>exact E8
   case hB=>rfl
   case hr=>exact fun β=>bj (.of I) (.o I (.o I (.o I (.o I .nil)))) inferInstance I
   case hd=>rfl
   case hc=>exact fun β w' hb=>Xs w' hb.mem.keeps
   dsimp only [Nat.reduceAdd];refine fq fun β=>?_;dsimp only [ez,Za,Zb,List.append_eq,Nat.reduceAdd];generalize Uv (β 8)=y;obtain ⟨ya,yc⟩:=y;clear β;dsimp only;refine bR (rs:=[9]) (by kernel_rfl) (by simp) (Zw.2 ⟨?_,fun _ h=>absurd h Zp⟩);refine cd I ?_;refine JI I<|Jn ?_;refine bR (rs:=[10]) (by kernel_rfl) (by simp) (Zw.2 ⟨?_,fun _ h=>absurd h Zp⟩);refine cd I ?_;refine JC I<|Jn ?_
   with_reducible refine cE (by kernel_rfl) ?_
   (refine Jt<|gG I (fun au=>?_) fun au=>?_;refine Jr<|Ja I<|Jn<|Je<|Jm<|Jh<|Jh<|Jm<|Jm<|Jh<|Jh<|Jm<|Jh<|JT ?_;rotate_left;refine Jw<|Jj<|Jt<|Jg<|Jv I<|JB I (by omega)<|Ja I<|Jn ?_;rotate_right)
   ·rw [if_pos (Ua (by rw [Xq];exact decide_eq_true (by omega)))]
   apply aG (i+1) ⟨(show i+1<=r.ti.length from iw),gn (by rw [Xq];exact decide_eq_false (by omega))⟩ (show r.ti.length-(i+1)<r.ti.length-i by omega)
   case hs1=>exact bS
   case ht=>(try simp only [Ze,Zf,Za]);exact .cons (.there .here) .nil
  obtain rfl:i=r.ti.length:=by omega
  clear hi iw
  (refine Jq<|Jr<|Jv I<|bG I I ae<|JL I .here I<|JI I<|JA I<|Jn<|Jc I fun au=>Jp<|Jl<|Jo<|Jj<|Jt<|Jg<|Jv I<|JB I (by omega)<|Ja I<|Jn ?_)
  apply aG (v+1) ⟨(show v+1<=r.lv.toNat from IM),fun u hu j hj=>by
   by_cases e2:u=v
   ·subst e2;exact hy j hj hj
   ·exact hz u (by omega) j hj⟩ (show r.lv.toNat-(v+1)<r.lv.toNat-v by omega)
  case hs1=>exact bS
  case ht=>(try simp only [Ze,Zf,Za]);exact .h1 .nil
 obtain rfl:v=r.lv.toNat:=by omega
 have aT:kN r (fun v=>r.ti.any (Ih r v))=false:=Ad hz
 clear hv IM hz
 (refine Jq<|Jr<|Jv I<|bG I I ae<|JL I .here I<|JA I<|Jn<|Jc I fun au=>Jp<|Jl<|Jo<|Jt<|Jq<|Jr<|Ja I<|Jn<|J0 ?_)
 rw [if_neg (by rw [aT];decide)];refine aV (ι:=Nat) (fun v=>v<=r.lv.toNat/\∀ u,u<v->∀ (i:Nat) (hi:i<r.ti.length),Gl r (u:Nat) r.ti[i]=false) (fun v=>[(9,.q (v:Nat)),(1,.p b1)]) (fun _=>[JQ b1 r s d (.slice a3 r.ti.length dV) (.slice a4 r.po.length eV)]) (fun v=>r.lv.toNat-v) ?_ ?_
 ·apply aI (0:Nat) ⟨Zi _,fun i h=>absurd h (ZU _)⟩
  case hs1=>exact bS
  case ht=>(try simp only [Ze,Zf,Za]);exact .h1 .nil
 rintro v ⟨hv,hz⟩;by_cases IM:v<r.lv.toNat
 ·have TF:((v:Nat):Int)<r.lv:=by omega
  (refine Jq<|Jr<|Jv I<|bG I I ae<|JL I .here I<|JA I<|Jn<|Jd I fun au=>Jk<|Jq<|J0<|Jr<|Ja I<|Jn<|J0 ?_)
  refine aV (ι:=Nat) (fun i=>i<=r.ti.length/\∀ (j:Nat) (hj:j<r.ti.length),j<i->Gl r (v:Nat) r.ti[j]=false) (fun i=>[(10,.q (i:Nat)),(9,.q (v:Nat)),(1,.p b1)]) (fun _=>[JQ b1 r s d (.slice a3 r.ti.length dV) (.slice a4 r.po.length eV)]) (fun i=>r.ti.length-i) ?_ ?_
  ·apply aI (0:Nat) ⟨Zi _,fun j _ h=>absurd h (ZU _)⟩
   case hs1=>exact bS
   case ht=>(try simp only [Ze,Zf,Za]);exact .h1 .nil
  rintro i ⟨hi,hy⟩;by_cases iw:i<r.ti.length
  ·have cu:=se (fm iw);have c0:w.cell? ⟨G1,Gj+i*3,none⟩=some (.string r.ti[i].nm):=(o9 i _ (ef iw)).2 0 _ I;have hqq:∀ b,Gl r (v:Nat) r.ti[i]=b->Gl r (v:Nat) r.ti[i]=b:=fun _ h=>h
   unfold Gl at hqq;have gn:Gl r (v:Nat) r.ti[i]=false->∀ (j:Nat) (hj:j<r.ti.length),j<i+1->Gl r (v:Nat) r.ti[j]=false:=fun e j hj lE=>by
    by_cases e2:j=i
    ·subst e2;exact e
    ·exact hy j hj (by omega)
   have Ua:Gl r (v:Nat) r.ti[i]=true->kN r (fun v=>r.ti.any (Gl r v))=true:=DN TF iw
   generalize hxx:r.ti[i].nm=x at c0
   (refine Jq<|Jr<|Jv I<|bG I I ae<|JL I .here I<|JI I<|JA I<|Jn<|Jd I fun au=>Jk<|Jq<|J0<|Jr<|bG I I ae<|JL I .here I<|Jv I<|ab (fY cu au) I<|bG I I ae<|ab (ag (.of I) (At.base c0 I)) I<|Ja I<|Jn<|Jq ?_)
   have hop:Gl r (v:Nat) r.ti[i]=(nD r.po (v:Nat) x != !decide ((eB r.po (v:Nat) x).getD ⟨#[]⟩=⟨#[]⟩)):=by unfold Gl;rw [hxx]
   have WX:Gl r (v:Nat) r.ti[i]=(nD r.po (v:Nat) x != decide ((eB r.po (v:Nat) x).getD ⟨#[]⟩≠⟨#[]⟩)):=by rw [hop,decide_not]
   with_reducible refine cJ 9 (by kernel_rfl) ?_
   (refine ar (cm .here) I<|fW I I<|fW I I<|dp eo I (fun w' aB=>(Wx _ x (Mem.keeps aB)))<|ar (cm .here) I<|fW I I<|fW I I<|dp eo I (fun w' aB=>(yB _ x (Mem.keeps aB)))<|ar (fy (.of I) (.of I)) I ?_)
   with_reducible refine cN ?_
   skip
   refine ab (CL (.of I) (.of I)) I ?_
   (refine Jn<|nW I (fun au=>?_) fun au=>?_;refine Jr<|Ja I<|Jn<|Je<|Jm<|Jh<|Jh<|Jm<|Jm<|Jh<|Jh<|Jm<|Jh<|JT ?_;rotate_left;refine Jw<|Jj<|Jt<|Jg<|Jv I<|JB I (by omega)<|Ja I<|Jn ?_;rotate_right)
   ·rw [if_pos (Ua (by rw [WX];exact au))]
   apply aG (i+1) ⟨(show i+1<=r.ti.length from iw),gn (by rw [WX];exact au)⟩ (show r.ti.length-(i+1)<r.ti.length-i by omega)
   case hs1=>exact bS
   case ht=>(try simp only [Ze,Zf,Za]);exact .h1 .nil
  obtain rfl:i=r.ti.length:=by omega
  clear hi iw
  (refine Jq<|Jr<|Jv I<|bG I I ae<|JL I .here I<|JI I<|JA I<|Jn<|Jc I fun au=>Jp<|Jl<|Jo<|Jj<|Jt<|Jg<|Jv I<|JB I (by omega)<|Ja I<|Jn ?_)
  apply aG (v+1) ⟨(show v+1<=r.lv.toNat from IM),fun u hu j hj=>by
   by_cases e2:u=v
   ·subst e2;exact hy j hj hj
   ·exact hz u (by omega) j hj⟩ (show r.lv.toNat-(v+1)<r.lv.toNat-v by omega)
  case hs1=>exact bS
  case ht=>(try simp only [Ze,Zf,Za]);exact .h1 .nil
 obtain rfl:v=r.lv.toNat:=by omega
 have l5:kN r (fun v=>r.ti.any (Gl r v))=false:=Ad hz
 clear hv IM hz
 (refine Jq<|Jr<|Jv I<|bG I I ae<|JL I .here I<|JA I<|Jn<|Jc I fun au=>Jp<|Jl<|Jo<|Jt<|Jr<|Ja I<|Jn<|Je<|JT ?_)
 rw [if_neg (by rw [l5];decide)]
theorem yK (h:RR w r s d t p) (hf:kE r):ak T_ 25 [RA r s d t p] w (.q (fZ r)):=by
 obtain ⟨h1,h2,h3,h4⟩:=h.one;have hcp:∀ {w'},aJ [] w w'->ak T_ 127 [.agg #[.int .i64 r.lv,.int .i64 r.ma,s,d,t,p]] w' (.int .i64 (kK r)):=fun hk=>BG (h.keeps hk) hf
 have ab0:oD r=0->∀ {w'},aJ [] w w'->ak T_ 128 [.agg #[.q r.lv,.q r.ma,s,d,t,p]] w' (.q (AX r)):=fun e _ hk=>yL (h.keeps hk) hf ⟨(wQ e).1,(wQ e).2.1⟩
 rw [<- UO];unfold RA ckQ;refine ah func25 I I ?_;refine Jr<|Jy I I fun _ _=>Ja I<|Jn<|Jq<|Jq ?_
 with_reducible refine di 7 (by kernel_rfl) ?_
 (refine az lV I<|az (iB .here) I<|aY eo I (fun w' aB=>(AV _ 1 3 w'))<|az lV I<|az (iB .here) I<|aY eo I (fun w' aB=>(AV _ 1 4 w'))<|eN (aD (.o I (.o I .nil)) I I I I) I I ?_)
 with_reducible refine dN I fun bq nf=>?_
 refine aj bN I (fun w' aB=>mm (Mem.dH aB .here I I) (cg.cons (cg.cons cg.nil))) ?_;have hlE:oD r=aZ [ia r.lv 1 3,ia r.ma 1 4]:=rfl;rw [<- hlE]
 (refine Ja I<|Ji<|Jv I<|JD I<|Jn<|gG I (fun au=>?_) fun au=>?_;refine Jr<|Jv I<|Ja I<|Jn<|Ju<|JT ?_;rotate_left;refine Jk<|Jq<|Jr<|ab (cm (.there .here)) I ?_;rotate_right)
 ·rw [if_pos au]
 have hl:oD r=0:=Zo.1 au;have Vq:=fun {w'}=>ab0 hl (w':=w')
 rw [if_neg (not_not_intro hl)]
 (refine aj bN I (fun w' aB=>(hcp (Mem.keeps aB)))<|Ja I<|Ji<|Jv I<|JD I<|Jn<|gG I (fun au=>?_) fun au=>?_;refine Jr<|Jv I<|Ja I<|Jn<|Ju<|JT ?_;rotate_left;refine Jk<|Jr<|ab (cm (.there .here)) I<|aj bN I (fun w' aB=>(Vq (Mem.keeps aB)))<|Ja I<|Jn<|Je<|JT ?_;rotate_right)
 ·rw [if_pos au]
 rw [if_neg au]
def u4 (l:List ByteArray):Bool:=l.all fun s=>decide (s.size<=40)
theorem Cv {l:List ByteArray} (h:Rd w lv 1 (gT l)):ak T_ 69 [lv] w (.bool (u4 l)):=by
 obtain ⟨a,cp,b,o',rfl,dy,bT,ha,hc⟩:=h;rw [bF] at *;unfold maxLen at bT;refine ah func69 I I ?_;refine Jr<|Ja I<|Jn<|Jq<|Jr<|Ja I<|Jn<|J0 ?_;refine aV (ι:=Nat) (fun k=>k<=l.length/\∀ j (hj:j<l.length),j<k->l[j].size<=40) (fun k=>[(3,.int .i64 (k:Nat)),(0,.slice a l.length cp)]) (fun _=>[]) (fun k=>l.length-k) ?_ ?_
 ·apply aI (0:Nat) ⟨Zi _,fun j _ hj=>absurd hj (ZU _)⟩
  case hs1=>exact bS
  case ht=>(try simp only [Ze,Zf,Za]);exact .nil
 rintro k ⟨hk,hf⟩;by_cases aM:k<l.length
 ·have cu:=ha (ij aM);have c0:w.cell? ⟨b,o'+k*1,none⟩=some (.string l[k]):=(hc k _ (fw aM)).2 0 _ I;have hm:=Zj aM;have yg:l[k].size<=40->∀ j (hj:j<l.length),j<k+1->l[j].size<=40:=fun q j hj NH=>by
   by_cases e:j=k
   ·subst e;exact q
   ·exact hf j hj (by omega)
  generalize l[k]=x at c0 hm yg
  (refine Jq<|Jr<|Jv I<|Jv I<|JI I<|JA I<|Jn<|Jd I fun au=>Jk<|Jq<|J0<|Jr<|Jv I<|Jv I<|ab (fY cu au) I<|ab (ag (.of I) (At.base c0 I)) I<|ab (gI (.of I)) I<|JE I<|Jn<|gG I (fun au=>?_) fun au=>?_;refine Jr<|Ja I<|Jn<|Je<|Jm<|Jh<|Jh<|Jm<|Jh<|JT ?_;rotate_left;refine Jw<|Jj<|Jt<|Jg<|Jv I<|JB I (by omega)<|Ja I<|Jn ?_;rotate_right)
  ·have uO:(40:Int)<(x.size:Nat):=au;have e:u4 l=false:=List.all_eq_false.2 ⟨x,hm,by simp;omega⟩;rw [e]
  ·have uO:¬ (40:Int)<(x.size:Nat):=au;apply aG (k+1) ⟨(show k+1<=l.length from aM),yg (by omega)⟩ (show l.length-(k+1)<l.length-k by omega)
   case hs1=>exact bS
   case ht=>(try simp only [Ze,Zf,Za]);exact .nil
 ·have e:u4 l=true:=Zad.2 fun x hx=>by
   obtain ⟨j,hj,rfl⟩:=ZA hx;exact decide_eq_true (hf j hj (by omega))
  obtain rfl:k=l.length:=by omega
  rw [e];refine Jq<|Jr<|Jv I<|Jv I<|JI I<|JA I<|Jn<|Jc I fun au=>Jp<|Jl<|Jo<|Jt<|Jr<|Ja I<|Jn<|Je<|JT ?_
  rfl
def poN (p:Po):List ByteArray:=[p.ou,p.ip]
def Cy (r:Ro) (k:Nat):List ByteArray:=eI r++((r.po.take k).map poN).flatten
def yq (r:Ro):Bool:=decide (r.sr.length<=10)&&decide (r.de.length<=10)&&decide (r.ti.length<=10)&&decide (r.po.length<=48)
def Cz (r:Ro):Bool:=yq r&&u4 (Cy r r.po.length)
theorem zl (h:k<r.po.length):Cy r (k+1)=Cy r k++[r.po[k].ou,r.po[k].ip]:=by
 unfold Cy;rw [Zm h,Zt,Zaf,Zh]
 rfl
theorem ss (h:yq r=true):r.sr.length<=10/\r.de.length<=10/\r.ti.length<=10/\r.po.length<=48:=by
 unfold yq at h;simp only [Zn,decide_eq_true_eq] at h;exact ⟨h.1.1.1,h.1.1.2,h.1.2,h.2⟩
theorem CA (h:yq r=true):kE r:=by
 have:=ss h;exact ⟨by omega,by omega,by omega,by omega⟩
theorem KD (h:yq r=true):og r:=by
 have:=ss h;exact ⟨by omega,by omega,by omega⟩
theorem Cw (r:Ro):∀ k,k<=r.po.length->(Cy r k).length=(eI r).length+2*k
 | 0,_=>by unfold Cy;simp
 | k+1,h=>by rw [zl (by omega),Zg,Cw r k (by omega)];simp;omega
theorem OA (h:RR w r s d t p):ak T_ 18 [RA r s d t p] w (.bool (Cz r)):=by
 obtain ⟨h1,h2,h3,h4⟩:=h.one;have abl:yq r=true->∀ w',aJ [] w w'->bh T_ 77 [.agg #[.int .i64 r.lv,.int .i64 r.ma,s,d,t,p]] w' [] (fun _:Value=>True) id (fun x=>[row 9 1 x (eI r).length (aP (eI r))]):=fun e w' hk=>Gp (h.keeps hk) (CA e)
 have C9:=h.sr;have Dk:=h.de;have EZ:=h.po;have yy:=h.ti;obtain ⟨a1,ei,IW,IL,rfl,oP,iI,lF,kS⟩:=C9;obtain ⟨a2,db,IV,IK,rfl,kq,eU,jB,kr⟩:=Dk;obtain ⟨a3,dV,G1,Gj,rfl,nb,gC,se,o9⟩:=yy;obtain ⟨a4,eV,NN,IJ,rfl,re,jV,zS,ud⟩:=EZ;rw [ct] at *;rw [bY] at *;rw [bQ] at *;rw [cT] at *;unfold maxLen at iI eU gC jV;unfold RA;refine ah func18 I I ?_
 (refine Jr<|Jy I I fun _ _=>Ja I<|Jn<|Jq<|Jr<|bG I I ae<|JL I .here I<|JI I<|JE I<|Jv I<|aH I I inferInstance (fun hg bE=>(aq (.of I) ae)) I<|aH I I inferInstance (fun hg bE=>(ag (.bM hg I) (At.lit .here I))) I<|aH I I inferInstance (fun hg bE=>(cq (.bM hg I))) I<|aH I I inferInstance (fun hg bE=>(nr (.bM hg I) (.of I))) I<|ab (bH (.of I) I) I<|Jv I<|aH I I inferInstance (fun hg bE=>(aq (.of I) ae)) I<|aH I I inferInstance (fun hg bE=>(ag (.bM hg I) (At.lit .here I))) I<|aH I I inferInstance (fun hg bE=>(cq (.bM hg I))) I<|aH I I inferInstance (fun hg bE=>(nr (.bM hg I) (.of I))) I<|ab (bH (.of I) I) I<|Jv I<|aH I I inferInstance (fun hg bE=>(aq (.of I) ae)) I<|aH I I inferInstance (fun hg bE=>(ag (.bM hg I) (At.lit .here I))) I<|aH I I inferInstance (fun hg bE=>(cq (.bM hg I))) I<|aH I I inferInstance (fun hg bE=>(nr (.bM hg I) (.of I))) I<|ab (bH (.of I) I) I<|Jn<|nW I (fun au=>?_) fun au=>?_;refine Jr<|Ja I<|Jn<|Ju<|JT ?_;rotate_left;refine Jk<|Jr<|ab (cm .here) I ?_;rotate_right)
 ·have e:Cz r=false:=by
   unfold Cz;have e2:yq r=false:=by
    rw [<- Zar];intro q;have:=ss q;omega
   rw [e2];rfl
  rw [e]
 have hA:yq r=true:=by
  unfold yq;simp only [Zn,decide_eq_true_eq];omega
 obtain ⟨f1,f2,f3,f4⟩:=ss hA;have zN:=abl hA;clear au;rename_i b1 r9;have vG:(eI r).length<=30:=by
  unfold eI cK cy cR;simp only [Zg,Zd];omega
 refine JN bN I (fun w1 aT=>zN w1 aT.keeps) ?_;intro x _;dsimp only [id_eq,Zb,Za];refine Ja I<|Jn<|Jq<|Jr<|Ja I<|Jn<|J0 ?_;refine aV (ι:=Nat×Value×List ByteArray) (fun y=>y.1<=r.po.length/\y.2.2=Cy r y.1) (fun y=>[(4,.q (y.1:Nat)),(3,y.2.1),(1,.p b1)]) (fun y=>[row 9 1 y.2.1 y.2.2.length (aP y.2.2),JQ b1 r (.slice a1 r.sr.length ei) (.slice a2 r.de.length db) (.slice a3 r.ti.length dV) (.slice a4 r.po.length eV)]) (fun y=>r.po.length-y.1) ?_ ?_
 ·apply aI (0,x,eI r) ⟨Zi _,by unfold Cy;simp⟩
  case hs1=>exact bS
  case ht=>
   exact .h2 .nil
 rintro ⟨k,v',L⟩ ⟨hk,hL⟩;dsimp only at hk hL ⊢;have Dq:L.length=(eI r).length+2*k:=by rw [hL,Cw r k hk]
 have hlen:(aP L).length=L.length*1:=by rw [c6];omega
 by_cases aM:k<r.po.length
 ·have cu:=zS (kl aM);obtain ⟨gi,aC⟩:=ud k _ (iq aM);unfold Po.cells at aC;have c1:=aC 1 _ I;have c2:=aC 2 _ I;have gn:=zl (r:=r) aM;rw [<- hL] at gn;generalize r.po[k]=q at aC c1 c2 gn
  (refine Jq<|Jr<|Jv I<|bG I I ae<|JL I (.there .here) I<|JI I<|JA I<|Jn<|Jd I fun au=>Jk<|Jq<|J0 ?_)
  with_reducible refine di 14 (by kernel_rfl) ?_
  (refine az mB I<|az lV I<|az (iB (.there .here)) I<|az mB I<|az (fY cu au) I<|az lV I<|az (ag (.of I) (At.base c1 I)) I<|az lV I<|az (iB (.there .here)) I<|az mB I<|az (fY cu au) I<|az lV I<|az (ag (.of I) (At.base c2 I)) I<|eN (aD (.o I (.o I .nil)) I I I I) I I ?_)
  with_reducible refine dN I fun bq nf=>?_
  refine bn (.of I) (.of I) (.there .here) .here ai (by rfl) (gO I I) (by rfl) (by rfl) (by rfl) dW (by rfl) ?_;intro z;refine Ja I<|Jx<|Jj<|Jt<|Jg<|Jv I<|JB I (by omega)<|Ja I<|Jn ?_;apply aG (k+1,z,L++[q.ou,q.ip]) ⟨(show k+1<=r.po.length from aM),gn.symm⟩ (by show r.po.length-(k+1)<r.po.length-k;omega)
  case hs1=>exact bS
  case ht=>
   show bC _ [row 9 1 z (L++[q.ou,q.ip]).length (aP (L++[q.ou,q.ip])),JQ b1 r (.slice a1 r.sr.length ei) (.slice a2 r.de.length db) (.slice a3 r.ti.length dV) (.slice a4 r.po.length eV)] _;rw [show aP (L++[q.ou,q.ip])=aP L++[.string q.ou,.string q.ip] from eT _ _,Zg,show [q.ou,q.ip].length=2 from I];exact .h1 (.cons (.there .here) .nil)
 obtain rfl:k=r.po.length:=by omega
 clear hk aM;have e:Cz r=u4 L:=by unfold Cz;rw [hA,<- hL];rfl
 rw [e]
 (refine Jq<|Jr<|Jv I<|bG I I ae<|JL I (.there .here) I<|JI I<|JA I<|Jn<|Jc I fun au=>Jp<|Jl<|Jo<|Jt<|Jr<|Jv I ?_)
 refine aj bN I (fun w' aB=>Cv (eM aB (by exact .here) I)) ?_;refine Ja I<|Jn<|Je<|JT ?_
 rfl
theorem oH {l:List Int}:aZ (0::l)=aZ l:=by
 conv=>lhs;unfold aZ
 rw [if_neg (by decide)]
theorem Fc {a:Int} {l:List Int} (h:a≠0):aZ (a::l)=a:=by unfold aZ;rw [if_pos h]
theorem nk {i:Nat} (hi:i<r.ti.length):ig r i=r.ti[i]:=by
 unfold ig;rw [Zk,Zc hi];rfl

theorem Fp (h:fZ r=0) (v:Int) (x:ByteArray):(eB r.po v x).getD ⟨#[]⟩≠⟨#[]⟩↔gM r.po v x=true:=by
 unfold gM;cases e:eB r.po v x with
 | none=>simp
 | some i =>
  obtain ⟨p,hp,_,_,rfl⟩:=fF e;simpa using LF h p hp
theorem Fo (h:fZ r=0) (v:Int) (x:ByteArray):(eB r.po v x).getD ⟨#[]⟩=⟨#[]⟩↔gM r.po v x=false:=by
 have:=Fp h v x;rw [<- Zar,<- this,Zo]
theorem QQ (hs:so∈cK r):∃ i:Nat,∃ hi:i<r.sr.length,bA (cK r) so=(i:Nat)/\oV r so=r.sr[i].mx:=by
 obtain ⟨mX,_⟩:=fB (dS hs);have vG:(cK r).length=r.sr.length:=by unfold cK;rw [Zd]
 have hl:=Nat.lt_of_lt_of_eq mX vG;have:=dS hs;refine ⟨(bA (cK r) so).toNat,hl,by omega,?_⟩;unfold oV;rw [Zk,Zc hl];rfl
theorem RX {de:ByteArray} (hs:de∈cy r):∃ i:Nat,∃ hi:i<r.de.length,bA (cy r) de=(i:Nat)/\lo r de=r.de[i].mx:=by
 obtain ⟨mX,_⟩:=fB (dS hs);have vG:(cy r).length=r.de.length:=by unfold cy;rw [Zd]
 have hl:=Nat.lt_of_lt_of_eq mX vG;have:=dS hs;refine ⟨(bA (cy r) de).toNat,hl,by omega,?_⟩;unfold lo;rw [Zk,Zc hl];rfl
theorem QL (h:fZ r=0) {i:Nat} (hi:i<r.ti.length):r.ti[i].nm≠⟨#[]⟩:=(vK h).ne (.inr (.inr (Zy.2 ⟨_,Zj hi,I⟩)))


def oF (r:Ro) (v:Int) (L:List ByteArray):Nat:=L.countP fun x=>decide ((eB r.po v x).getD ⟨#[]⟩=⟨#[]⟩)
theorem Ic {L:List ByteArray} (h:k<L.length):oF r v (L.take (k+1))=oF r v (L.take k)+if (eB r.po v L[k]).getD ⟨#[]⟩=⟨#[]⟩ then 1 else 0:=by
 unfold oF;rw [Zm h,List.countP_append,List.countP_singleton];congr 1;by_cases e:(eB r.po v L[k]).getD ⟨#[]⟩=⟨#[]⟩ <;> simp [e]
theorem P3 (r:Ro) (v:Int) (L:List ByteArray):oF r v L<=L.length:=List.countP_le_length
theorem GI (v:Int) {L:List ByteArray} {w:World} (h:RR w r s d t p) (hl:Rd w lv 1 (gT L)):ak T_ 265 [RA r s d t p,.q v,lv] w (.q (oF r v L:Nat)):=by
 obtain ⟨h1,h2,h3,h4⟩:=h.one;have yB:∀ (o:ByteArray) {w'},aJ [] w w'->ak T_ 133 [.agg #[.int .i64 r.lv,.int .i64 r.ma,s,d,t,p],.int .i64 v,.string o] w' (.string ((eB r.po v o).getD ⟨#[]⟩)):=fun o _ hk=>qF v o (h.keeps hk)
 obtain ⟨a,cap,b,o,rfl,dy,bT,ha,hc⟩:=hl;rw [bF] at *;unfold maxLen at bT;unfold RA;refine ah func265 I I ?_;refine Jr<|Jy I I fun _ _=>Ja I<|Ji<|Ja I<|Jn<|Jq<|Jr<|Ja I<|Jn<|J0 ?_;rename_i b3 uf;refine aV (ι:=Nat) (fun k=>k<=L.length) (fun k=>[(8,.int .i64 (k:Nat)),(7,.int .i64 (oF r v (L.take k):Nat)),(1,.int .i64 v),(2,.slice a L.length cap),(3,.pointer (some ⟨b3,0,none⟩))]) (fun _=>[JQ b3 r s d t p]) (fun k=>L.length-k) ?_ ?_
 ·apply aI (0:Nat) (show (0:Nat)<=L.length from Zi _)
  case hs1=>exact bS
  case ht=>(try simp only [Ze,Zf,Za]);exact .h1 .nil
 rintro k hk;by_cases aM:k<L.length
 ·have cu:=ha (ij aM);have aC:=(hc k _ (fw aM)).2 0 _ I;have htk:=Ic (r:=r) (v:=v) aM;have hle:oF r v (L.take k)<=k:=by have:=P3 r v (L.take k);rw [Zq] at this;omega
  generalize L[k]=x at aC htk;have l5:oF r v (L.take k)+1<=9223372036854775807:=by omega
  generalize oF r v (L.take k)=m at hle l5 htk;refine Jq<|Jr<|Jv I<|Jv I<|JI I<|JA I<|Jn<|Jd I fun au=>Jk<|Jq<|J0<|Jq ?_
  with_reducible refine cJ 8 (by kernel_rfl) ?_
  (refine ar (cm .here) I<|fW I I<|fW I I<|fW I I<|ar (fY cu au) I<|ar (ag (.of I) (At.base aC I)) I<|dp eo I (fun w' aB=>(yB x (Mem.keeps aB)))<|ar (dB (.of I) (.of I)) I ?_)
  with_reducible refine cN ?_
  (refine Jn<|gG I (fun au=>?_) fun au=>?_;refine Jg<|Jv I<|JB I (by omega)<|Ja I<|Jx<|Jj<|Jt<|Jg<|Jv I<|JB I (by omega)<|Ja I<|Jn ?_;rotate_left;refine Jw<|Jj<|Jt<|Jg<|Jv I<|JB I (by omega)<|Ja I<|Jn ?_;rotate_right)
  ·rw [if_pos au] at htk;apply aG (k+1) (show k+1<=L.length from aM) (show L.length-(k+1)<L.length-k by omega)
   case hs1=>
    rw [htk];exact .cons I (.cons I (.cons I (.cons I (.cons I .nil))))
   case ht=>exact iQ
  ·rw [if_neg au] at htk;apply aG (k+1) (show k+1<=L.length from aM) (show L.length-(k+1)<L.length-k by omega)
   case hs1=>
    rw [htk];exact .cons I (.cons I (.cons I (.cons I (.cons I .nil))))
   case ht=>exact iQ
 ·obtain rfl:k=L.length:=by omega
  refine Jq<|Jr<|Jv I<|Jv I<|JI I<|JA I<|Jn<|Jc I fun au=>Jp<|Jl<|Jo<|Jt<|Jr<|Jv I<|Ja I<|Jn<|Je<|JT ?_;rw [ZO]
def Bd (r:Ro):List ByteArray->List ByteArray->Bool
 | a::l,b::m=>if a=b then Bd r l m else decide (bA (cR r) a<bA (cR r) b)
 | _,_=>false
def Pf (r:Ro) (v:Int) (A B:List ByteArray):Bool:=if oF r v A=oF r v B then (if A.length=B.length then Bd r A B else decide (A.length<B.length)) else decide (oF r v A<oF r v B)
theorem HO {A B:List ByteArray} (ha:k<A.length) (hb:k<B.length):Bd r (A.drop k) (B.drop k)=if A[k]=B[k] then Bd r (A.drop (k+1)) (B.drop (k+1)) else decide (bA (cR r) A[k]<bA (cR r) B[k]):=by
 rw [Zu ha,Zu hb,Bd]
theorem Ly {s d t p av bv:Value} (v:Int) {A B:List ByteArray} {w:World} (h:RR w r s d t p) (hA:Rd w av 1 (gT A)) (hB:Rd w bv 1 (gT B)):ak T_ 183 [RA r s d t p,.q v,av,bv] w (.bool (Pf r v A B)):=by
 obtain ⟨h1,h2,h3,h4⟩:=h.one;have Uf:∀ {w'},aJ [] w w'->ak T_ 265 [.agg #[.int .i64 r.lv,.int .i64 r.ma,s,d,t,p],.int .i64 v,av] w' (.int .i64 (oF r v A:Nat)):=fun hk=>GI v (h.keeps hk) (Rd.keeps hA hk)
 have Ue:∀ {w'},aJ [] w w'->ak T_ 265 [.agg #[.q r.lv,.q r.ma,s,d,t,p],.q v,bv] w' (.q (oF r v B:Nat)):=fun hk=>GI v (h.keeps hk) (Rd.keeps hB hk)
 have Vn:∀ (o:ByteArray) {w'},aJ [] w w'->ak T_ 60 [.agg #[.q r.lv,.q r.ma,s,d,t,p],.string o] w' (.q (bA (cR r) o)):=fun o _ hk=>qJ o (h.keeps hk)
 unfold Pf;generalize oF r v A=fa at Uf ⊢;generalize oF r v B=fb at Ue ⊢;obtain ⟨a,cap,b,o,rfl,dy,bT,ha,hc⟩:=hA;obtain ⟨a2,db,b2,o2,rfl,kq,eU,jB,kr⟩:=hB;rw [bF A] at *;rw [bF B] at *;unfold maxLen at bT eU;have Mh:=fun {w'}=>Uf (w':=w')
 have Bn:=fun {w'}=>Ue (w':=w')
 clear Uf Ue;unfold RA;refine ah func183 I I ?_;refine Jr<|Jy I I fun _ _=>Ja I<|Jn<|Jq<|Jq ?_;rename_i b4 uT
 with_reducible refine cJ 9 (by kernel_rfl) ?_
 (refine ar (cm .here) I<|fW I I<|fW I I<|dp eo I (fun w' aB=>(Mh (Mem.keeps aB)))<|ar (cm .here) I<|fW I I<|fW I I<|dp eo I (fun w' aB=>(Bn (Mem.keeps aB)))<|ar (j8 (.of I) (.of I)) I ?_)
 with_reducible refine cN ?_
 (refine Jn<|gG I (fun au=>?_) fun au=>?_;refine Jq ?_;rotate_left;refine Jk<|Jq<|Jr<|Jv I<|JI I<|Jv I<|JI I<|JD I<|Jn<|gG I (fun au=>?_) fun au=>?_;refine Jr<|Jv I<|JI I<|Jv I<|JI I<|JA I<|Ja I<|Jn<|Ju<|JT ?_;rotate_left;refine Jk<|Jq<|Jr<|Ja I<|Jn<|J0 ?_;rotate_right;rotate_right)
 ·with_reducible refine cJ 8 (by kernel_rfl) ?_
  (refine ar (cm .here) I<|fW I I<|fW I I<|dp eo I (fun w' aB=>(Mh (Mem.keeps aB)))<|ar (cm .here) I<|fW I I<|fW I I<|dp eo I (fun w' aB=>(Bn (Mem.keeps aB))) ?_)
  with_reducible refine cN ?_
  refine JA I<|Ja I<|Jn<|Ju<|JT ?_;rw [if_neg (by omega)];congr 1;exact decide_eq_decide.2 (by omega)
 ·rw [if_pos (by omega),if_neg (by omega)];congr 1;exact decide_eq_decide.2 (by omega)
 have Ud:fa=fb:=by omega
 have hle:A.length=B.length:=by omega
 rw [if_pos Ud,if_pos hle];clear au Mh Bn Ud;refine aV (ι:=Nat) (fun k=>k<=A.length/\Bd r A B=Bd r (A.drop k) (B.drop k)) (fun k=>[(9,.q (k:Nat)),(2,.slice a A.length cap),(3,.slice a2 B.length db),(4,.p b4)]) (fun _=>[JQ b4 r s d t p]) (fun k=>A.length-k) ?_ ?_
 ·apply aI (0:Nat) ⟨Zi _,I⟩
  case hs1=>exact bS
  case ht=>(try simp only [Ze,Zf,Za]);exact .h1 .nil
 rintro k ⟨hk,hx⟩;by_cases aM:k<A.length
 ·have fU:k<B.length:=by omega
  have cu:=ha (ij aM);have dM:=jB (ij fU);have cA:=(hc k _ (fw aM)).2 0 _ I;have cB:=(kr k _ (fw fU)).2 0 _ I;rw [HO aM fU] at hx;generalize A[k]=x at cA hx;generalize B[k]=y at cB hx;refine Jq<|Jr<|Jv I<|Jv I<|JI I<|JA I<|Jn<|Jd I fun au=>Jk<|Jq<|J0<|Jq ?_
  with_reducible refine cJ 9 (by kernel_rfl) ?_
  (refine fW I I<|fW I I<|ar (fY cu au) I<|ar (ag (.of I) (At.base cA I)) I<|fW I I<|fW I I<|ar (an (.of I) (.of I) dM (by omega) (by omega) aW) I<|ar (ag (.of I) (At.base cB I)) I<|ar (fy (.of I) (.of I)) I ?_)
  with_reducible refine cN ?_
  (refine Jn<|gG I (fun au=>?_) fun au=>?_;refine Jq ?_;rotate_left;refine Jw<|Jj<|Jt<|Jg<|Jv I<|JB I (by omega)<|Ja I<|Jn ?_;rotate_right)
  ·with_reducible refine cJ 14 (by kernel_rfl) ?_
   (refine ar (cm .here) I<|fW I I<|fW I I<|ar (an (.of I) (.of I) cu (by omega) (by assumption) aW) I<|ar (ag (.of I) (At.base cA I)) I<|dp bb I (fun w' aB=>(Vn x (Mem.keeps aB)))<|ar (cm .here) I<|fW I I<|fW I I<|ar (an (.of I) (.of I) dM (by omega) (by omega) aW) I<|ar (ag (.of I) (At.base cB I)) I<|dp bb I (fun w' aB=>(Vn y (Mem.keeps aB)))<|ar (lr (.of I) (.of I)) I<|ar (cC (.of I)) I ?_)
   with_reducible refine cN ?_
   refine Jn<|Je<|Jm<|Jh<|Jh<|Jm<|Jh<|JT ?_;rw [hx,if_neg au]
  rw [if_pos (Zo.1 au)] at hx;apply aG (k+1) ⟨(show k+1<=A.length from aM),hx⟩ (show A.length-(k+1)<A.length-k by omega)
  case hs1=>exact bS
  case ht=>(try simp only [Ze,Zf,Za]);exact .h1 .nil
 ·obtain rfl:k=A.length:=by omega
  refine Jq<|Jr<|Jv I<|Jv I<|JI I<|JA I<|Jn<|Jc I fun au=>Jp<|Jl<|Jo<|Jt<|Jr<|Ja I<|Jn<|Je<|JT ?_;rw [hx,Z3]
  rfl
def Ej (r:Ro) (x:ByteArray):Ti:=ig r (bA (cR r) x).toNat
theorem Kr {x:ByteArray} (h:x∈cR r):∃ j:Nat,∃ hj:j<r.ti.length,bA (cR r) x=(j:Nat)/\Ej r x=r.ti[j]/\r.ti[j].nm=x:=by
 obtain ⟨mX,hx⟩:=fB (dS h);have vG:(cR r).length=r.ti.length:=by unfold cR;rw [Zd]
 have hl:=Nat.lt_of_lt_of_eq mX vG;have:=dS h;refine ⟨(bA (cR r) x).toNat,hl,by omega,?_,?_⟩
 ·unfold Ej;rw [nk hl]
 ·exact (Z2 (f:=Ti.nm) (l:=r.ti) (h:=mX)).symm.trans hx
def SF (r:Ro) (v:Int) (so:ByteArray) (f:Bool) (m:Int) (x:ByteArray):Bool:=f&&gM r.po v x&&decide (jD r v x=so)||!gM r.po v x&&decide ((Ej r x).fr=m)
def I4 (r:Ro) (v:Int) (so:ByteArray):Bool->Int->List ByteArray->Option Int
 | _,m,[]=>some m
 | f,m,x::l=>if SF r v so f m x=true then I4 r v so false (Ej r x).to l else none
def YB (r:Ro) (v:Int) (so de:ByteArray) (L:List ByteArray):Bool:=decide (I4 r v so true (oV r so) L=some (lo r de))
theorem I3 {f:Bool} {m:Int} {L:List ByteArray} (h:k<L.length):I4 r v so f m (L.drop k)=if SF r v so f m L[k]=true then I4 r v so false (Ej r L[k]).to (L.drop (k+1)) else none:=by
 rw [Zu h,I4]
set_option maxHeartbeats 1000000 in
theorem Pj (v:Int) (so de:ByteArray) {L:List ByteArray} {w:World} (h:RR w r s d t p) (hb:fZ r=0) (hs:so∈cK r) (hd:de∈cy r) (hl:Rd w lv 1 (gT L)) (hL:∀ x∈L,x∈cR r):ak T_ 75 [RA r s d t p,.q v,.string so,.string de,lv] w (.bool (YB r v so de L)):=by
 obtain ⟨h1,h2,h3,h4⟩:=h.one;obtain ⟨i0,r7,ei0,em0⟩:=QQ hs;obtain ⟨j0,uS,ej0,en0⟩:=RX hd;have Mg:∀ {w'},aJ [] w w'->ak T_ 130 [.agg #[.int .i64 r.lv,.int .i64 r.ma,s,d,t,p],.string so] w' (.int .i64 (i0:Nat)):=fun hk=>by rw [<- ei0];exact sZ so (h.keeps hk)
 have PQ:∀ {w'},aJ [] w w'->ak T_ 56 [.agg #[.q r.lv,.q r.ma,s,d,t,p],.string de] w' (.q (j0:Nat)):=fun hk=>by rw [<- ej0];exact tb de (h.keeps hk)
 have abO:∀ (o:ByteArray) (j:Nat),bA (cR r) o=(j:Nat)->∀ {w'},aJ [] w w'->ak T_ 60 [.agg #[.q r.lv,.q r.ma,s,d,t,p],.string o] w' (.q (j:Nat)):=fun o j e _ hk=>by rw [<- e];exact qJ o (h.keeps hk)
 have yB:∀ (o:ByteArray) {w'},aJ [] w w'->ak T_ 133 [.agg #[.q r.lv,.q r.ma,s,d,t,p],.q v,.string o] w' (.string ((eB r.po v o).getD ⟨#[]⟩)):=fun o _ hk=>qF v o (h.keeps hk)
 have Dl:∀ (o:ByteArray),o≠⟨#[]⟩->∀ {w'},aJ [] w w'->ak T_ 131 [.agg #[.q r.lv,.q r.ma,s,d,t,p],.q v,.string o] w' (.string (jD r v o)):=fun o ho _ hk=>by rw [<- vM hb v ho];exact qO v o ho (h.keeps hk)
 have C9:=h.sr;have Dk:=h.de;have yy:=h.ti;obtain ⟨a1,ei,IW,IL,rfl,oP,iI,lF,kS⟩:=C9;obtain ⟨a2,db,IV,IK,rfl,kq,eU,jB,kr⟩:=Dk;obtain ⟨a3,dV,G1,Gj,rfl,nb,gC,se,o9⟩:=yy;obtain ⟨a4,eV,NN,IJ,rfl,re,jV,zS,ud⟩:=hl;rw [ct] at *;rw [bY] at *;rw [bQ] at *;rw [bF] at *;unfold maxLen at iI eU gC jV;have xr:=lF (iK r7);have qU:=jB (iy uS);have cS:w.cell? ⟨IW,IL+i0*2+1,none⟩=some (.int .i64 (oV r so)):=by rw [em0];exact (kS i0 _ (fV r7)).2 1 _ I
 have cD:w.cell? ⟨IV,IK+j0*3+1,none⟩=some (.q (lo r de)):=by rw [en0];exact (kr j0 _ (fN uS)).2 1 _ I
 unfold RA YB;refine ah func75 I I ?_;refine Jr<|Jy I I fun _ _=>Ja I<|Jn<|Jq ?_;rename_i b5 H7
 with_reducible refine cJ 9 (by kernel_rfl) ?_
 (refine lU I I ae<|ar (iB .here) I<|ar (cm .here) I<|fW I I<|dp bb I (fun w' aB=>(Mg (Mem.keeps aB)))<|ar (an (.of I) (.of I) xr (by omega) (by omega) aW) I<|lU I I ae<|ar (ag (.of I) (At.base cS I)) I<|ar (cC (.of I)) I ?_)
 with_reducible refine cN ?_
 refine Jn<|Jq<|Jr<|Ja I<|Jn<|J0 ?_;clear cS xr;refine aV (ι:=Nat×Int) (fun y=>y.1<=L.length/\I4 r v so true (oV r so) L=I4 r v so (decide (y.1=0)) y.2 (L.drop y.1)) (fun y=>[(12,.q (y.1:Nat)),(11,.q y.2),(1,.q v),(2,.string so),(3,.string de),(4,.slice a4 L.length eV),(5,.p b5),(10,.bool false)]) (fun _=>[JQ b5 r (.slice a1 r.sr.length ei) (.slice a2 r.de.length db) (.slice a3 r.ti.length dV) p]) (fun y=>L.length-y.1) ?_ ?_
 ·apply aI (0,oV r so) ⟨Zi _,I⟩
  case hs1=>exact bS
  case ht=>(try simp only [Ze,Zf,Za]);exact .h1 .nil
 rintro ⟨k,m⟩ ⟨hk,hx⟩;dsimp only at hk hx ⊢;by_cases aM:k<L.length
 ·have cu:=zS (ij aM);have cA:=(ud k _ (fw aM)).2 0 _ I;have mY:=hL _ (Zj aM);rw [I3 aM] at hx;generalize L[k]=x at cA hx mY;obtain ⟨j,hj,ej,et,en⟩:=Kr mY;have Vn:=fun {w'}=>abO x j ej (w':=w')
  have yH:=se (fm hj);obtain ⟨gi,aC⟩:=o9 j _ (ef hj);unfold Ti.cells at aC;have r8:=fun {w'}=>Dl r.ti[j].nm (QL hb hj) (w':=w')
  have g1:=Fp hb v r.ti[j].nm;have g2:=Fo hb v r.ti[j].nm;have hsq:SF r v so (decide (k=0)) m x=(decide (k=0)&&gM r.po v r.ti[j].nm&&decide (jD r v r.ti[j].nm=so)||!gM r.po v r.ti[j].nm&&decide (r.ti[j].fr=m)):=by unfold SF;rw [et,en]
  rw [et] at hx;generalize r.ti[j]=z at aC r8 g1 g2 hsq hx;refine Jq<|Jr<|Jv I<|Jv I<|JI I<|JA I<|Jn<|Jd I fun au=>Jk<|Jq<|J0<|Jq ?_
  with_reducible refine di 11 (by kernel_rfl) ?_
  (refine az lV I<|az (iB .here) I<|az (cm .here) I<|az mB I<|az mB I<|az (fY cu au) I<|az (ag (.of I) (At.base cA I)) I<|aY bb I (fun w' aB=>(Vn (Mem.keeps aB)))<|az (an (.of I) (.of I) yH (by omega) (by omega) aW) I<|az (iU (eR.base aC I)) I<|eN (kZ I) I I ?_)
  with_reducible refine dN I fun bq nf=>?_
  (refine ao (.of I) (.of I) .here I I (fv I I I) (bu I) ai<|Ji<|ab (cm (.there .here)) I<|Jv I<|bG I I ae<|JL I .here I<|aj eo I (fun w' aB=>(yB _ (Mem.keeps aB)))<|ab (fy (.of I) (.of I)) I<|Ja I<|Ji<|Jv I<|JC I<|Jv I<|jz I I I I<|ab (ch (.of I) I) I<|Jv I<|aH I I inferInstance (fun hg bE=>(bK (.of I) (.there .here) ai (by rfl))) I<|jz I I I I<|aH I I inferInstance (fun hg bE=>(aq (.of I) ae)) I<|aH I I inferInstance (fun hg bE=>(ag (.bM hg I) (At.lit .here I))) I<|fQ I I (fun hg=>(bj (.of I) (.cons (.bM hg I) (.cons (.bM hg I) (.cons (.bM hg I) .nil))) inferInstance eY)) I (fun hg w' aB=>(r8 (Mem.keeps aB)))<|jz I I I I<|aH I I inferInstance (fun hg bE=>(dB (.bM hg I) (.bM hg I))) I<|ab (ch (.of I) I) I<|Ja I<|Jn<|Jq<|Jr<|Jv I<|JH I<|Jv I<|jz I I I I<|aH I I inferInstance (fun hg bE=>(aS (.bM hg I))) I<|gZ I I inferInstance (fun hg bE=>(aq (.of I) ae)) I<|gZ I I inferInstance (fun hg bE=>(ag (.bM hg I) (At.lit .here I))) I<|gZ I I inferInstance (fun hg bE=>(aS (.of I))) I<|gZ I I inferInstance (fun hg bE=>(j8 (.bM hg I) (.bM hg I))) I<|aH I I inferInstance (fun hg bE=>(kY hg (.bM hg I) I)) I<|ab (ch (.of I) I) I<|Jn<|nW I (fun au=>?_) fun au=>?_;refine Jr<|Ja I<|Jn<|Ju<|Jm<|Jh<|Jh<|Jm<|Jh<|JT ?_;rotate_left;refine Jk<|Jg<|bG I I ae<|JL I .here I<|Ja I<|Jx<|Jj<|Jt<|Jg<|Jv I<|JB I (by omega)<|Ja I<|Jn ?_;rotate_right)
  ·have hz:SF r v so (decide (k=0)) m x=false:=by
    rw [hsq];obtain ⟨q1,q2⟩:=au;cases eb:gM r.po v z.nm
    ·have:z.fr≠m:=q2.resolve_left fun q=>by rw [g1.1 q] at eb;cases eb
     rw [decide_eq_false this];simp
    ·have:¬ k=0\/¬ jD r v z.nm=so:=q1.imp (fun q=>q.elim (fun q0=>by omega) (fun q0=>absurd (g1.2 eb) q0)) id
     rcases this with q | q
     ·rw [decide_eq_false q];simp
     ·rw [decide_eq_false q];simp
   rw [hz,if_neg (by decide)] at hx;rw [hx];simp
  have hz:SF r v so (decide (k=0)) m x=true:=by
   rw [hsq];rcases au with ⟨⟨q1,q2⟩,q3⟩ | ⟨q1,q2⟩
   ·rw [g1.1 q2,decide_eq_true q3,decide_eq_true (show k=0 by omega)];rfl
   ·rw [g2.1 (Zo.1 q1),decide_eq_true (Zo.1 q2)];simp
  rw [hz,if_pos I] at hx;apply aG (k+1,z.to) ⟨(show k+1<=L.length from aM),by
   show _=I4 r v so (decide (k+1=0)) z.to (L.drop (k+1));rw [show decide (k+1=0)=false from decide_eq_false (by omega)];exact hx⟩ (show L.length-(k+1)<L.length-k by omega)
  case hs1=>exact bS
  case ht=>(try simp only [Ze,Zf,Za]);exact .cons (.there .here) .nil
 ·obtain rfl:k=L.length:=by omega
  rw [Z3,I4] at hx;refine Jq<|Jr<|Jv I<|Jv I<|JI I<|JA I<|Jn<|Jc I fun au=>Jp<|Jl<|Jo<|Jt<|Jq ?_
  with_reducible refine cJ 11 (by kernel_rfl) ?_
  (refine fW I I<|lU I I ae<|ar (iB .here) I<|ar (cm .here) I<|fW I I<|dp bb I (fun w' aB=>(PQ (Mem.keeps aB)))<|ar (an (.of I) (.of I) qU (by omega) (by omega) aW) I<|lU I I ae<|ar (ag (.of I) (At.base cD I)) I<|ar (oo (.of I) (.of I)) I<|ar (cC (.of I)) I ?_)
  with_reducible refine cN ?_
  refine Jn<|Je<|JT ?_;rw [hx];simp

theorem FH {r:Ro} (dU:sg r) (hd:(cR r).Nodup) {v:Int} {so:ByteArray}:∀ (L:List ByteArray) (b:Bool) (m:Int),(∀ x∈L,x∈cR r)->U6 r r.po v so b m L=I4 r v so b m L
 | [],_,_,_=>rfl
 | x :: l, b, m, hL => by
  obtain ⟨j,hj,ej,et,en⟩:=Kr (hL x Zs);have ht:dw r j=x:=by unfold dw;rw [nk hj];exact en
  have e1:k6 r x=(Ej r x).fr:=by rw [<- ht,A5 dU.wJ hd hj,ht,et,nk hj]
  have e2:kI r x=(Ej r x).to:=by rw [<- ht,vF dU.wJ hd hj,ht,et,nk hj]
  have e3:(gM r.po v x&&decide (qK r.po v (cK r) x=so))=(gM r.po v x&&decide (jD r v x=so)):=by
   have:=rU dU.wJ dU.val v so j;unfold yk at this;rw [ht] at this;rw [this];show _=(gM r.po v (dw r j)&&decide (qK r.po v (cK r) (dw r j)=so));rw [ht]
  rw [U6,I4,e1,e2,e3];unfold SF;rw [Bool.and_assoc];split
  ·exact FH dU hd l false _ fun y hy=>hL y (ZP _ hy)
  ·rfl
theorem Mq (hd:(cR r).Nodup) {p:List Nat} (hp:∀ i∈p,i<r.ti.length) {j:Nat} (hj:j<r.ti.length):jL (p.map (dw r)) (dw r j)=p.contains j:=by
 rw [ZaW,fG,ZaN,Zy];constructor
 ·rintro ⟨i,hi,e⟩;rw [<- vj hd (hp i hi) hj e];exact hi
 ·exact fun h=>⟨j,h,I⟩
theorem My (hb:fZ r=0) (v:Int) (L:List ByteArray):oF r v L=yJ r.po v L:=by
 unfold oF yJ;refine List.countP_congr fun x _=>?_;rw [decide_eq_true_iff,Zbd,Fo hb v x]
theorem Lw (r:Ro):∀ A B:List ByteArray,Bd r A B=HP (bA (cR r)) A B
 | [],[]=>rfl
 | [],_::_=>rfl
 | _::_,[]=>rfl
 | a::l,b::m=>by rw [Bd,HP,Lw r l m]
theorem Pe (hb:fZ r=0) (hd:(cR r).Nodup) {v:Int} (so:ByteArray) {a b:List Nat} (ha:∀ i∈a,i<r.ti.length) (hc:∀ i∈b,i<r.ti.length):Pf r v (a.map (dw r)) (b.map (dw r))=(dJ r r.po v so).lt a b:=by
 rw [<- Lr (po:=r.po) (v:=v) (s:=so) hd ha hc];unfold Pf lsN;rw [My hb,My hb,Lw];by_cases h1:yJ r.po v (a.map (dw r))=yJ r.po v (b.map (dw r))
 ·rw [if_pos h1,if_neg (not_not_intro h1)];by_cases h2:(a.map (dw r)).length=(b.map (dw r)).length
  ·rw [if_pos h2,if_neg (not_not_intro h2)]
  ·rw [if_neg h2,if_pos h2]
 ·rw [if_neg h1,if_pos h1]
theorem Tu (dU:sg r) (hd:(cR r).Nodup) {v:Int} {so de:ByteArray} (hs:so∈cK r) {p:List Nat} (hp:(dJ r r.po v so).ok p):YB r v so de (p.map (dw r))=decide ((dJ r r.po v so).fin p=lo r de):=by
 have aM:∀ i∈p,i<r.ti.length:=Wn.sL hp;have hL:∀ x∈p.map (dw r),x∈cR r:=fun x hx=>by
  obtain ⟨i,hi,rfl⟩:=Zy.1 hx;exact mP (aM i hi)
 have hw:=Wp (po:=r.po) (v:=v) (s:=so) (m:=lo r de) dU.wJ hd (Wn.wH hp) aM;rw [py hs,FH dU hd _ _ _ hL] at hw;unfold YB;exact decide_eq_decide.2 (hw.trans ⟨fun h=>h.2,fun h=>⟨hp,h⟩⟩)
theorem SE (dU:sg r) {v:Int} {so:ByteArray} {p:List Nat} {j:Nat} (hj:j<r.ti.length):(dJ r r.po v so).step p j=(!p.contains j&&(p.isEmpty&&gM r.po v (dw r j)&&decide (jD r v (dw r j)=so)||!gM r.po v (dw r j)&&decide ((ig r j).fr=(dJ r r.po v so).fin p))):=by
 have e:(gM r.po v (dw r j)&&decide (jD r v (dw r j)=so))=(dJ r r.po v so).ca j:=rU dU.wJ dU.val v so j;unfold Wn.step;rw [Bool.and_assoc,e,show decide (j<(dJ r r.po v so).n)=true from decide_eq_true hj,Zau]
 rfl
def I8 (r:Ro) (v:Int) (so de:ByteArray) (k:Nat) (p:List Nat):List (List ByteArray):=((dJ r r.po v so).all (lo r de) k p).map fun q=>q.map (dw r)
theorem I7 (r:Ro) (v:Int) (so de:ByteArray) (k:Nat) (p:List Nat):I8 r v so de (k+1) p=(if (dJ r r.po v so).fin p=lo r de then [p.map (dw r)] else [])++(((List.range r.ti.length).filter ((dJ r r.po v so).step p)).flatMap fun j=>I8 r v so de k (p++[j])):=by
 unfold I8;rw [Wn.all,Zt,List.map_flatMap];congr 1;split <;> rfl
def Si (r:Ro) (v:Int) (so de:ByteArray) (k:Nat) (p:List Nat) (i:Nat):List (List ByteArray):=((List.range i).filter ((dJ r r.po v so).step p)).flatMap fun j=>I8 r v so de k (p++[j])
theorem I6 (r:Ro) (v:Int) (so de:ByteArray) (k:Nat) (p:List Nat) (i:Nat):Si r v so de k p (i+1)=Si r v so de k p i++if (dJ r r.po v so).step p i=true then I8 r v so de k (p++[i]) else []:=by
 unfold Si;rw [Zbq,ZaP,List.flatMap_append];congr 1;by_cases h:(dJ r r.po v so).step p i=true
 ·rw [List.filter_cons,if_pos h,if_pos h];simp
 ·rw [List.filter_cons,if_neg h,if_neg h];rfl
theorem qA {P:Program} {dst:Option Tmp} {ty:TypeId} {pos:String} {af:Array Edge} {g:Option (Nat×Bool)} {t e:TypeId} {agg:Bool} {size:Nat} [hu:jw P t (.slice e)] [Ty P e agg size]:ql P c sl hs ⟨dst,.buildSlice t 0 #[],ty,pos,af,g⟩ (fun b=>.w b 0 0) (.cells #[] e):=
 kP (ps:=#[]) (fun a ha=>by simp) (fun w=>by
  unfold Instr.buildSlice;simp only [Sem.run_bind,aX hu.eq,Result.andThen_ok,gl (t:=e) (agg:=agg) (n:=size),Zbs];rw [if_neg (by omega)];simp only [if_true,Sem.run_bind,Sem.run_pure,Result.andThen_ok];simp [newRow,Instr.fill,show Array.range 0=#[] from I])
set_option maxHeartbeats 1000000 in
theorem K6 (h:RR w r s d t p) (hf:kE r):bh T_ 76 [RA r s d t p] w [] (fun _:Value×Value×Value×Value=>True) (fun x=>RA r x.1 x.2.1 x.2.2.1 x.2.2.2) (fun x=>qt r x):=by
 obtain ⟨h1,h2,h3,h4⟩:=h.one;obtain ⟨f1,f2,f3,f4⟩:=hf;unfold RA;refine aR func76 I I ?_;refine Jr<|Jy I I fun _ _=>Jz I I fun _ _=>Ji ?_
 with_reducible refine a8 qA I (fun bq nf=>?_)
 refine bP (g:=bq) (E:=118) (ys:=[]) 0 2 (by exact .here) I I I ?_
 (refine bG I I ae<|JL I bI I ?_)
 with_reducible apply eX
 case hx=>exact Is.of I
 case hy=>exact Is.of I
 case ht=>exact .here
 case hsrc=>exact fun w' aB=>Rd.keeps h.sr aB.keeps
 case h1=>exact F5 r.sr
 case hz=>exact I
 case hsz=>exact I
 case hb0=>exact I
 case hb=>rw [ct];omega
 case hd=>rfl
 intro v';rw [ct,Zx,Za,show (vZ r.sr).flatten=kG r.sr from I];refine aK (v:=v') (by exact .here) fun a1 c1 e=>?_;subst e
 (refine bG I I ae<|ao (.of I) (.of I) bI I I (dG I) (bu I) ai<|Ji ?_)
 with_reducible refine a8 qA I (fun bq nf=>?_)
 refine bP (g:=bq) (E:=88) (ys:=[]) 0 3 (by exact .here) I I I ?_
 (refine bG I I ae<|JL I (.there .here) I ?_)
 with_reducible apply eX
 case hx=>exact Is.of I
 case hy=>exact Is.of I
 case ht=>exact .here
 case hsrc=>exact fun w' aB=>Rd.keeps h.de aB.keeps
 case h1=>exact GX r.de
 case hz=>exact I
 case hsz=>exact I
 case hb0=>exact I
 case hb=>rw [bY];omega
 case hd=>rfl
 intro v';rw [bY,Zx,Za,show (vJ r.de).flatten=jX r.de from I];refine aK (v:=v') (by exact .here) fun a2 c2 e=>?_;subst e
 (refine bG I I ae<|ao (.of I) (.of I) (.there .here) I I (dG I) (bu I) ai<|Ji ?_)
 with_reducible refine a8 qA I (fun bq nf=>?_)
 refine bP (g:=bq) (E:=122) (ys:=[]) 0 3 (by exact .here) I I I ?_
 (refine bG I I ae<|JL I (.there .here) I ?_)
 with_reducible apply eX
 case hx=>exact Is.of I
 case hy=>exact Is.of I
 case ht=>exact .here
 case hsrc=>exact fun w' aB=>Rd.keeps h.ti aB.keeps
 case h1=>exact FZ r.ti
 case hz=>exact I
 case hsz=>exact I
 case hb0=>exact I
 case hb=>rw [bQ];omega
 case hd=>rfl
 intro v';rw [bQ,Zx,Za,show (vm r.ti).flatten=kU r.ti from I];refine aK (v:=v') (by exact .here) fun a3 c3 e=>?_;subst e
 (refine bG I I ae<|ao (.of I) (.of I) (.there .here) I I (dG I) (bu I) ai<|Ji ?_)
 with_reducible refine a8 qA I (fun bq nf=>?_)
 refine bP (g:=bq) (E:=180) (ys:=[]) 0 3 (by exact .here) I I I ?_
 (refine bG I I ae<|JL I (.there .here) I ?_)
 with_reducible apply eX
 case hx=>exact Is.of I
 case hy=>exact Is.of I
 case ht=>exact .here
 case hsrc=>exact fun w' aB=>Rd.keeps h.po aB.keeps
 case h1=>exact A3 r.po
 case hz=>exact I
 case hsz=>exact I
 case hb0=>exact I
 case hb=>rw [cT];omega
 case hd=>rfl
 intro v';rw [cT,Zx,Za,show (uE r.po).flatten=gA r.po from I];refine aK (v:=v') (by exact .here) fun a4 c4 e=>?_;subst e
 (refine bG I I ae<|ao (.of I) (.of I) (.there .here) I I (dG I) (bu I) ai<|Ji<|ab (cm .here) I<|ao (.of I) (.of I) eD I I (fk I I I I I I) (bu I) ai<|Jn<|Je ?_)
 first | with_reducible apply aO | with_reducible apply aQ
 case he=>exact iP I inferInstance I .here ai (by rfl)
 case hR=>
  intro w' aB;exact aF (.slice a1 r.sr.length c1,.slice a2 r.de.length c2,.slice a3 r.ti.length c3,.slice a4 r.po.length c4) trivial (by exact .cons eD (.cons dL (.cons cZ (.cons bI .nil)))) aB I
def He (r:Ro) (v:Int) (o:ByteArray) (l:List Po):List Po:=l.filter fun p=>!r6 v o p
theorem J8 {o:ByteArray} (h:k<l.length):He r v o (l.take (k+1))=He r v o (l.take k)++if r6 v o l[k]=true then [] else [l[k]]:=by
 unfold He;rw [Zm h,ZaP];congr 1;by_cases e:r6 v o l[k]=true
 ·rw [if_pos e];simp [e]
 ·rw [if_neg e];simp [e]
set_option maxHeartbeats 1000000 in
theorem FM (v:Int) (o:ByteArray) (h:RR w r s d t p) (hf:kE r):bh T_ 168 [RA r s d t p,.q v,.string o] w [] (fun _:Value×Value×Value×Value=>True) (fun x=>RA r x.1 x.2.1 x.2.2.1 x.2.2.2) (fun x=>qt (r.wp (He r v o r.po)) x):=by
 obtain ⟨h1,h2,h3,h4⟩:=h.one;have EZ:=h.po;obtain ⟨a4,eV,NN,IJ,rfl,re,jV,zS,ud⟩:=EZ;rw [cT] at *;unfold maxLen at jV;have hf4:=hf.2.2.2;unfold RA;refine aR func168 I I ?_;refine Jr<|Jy I I fun _ _=>Jz I I fun _ _=>Ji<|ab (cm (.there .here)) I ?_;rename_i b3 uf b6 hb6;refine JN bN I (fun w1 aT=>K6 (h.keeps aT.keeps) hf) ?_;rintro ⟨s1,d1,t1,p1⟩ _;dsimp only;unfold RA;refine jF (r:=r) (s:=s1) (d:=d1) (t:=t1) (p:=p1) (br _ _) fun k1 k2 k3 k4=>?_
 (refine Jz I I fun _ _=>ao (.of I) (.of I) .here I I (fk I I k1 k2 k3 k4) (bu I) ai<|Ji<|bG I I ae<|ao (.of I) (.of I) .here I I (dG I) (bu I) ai<|Jn<|Jq<|Jr<|Ja I<|Jn<|J0 ?_)
 rename_i b7 Um;refine aN 180 3 ?_;refine aV (ι:=Nat×Option Addr×Nat×List Po) (fun y=>y.1<=r.po.length/\y.2.2.2=He r v o (r.po.take y.1)) (fun y=>[(8,.q (y.1:Nat)),(7,.p b7),(1,.q v),(2,.string o),(3,.p b3),(6,.p b6)]) (fun y=>[row 180 3 (.slice y.2.1 (y.2.2.2).length y.2.2.1) (y.2.2.2).length (gA (y.2.2.2)),JQ b7 r s1 d1 t1 (.slice y.2.1 (y.2.2.2).length y.2.2.1),row 118 2 s1 r.sr.length (kG r.sr),row 88 3 d1 r.de.length (jX r.de),row 122 3 t1 r.ti.length (kU r.ti),JQ b3 r s d t (.slice a4 r.po.length eV),bz b6 (.cells #[.q 0,.q 0,.z,.z,.z,.z] 27 (0,0))]) (fun y=>r.po.length-y.1) ?_ ?_
 ·apply aI (0,none,0,[]) ⟨Zi _,I⟩
  case hs1=>exact bS
  case ht=>
   exact .h5 (.cons bI (.cons (.there .here) .nil))
 rintro ⟨k,g1,oX,L⟩ ⟨hk,hL⟩;dsimp only at hk hL ⊢;by_cases aM:k<r.po.length
 ·have DZ:L.length<=1000000:=by rw [hL];unfold He;have:=ZY (fun p=>!r6 v o p) (r.po.take k);rw [Zq] at this;omega
  have hlen:(gA L).length=L.length*3:=im L;have cu:=zS (kl aM);have aC:=(ud k _ (iq aM)).2;have gn:=J8 (r:=r) (v:=v) (o:=o) aM;rw [<- hL] at gn;unfold Po.cells at aC;generalize r.po[k]=x at aC gn;have cL:=aC 0 _ I;have cO:=aC 1 _ I
  (refine Jq<|Jr<|Jv I<|bG I I ae<|JL I eD I<|JI I<|JA I<|Jn<|Jd I fun au=>Jk<|Jq<|J0<|Jr<|bG I I ae<|JL I eD I<|Jv I<|ab (fY cu au) I<|bG I I ae<|ab (ag (.of I) (At.base cL I)) I<|Jv I<|JD I<|Jv I<|aH I I inferInstance (fun hg bE=>(aq (.of I) ae)) I<|aH I I inferInstance (fun hg bE=>(ag (.bM hg I) (At.lit eD I))) I<|jz I I I I<|aH I I inferInstance (fun hg bE=>(an (.bM hg I) (.bM hg I) cu (by omega) au aW)) I<|aH I I inferInstance (fun hg bE=>(aq (.bM hg I) ae)) I<|aH I I inferInstance (fun hg bE=>(ag (.bM hg I) (At.base cO I))) I<|jz I I I I<|aH I I inferInstance (fun hg bE=>(fy (.bM hg I) (.bM hg I))) I<|ab (bH (.of I) I) I<|Jn<|nW I (fun au=>?_) fun au=>?_;rotate_left;refine Jw<|Jj<|Jt<|Jg<|Jv I<|JB I (by omega)<|Ja I<|Jn ?_;rotate_right)
  ·have e:r6 v o x=false:=by
    unfold r6;rcases au with q | q
    ·rw [decide_eq_false q];rfl
    ·rw [decide_eq_false q];simp
   rw [e,if_neg (by decide)] at gn
   with_reducible refine dO 8 (by kernel_rfl) ?_
   (refine aA (fun β=>(aq (.of I) ae)) bo I<|aA (fun β=>(ag (.of I) (At.lit (.there .here) I))) bo I<|aA (fun β=>(aq (.of I) ae)) bo I<|aA (fun β=>(ag (.of I) (At.lit eD I))) bo I<|aA (fun β=>(aS (.of I))) bo I<|aA (fun β=>(an (.of I) (.of I) cu (by omega) (by assumption) aW)) bo I<|aA (fun β=>(ja (.of I) (eR.base aC I) I)) bo I ?_)
   refine kD (fun β=>(ba (.o I .nil) I I bB bB ai)) (fun _ _ _=>rfl) I ?_;dsimp only [Nat.zero_add,Nat.reduceAdd];refine fq fun β=>?_;dsimp only [ez,Za,Zb,List.append_eq,Nat.reduceAdd];generalize ed (β 7)=bq;clear β;refine bR (rs:=[8]) (by kernel_rfl) (by simp) (Zw.2 ⟨?_,fun _ h=>absurd h Zp⟩);refine cd I ?_;refine bn (.of I) (.of I) (.there .here) .here ai (by rfl) (fv I I I) (by rfl) (by rfl) (by rfl) dW (by rfl) ?_;intro z;refine Jn ?_;refine bR (rs:=[9]) (by kernel_rfl) (by simp) (Zw.2 ⟨?_,fun _ h=>absurd h Zp⟩);refine cd I ?_
   (refine bG I I ae<|Jn ?_)
   refine aK (v:=z) (by exact .here) fun gx cx e0=>?_;subst e0;refine bR (rs:=[10]) (by kernel_rfl) (by simp) (Zw.2 ⟨?_,fun _ h=>absurd h Zp⟩);refine cd I ?_
   (refine ao (.of I) (.of I) bI I I (dG I) (bu I) ai<|Jn ?_)
   with_reducible refine cE (by kernel_rfl) ?_
   refine Jj<|Jt<|Jg<|Jv I<|JB I (by omega)<|Ja I<|Jn ?_;apply aG (k+1,gx,cx,L++[x]) ⟨(show k+1<=r.po.length from aM),gn.symm⟩ (show r.po.length-(k+1)<r.po.length-k by omega)
   case hs1=>exact bS
   case ht=>
    have a7:gA (L++[x])=gA L++[.q x.lv,.string x.ou,.string x.ip]:=by rw [A2];rfl
    show bC _ [row 180 3 (.slice gx (L++[x]).length cx) (L++[x]).length (gA (L++[x])),bz b7 (.cells #[.q r.lv,.q r.ma,s1,d1,t1,.slice gx (L++[x]).length cx] 27 (0,0)),row 118 2 s1 r.sr.length (kG r.sr),row 88 3 d1 r.de.length (jX r.de),row 122 3 t1 r.ti.length (kU r.ti),JQ b3 r s d t (.slice a4 r.po.length eV),bz b6 (.cells #[.q 0,.q 0,.z,.z,.z,.z] 27 (0,0))] _;rw [a7,Zg,Z8];exact .cons (.there .here) (.h1 (.cons (.there .here) (.cons (.there .here) (.cons (.there .here) (.cons (.there .here) (.cons (.there .here) .nil))))))
  ·have e:r6 v o x=true:=by
    unfold r6;have q:=au;simp at q;rw [decide_eq_true q.1,decide_eq_true q.2];rfl
   rw [e,if_pos I,ZN] at gn;apply aG (k+1,g1,oX,L) ⟨(show k+1<=r.po.length from aM),gn.symm⟩ (show r.po.length-(k+1)<r.po.length-k by omega)
   case hs1=>exact bS
   case ht=>exact iQ
 ·obtain rfl:k=r.po.length:=by omega
  rw [ZO] at hL;subst hL
  (refine Jq<|Jr<|Jv I<|bG I I ae<|JL I eD I<|JI I<|JA I<|Jn<|Jc I fun au=>Jp<|Jl<|Jo<|Jt<|Jr<|ab (cm (.there .here)) I<|ao (.of I) (.of I) mN I I (fk I I k1 k2 k3 I) (bu I) ai<|Jn<|Je ?_)
  first | with_reducible apply aO | with_reducible apply aQ
  case he=>exact iP I inferInstance I .here ai (by rfl)
  case hR=>
   intro w' aB;exact aF (s1,d1,t1,.slice g1 (He r v o r.po).length oX) trivial (by exact .cons cZ (.cons cZ (.cons cZ (.cons (.there .here) .nil)))) aB I
theorem Pm {x b:Po} (h:nF r x b=true):eG r x (b::l)=x::b::l:=if_pos h
theorem Tv {x b:Po} (h:nF r x b=false):eG r x (b::l)=b::eG r x l:=if_neg (by rw [h];decide)
theorem BE (h:k<l.length):l.drop k=l[k]::l.drop (k+1):=Zu h
theorem k8 {α:Type} (L:List α) (x:α):L.length+1=(L++[x]).length:=by simp
theorem sH (L:List Po) (x:Po):gA (L++[x])=gA L++[.q x.lv,.string x.ou,.string x.ip]:=by rw [A2];rfl
def tr (r:Ro) (x:Po) (k:Nat) (pl:Bool) (L:List Po):Prop:=(pl=true/\eG r x r.po=L++r.po.drop k/\L.length=k+1)\/(pl=false/\eG r x r.po=L++eG r x (r.po.drop k)/\L.length=k)
theorem tr.pl {r:Ro} {x:Po} {k:Nat} {pl:Bool} {L:List Po} (h:tr r x k pl L) (hk:k<r.po.length) (hp:pl=true\/nF r x r.po[k]=false):tr r x (k+1) pl (L++[r.po[k]]):=by
 rcases h with ⟨e,h1,h2⟩ | ⟨e,h1,h2⟩
 ·exact .inl ⟨e,by rw [h1,BE hk];simp,by simp [h2]⟩
 ·refine .inr ⟨e,?_,by simp [h2]⟩;rcases hp with q | q
  ·rw [e] at q;cases q
  ·rw [h1,BE hk,Tv q];simp
theorem tr.put (h:tr r x k false L) (hk:k<r.po.length) (hp:nF r x r.po[k]=true):tr r x (k+1) true (L++[x]++[r.po[k]]):=by
 rcases h with ⟨e,h1,h2⟩ | ⟨e,h1,h2⟩
 ·cases e
 ·exact .inl ⟨I,by rw [h1,BE hk,Pm hp];simp,by simp [h2]⟩
theorem tr.acI (h:tr r x r.po.length true L):L=eG r x r.po:=by
 rcases h with ⟨e,h1,h2⟩ | ⟨e,h1,h2⟩
 ·rw [h1,Z3,ZN]
 ·cases e
theorem tr.acJ (h:tr r x r.po.length false L):L++[x]=eG r x r.po:=by
 rcases h with ⟨e,h1,h2⟩ | ⟨e,h1,h2⟩
 ·cases e
 ·rw [h1,Z3];rfl
theorem tr.Bz {pl:Bool} (h:tr r x k pl L):L.length<=k+1:=by
 rcases h with ⟨_,_,h2⟩ | ⟨_,_,h2⟩ <;> omega
set_option maxHeartbeats 1000000 in
theorem VW (h:RR w r s d t p) (hf:kE r):bh T_ 170 [RA r s d t p,.agg #[.q x.lv,.string x.ou,.string x.ip]] w [] (fun _:Value×Value×Value×Value=>True) (fun y=>RA r y.1 y.2.1 y.2.2.1 y.2.2.2) (fun y=>qt (r.wp (eG r x r.po)) y):=by
 obtain ⟨h1,h2,h3,h4⟩:=h.one;have EZ:=h.po;have WZ:∀ (o:ByteArray) {w'},aJ [] w w'->ak T_ 230 [.agg #[.int .i64 r.lv,.int .i64 r.ma,s,d,t,p],.string o] w' (.int .i64 (eC r o)):=fun o _ hk=>Gi o (h.keeps hk) hf
 obtain ⟨a4,eV,NN,IJ,rfl,re,jV,zS,ud⟩:=EZ;have hoa:=fun (o:ByteArray) {w'}=>WZ o (w':=w')
 clear WZ;rw [cT] at *;unfold maxLen at jV;have hf4:=hf.2.2.2;unfold RA;refine aR func170 I I ?_;refine Jr<|Jy I I fun _ _=>Jy I I fun _ _=>Jz I I fun _ _=>Ji<|ab (cm bI) I ?_;rename_i b2 rf b3 uf b4 uT;refine JN bN I (fun w1 aT=>K6 (h.keeps aT.keeps) hf) ?_;rintro ⟨s1,d1,t1,p1⟩ _;dsimp only;unfold RA;refine jF (r:=r) (s:=s1) (d:=d1) (t:=t1) (p:=p1) (br _ _) fun k1 k2 k3 k4=>?_
 (refine Jz I I fun _ _=>ao (.of I) (.of I) .here I I (fk I I k1 k2 k3 k4) (bu I) ai<|Ji<|bG I I ae<|ao (.of I) (.of I) .here I I (dG I) (bu I) ai<|Ji<|Ja I<|Jn<|Jq<|Jr<|Ja I<|Jn<|J0 ?_)
 rename_i b5 H7;refine aN 180 3 ?_;refine aV (ι:=Nat×Bool×Option Addr×Nat×List Po) (fun y=>y.1<=r.po.length/\tr r x y.1 y.2.1 y.2.2.2.2) (fun y=>[(7,.q (y.1:Nat)),(6,.bool y.2.1),(5,.p b5),(2,.p b2),(3,.p b3),(4,.p b4)]) (fun y=>[row 180 3 (.slice y.2.2.1 (y.2.2.2.2).length y.2.2.2.1) (y.2.2.2.2).length (gA (y.2.2.2.2)),JQ b5 r s1 d1 t1 (.slice y.2.2.1 (y.2.2.2.2).length y.2.2.2.1),row 118 2 s1 r.sr.length (kG r.sr),row 88 3 d1 r.de.length (jX r.de),row 122 3 t1 r.ti.length (kU r.ti),JQ b2 r s d t (.slice a4 r.po.length eV),bz b3 (.cells #[.q x.lv,.string x.ou,.string x.ip] 180 (0,0)),bz b4 (.cells #[.q 0,.q 0,.z,.z,.z,.z] 27 (0,0))]) (fun y=>r.po.length-y.1) ?_ ?_
 ·apply aI (0,false,none,0,[]) ⟨Zi _,.inr ⟨I,I,I⟩⟩
  case hs1=>exact bS
  case ht=>
   exact .h5 (.cons cZ (.cons bI (.cons (.there .here) .nil)))
 rintro ⟨k,pl,g1,oX,L⟩ ⟨hk,hL⟩;dsimp only at hk hL ⊢;have hLf:=hL.Bz;by_cases aM:k<r.po.length
 ·have hlen:(gA L).length=L.length*3:=im L;have cu:=zS (kl aM);have aC:=(ud k _ (iq aM)).2;have oN:=fun q=>hL.pl aM q
  have hye:=fun (q1:pl=false) q2=>tr.put (r:=r) (x:=x) (k:=k) (L:=L) (by rw [<- q1];exact hL) aM q2
  unfold Po.cells at aC;generalize r.po[k]=z at aC oN hye
  (refine Jq<|Jr<|Jv I<|bG I I ae<|JL I eD I<|JI I<|JA I<|Jn<|Jd I fun au=>Jk<|Jq<|J0<|Jr<|bG I I ae<|JL I eD I<|Jv I<|ab (fY cu au) I<|ab (iU (eR.base aC I)) I<|Jz I I fun _ _=>ao (.of I) (.of I) .here I I (fv I I I) (bu I) ai<|Jn<|Jq<|Jq ?_)
  rename_i b8 Xu
  with_reducible refine cJ 27 (by kernel_rfl) ?_
  (refine fW I I<|ar (eF (.of I)) I<|fW I I<|bL I I inferInstance (fun hg bE=>(aq (.of I) ae)) I<|bL I I inferInstance (fun hg bE=>(ag (.bM hg I) (At.lit oL I))) I<|bL I I inferInstance (fun hg bE=>(aq (.of I) ae)) I<|bL I I inferInstance (fun hg bE=>(ag (.bM hg I) (At.lit .here I))) I<|bL I I inferInstance (fun hg bE=>(lr (.bM hg I) (.bM hg I))) I<|bL I I inferInstance (fun hg bE=>(aS (.bM hg I))) I<|gN I I inferInstance (fun hg bE=>(aq (.of I) ae)) I<|gN I I inferInstance (fun hg bE=>(ag (.bM hg I) (At.lit oL I))) I<|gN I I inferInstance (fun hg bE=>(aq (.of I) ae)) I<|gN I I inferInstance (fun hg bE=>(ag (.bM hg I) (At.lit .here I))) I<|gN I I inferInstance (fun hg bE=>(oo (.bM hg I) (.bM hg I))) I<|gN I I inferInstance (fun hg bE=>(aS (.bM hg I))) I<|gN I I inferInstance (fun hg bE=>(bK (.of I) mN ai (by rfl))) I<|gN I I inferInstance (fun hg bE=>(aq (.of I) ae)) I<|gN I I inferInstance (fun hg bE=>(ag (.bM hg I) (At.lit oL I))) I<|nY I I (fun hg=>(bj (.of I) (.cons (.bM hg I) (.cons (.bM hg I) .nil)) inferInstance eY)) I (fun hg w' aB=>(hoa _ (Mem.keeps aB)))<|gN I I inferInstance (fun hg bE=>(bK (.of I) mN ai (by rfl))) I<|gN I I inferInstance (fun hg bE=>(aq (.of I) ae)) I<|gN I I inferInstance (fun hg bE=>(ag (.bM hg I) (At.lit .here I))) I<|nY I I (fun hg=>(bj (.of I) (.cons (.bM hg I) (.cons (.bM hg I) .nil)) inferInstance eY)) I (fun hg w' aB=>(hoa _ (Mem.keeps aB)))<|gN I I inferInstance (fun hg bE=>(lr (.bM hg I) (.bM hg I))) I<|gN I I inferInstance (fun hg bE=>(jn hg (.bM hg I) I)) I<|bL I I inferInstance (fun hg bE=>(kY hg (.bM hg I) I)) I<|ar (ch (.of I) I) I ?_)
  with_reducible refine cN ?_
  (refine Jn<|nW I (fun au=>?_) fun au=>?_;refine Jr<|bG I I ae<|JL I bI I<|ab (cm oL) I<|a8 (ba (.o I .nil) I I bB bB ai) I fun _ _=>?_;rotate_left;refine Jk<|Jg<|bG I I ae<|JL I bI I<|ab (cm .here) I<|a8 (ba (.o I .nil) I I bB bB ai) I fun _ _=>?_;rotate_right)
  ·have hp:nF r x z=true:=by
    unfold nF;rcases au.2 with q | ⟨q1,q2⟩
    ·rw [decide_eq_true q];rfl
    ·rw [decide_eq_true q1,decide_eq_true q2];simp
   have gn:=hye au.1 hp;have E5:(L++[x]).length=L.length+1:=(k8 L x).symm;have adg:(gA (L++[x])).length=(L++[x]).length*3:=im _;refine bn (.of I) (.of I) bI .here ai (by rfl) (fv I I I) (by rfl) (by rfl) (by rfl) dW (by rfl) ?_;intro q;refine aK (v:=q) (by exact .here) fun gx cx e0=>?_;subst e0;rw [<- sH,k8 (L) x]
   (refine bG I I ae<|ao (.of I) (.of I) cZ I I (dG I) (bu I) ai<|Jn<|Jg<|Ja I<|Jn<|Jg<|bG I I ae<|JL I .here I<|ab (cm cZ) I<|a8 (ba (.o I .nil) I I bB bB ai) I fun _ _=>?_)
   refine bn (.of I) (.of I) bI .here ai (by rfl) (fv I I I) (by rfl) (by rfl) (by rfl) dW (by rfl) ?_;intro q;refine aK (v:=q) (by exact .here) fun gx cx e0=>?_;subst e0;rw [<- sH,k8 (L++[x]) z]
   (refine bG I I ae<|ao (.of I) (.of I) bI I I (dG I) (bu I) ai<|Jx<|Jj<|Jt<|Jg<|Jv I<|JB I (by omega)<|Ja I<|Jn ?_)
   apply aG (k+1,true,gx,cx,L++[x]++[z]) ⟨(show k+1<=r.po.length from aM),gn⟩ (show r.po.length-(k+1)<r.po.length-k by omega)
   case hs1=>exact bS
   case ht=>exact iQ
  ·have hq:pl=true\/nF r x z=false:=by
    cases pl with
    | true=>exact .inl rfl
    | false =>
     refine .inr ?_;unfold nF;obtain ⟨q1,q2⟩:=au.resolve_left (by decide);rw [decide_eq_false q1];rcases q2 with q2 | q2
     ·rw [decide_eq_false q2];rfl
     ·rw [decide_eq_false q2];simp
   have gn:=oN hq;refine bn (.of I) (.of I) bI .here ai (by rfl) (fv I I I) (by rfl) (by rfl) (by rfl) dW (by rfl) ?_;intro q;refine aK (v:=q) (by exact .here) fun gx cx e0=>?_;subst e0;rw [<- sH,k8 (L) z]
   (refine bG I I ae<|ao (.of I) (.of I) cZ I I (dG I) (bu I) ai<|Jx<|Jj<|Jt<|Jg<|Jv I<|JB I (by omega)<|Ja I<|Jn ?_)
   apply aG (k+1,pl,gx,cx,L++[z]) ⟨(show k+1<=r.po.length from aM),gn⟩ (show r.po.length-(k+1)<r.po.length-k by omega)
   case hs1=>exact bS
   case ht=>exact iQ
 ·obtain rfl:k=r.po.length:=by omega
  have hlen:(gA L).length=L.length*3:=im L;cases pl with
  | true =>
   have e:=hL.acI;subst e
   (refine Jq<|Jr<|Jv I<|bG I I ae<|JL I eD I<|JI I<|JA I<|Jn<|Jc I fun au=>Jp<|Jl<|Jo<|Jt<|Jq<|Jr<|Jv I<|JH I<|Jn<|bZ (.of I)<|Jk<|Jr<|ab (cm (.there .here)) I<|ao (.of I) (.of I) oL I I (fk I I k1 k2 k3 I) (bu I) ai<|Jn<|Je ?_)
   first | with_reducible apply aO | with_reducible apply aQ
   case he=>exact iP I inferInstance I .here ai (by rfl)
   case hR=>
    intro w' aB;exact aF (s1,d1,t1,.slice g1 (eG r x r.po).length oX) trivial (by exact .cons cZ (.cons cZ (.cons cZ (.cons (.there .here) .nil)))) aB I
  | false =>
   have e:=hL.acJ
   (refine Jq<|Jr<|Jv I<|bG I I ae<|JL I eD I<|JI I<|JA I<|Jn<|Jc I fun au=>Jp<|Jl<|Jo<|Jt<|Jq<|Jr<|Jv I<|JH I<|Jn<|cY (.of I)<|Jg<|bG I I ae<|JL I (.there .here) I<|ab (cm mN) I<|a8 (ba (.o I .nil) I I bB bB ai) I fun _ _=>?_)
   refine bn (.of I) (.of I) (.there .here) .here ai (by rfl) (fv I I I) (by rfl) (by rfl) (by rfl) dW (by rfl) ?_;intro q;refine aK (v:=q) (by exact .here) fun gx cx e0=>?_;subst e0;rw [<- sH,k8 (L) x]
   (refine bG I I ae<|ao (.of I) (.of I) bI I I (dG I) (bu I) ai<|Ji<|ab (cm .here) I<|ao (.of I) (.of I) Iy I I (fk I I k1 k2 k3 I) (bu I) ai<|Jn<|Je ?_)
   rw [e]
   first | with_reducible apply aO | with_reducible apply aQ
   case he=>exact iP I inferInstance I .here ai (by rfl)
   case hR=>
    intro w' aB;exact aF (s1,d1,t1,.slice gx (eG r x r.po).length cx) trivial (by exact .cons dL (.cons dL (.cons dL (.cons bI .nil)))) aB I
theorem At.tie {E:TypeId} {g n cap i j o:Nat} {l:List Ti} {u:Value} (ht:Take hs (row E 3 (.w g n cap) n (kU l)) hs') (hi:i<l.length) (hn:l.length=n) (hj:(Ti.cells l[i])[j]? = some u) (ho:o=i*3+j):At c hs g o u:=fun w hm=>by
 have h:=cU hm ht hn;obtain ⟨a,iz,b,o',e,_,_,ha,hc⟩:=h;injection e with e1 e2 e3
 have:=ha (fm hi);rw [this] at e1;injection e1 with e1
 injection e1 with e4 e5
 subst ho;have:=(hc i _ (ef hi)).2 j u hj;rw [<- e4,<- e5] at this;simpa using this
theorem N9 {D:List Nat} {X:Act->World->Prop} {E:TypeId} {sz n:Nat} {v:Value} {xs:List Value} (ht:Take hs (row E sz v n xs) hs') (h0:0<n) (k:∀ g cap,v=.w g n cap->Tr c D sl hs X):Tr c D sl hs X:=fun a w a7=>by
 obtain ⟨_,fp,_,⟨f1,f2,_,h1,_⟩,_⟩:=a7.qS.take ht;obtain ⟨_,_,⟨rfl,rfl⟩ | ⟨g,cap,cur,rfl,_⟩⟩:=h1
 ·exact absurd h0 (ZbD _)
 ·exact k _ _ I a w a7
theorem B9 (r:Ro) (v:Int) (i:Nat) (po:List Po):xY r v (i+1) po=if nD (xY r v i po) v (dw r i) then xY r v i po else He r v (dw r i) (xY r v i po):=rfl
theorem JV (r:Ro) (k:Nat) (po:List Po):B8 r (k+1) po=xY r (k:Nat) r.ti.length (B8 r k po):=rfl
theorem Kh (r:Ro) (n:Nat) (po:List Po):ym r (n+1) po=B8 r r.lv.toNat (ym r n po):=rfl
theorem vg (r:Ro) (v:Int) (po:List Po):∀ i,(xY r v i po).length<=po.length
 | 0=>Zz _
 | i + 1 => by
  rw [B9];split
  ·exact vg r v po i
  ·exact ZS (ZY _ _) (vg r v po i)
theorem Aq (r:Ro) (po:List Po):∀ k,(B8 r k po).length<=po.length
 | 0=>Zz _
 | k+1=>ZS (vg _ _ _ _) (Aq r po k)
theorem FO (r:Ro) (po:List Po):∀ n,(ym r n po).length<=po.length
 | 0=>Zz _
 | n+1=>ZS (Aq _ _ _) (FO r po n)
set_option maxHeartbeats 1000000 in
theorem Sz {fp:List Nat} (jq:fp.Nodup) (hs:cr (hp w) (qt r (s,d,t,p)) fp) (hf:kE r) (tW:0<=r.lv/\r.lv<=1000000):bh T_ 169 [RA r s d t p] w fp (fun _:Value×Value×Value×Value=>True) (fun x=>RA r x.1 x.2.1 x.2.2.1 x.2.2.2) (fun x=>qt (r.wp (ym r 6 r.po)) x):=by
 unfold RA;obtain ⟨f1,f2,f3,f4⟩:=hf;refine eh func169 I I jq hs ?_;refine jF (r:=r) (s:=s) (d:=d) (t:=t) (p:=p) (hs':=[]) (by have:=br (qt r (s,d,t,p)) [];rwa [ZN] at this) fun k1 k2 k3 k4=>?_;refine aK (E:=118) (sz:=2) (v:=s) (by exact .here) fun sa0 sc0 e=>?_;subst e;refine aK (E:=88) (sz:=3) (v:=d) (by exact Take.there .here) fun da0 dc0 e=>?_;subst e;refine aK (E:=122) (sz:=3) (v:=t) bI fun ta0 tc0 e=>?_;subst e;refine aK (E:=180) (sz:=3) (v:=p) cZ fun pa0 pc0 e=>?_;subst e;clear k1 k2 k3 k4;refine Jr<|Jy I I fun _ _=>Jz I I fun _ _=>Jn<|Jq<|Jr<|Ja I<|Jn<|J0 ?_;rename_i b1 r9 b2 rf;refine aV (ι:=Nat×List Po×(Option Addr×Nat)×(Option Addr×Nat)×(Option Addr×Nat)×(Option Addr×Nat)) (fun y=>y.2.1=ym r y.1 r.po/\y.1<=6) (fun y=>[(3,.int .i64 (y.1:Nat)),(1,.pointer (some ⟨b1,0,none⟩)),(2,.pointer (some ⟨b2,0,none⟩))]) (fun y=>[row 118 2 (.slice y.2.2.1.1 r.sr.length y.2.2.1.2) r.sr.length (kG r.sr),row 88 3 (.slice y.2.2.2.1.1 r.de.length y.2.2.2.1.2) r.de.length (jX r.de),row 122 3 (.slice y.2.2.2.2.1.1 r.ti.length y.2.2.2.2.1.2) r.ti.length (kU r.ti),row 180 3 (.slice y.2.2.2.2.2.1 (y.2.1).length y.2.2.2.2.2.2) (y.2.1).length (gA (y.2.1)),JQ b1 r (.slice y.2.2.1.1 r.sr.length y.2.2.1.2) (.slice y.2.2.2.1.1 r.de.length y.2.2.2.1.2) (.slice y.2.2.2.2.1.1 r.ti.length y.2.2.2.2.1.2) (.slice y.2.2.2.2.2.1 (y.2.1).length y.2.2.2.2.2.2),bz b2 (.cells #[.int .i64 0,.int .i64 0,.slice none 0 0,.slice none 0 0,.slice none 0 0,.slice none 0 0] 27 (0,0))]) (fun y=>6-y.1) ?_ ?_
 ·with_reducible apply aI (0,r.po,(sa0,sc0),(da0,dc0),(ta0,tc0),(pa0,pc0)) ⟨I,Zi _⟩
  case hs1=>exact bS
  case ht=>exact .cons bI (.cons bI (.cons bI (.cons bI (.cons (.there .here) (.h1 .nil)))))
 rintro ⟨n,q1,⟨QV,QT⟩,⟨da1,dc1⟩,⟨Yv,Yu⟩,⟨Yy,Yx⟩⟩ ⟨B0,hn⟩;dsimp only at B0 hn ⊢;by_cases YQ:n<6
 ·refine Jq<|Jr<|Jv I<|JA I<|Jn<|Jd I fun au=>Jk<|Jq<|J0<|Jr<|Ja I<|Jn<|J0 ?_;refine aV (ι:=Nat×List Po×(Option Addr×Nat)×(Option Addr×Nat)×(Option Addr×Nat)×(Option Addr×Nat)) (fun y=>y.2.1=B8 r y.1 q1/\y.1<=r.lv.toNat) (fun y=>[(4,.q (y.1:Nat)),(3,.q (n:Nat)),(1,.p b1),(2,.p b2)]) (fun y=>[row 118 2 (.slice y.2.2.1.1 r.sr.length y.2.2.1.2) r.sr.length (kG r.sr),row 88 3 (.slice y.2.2.2.1.1 r.de.length y.2.2.2.1.2) r.de.length (jX r.de),row 122 3 (.slice y.2.2.2.2.1.1 r.ti.length y.2.2.2.2.1.2) r.ti.length (kU r.ti),row 180 3 (.slice y.2.2.2.2.2.1 (y.2.1).length y.2.2.2.2.2.2) (y.2.1).length (gA (y.2.1)),JQ b1 r (.slice y.2.2.1.1 r.sr.length y.2.2.1.2) (.slice y.2.2.2.1.1 r.de.length y.2.2.2.1.2) (.slice y.2.2.2.2.1.1 r.ti.length y.2.2.2.2.1.2) (.slice y.2.2.2.2.2.1 (y.2.1).length y.2.2.2.2.2.2),bz b2 (.cells #[.q 0,.q 0,.z,.z,.z,.z] 27 (0,0))]) (fun y=>r.lv.toNat-y.1) ?_ ?_
  ·with_reducible apply aI (0,q1,(QV,QT),(da1,dc1),(Yv,Yu),(Yy,Yx)) ⟨I,Zi _⟩
   case hs1=>exact bS
   case ht=>exact iQ
  rintro ⟨v,q2,⟨Hw,Hv⟩,⟨Ql,Qk⟩,⟨On,Oi⟩,⟨OZ,OX⟩⟩ ⟨rb,hv⟩;dsimp only at rb hv ⊢;by_cases IM:v<r.lv.toNat
  ·(refine Jq<|Jr<|Jv I<|bG I I ae<|JL I dL I<|JA I<|Jn<|Jd I fun au=>Jk<|Jq<|J0<|Jr<|Ja I<|Jn<|J0 ?_)
   refine aV (ι:=Nat×List Po×(Option Addr×Nat)×(Option Addr×Nat)×(Option Addr×Nat)×(Option Addr×Nat)) (fun y=>y.2.1=xY r (v:Nat) y.1 q2/\y.1<=r.ti.length) (fun y=>[(5,.q (y.1:Nat)),(4,.q (v:Nat)),(3,.q (n:Nat)),(1,.p b1),(2,.p b2)]) (fun y=>[row 118 2 (.slice y.2.2.1.1 r.sr.length y.2.2.1.2) r.sr.length (kG r.sr),row 88 3 (.slice y.2.2.2.1.1 r.de.length y.2.2.2.1.2) r.de.length (jX r.de),row 122 3 (.slice y.2.2.2.2.1.1 r.ti.length y.2.2.2.2.1.2) r.ti.length (kU r.ti),row 180 3 (.slice y.2.2.2.2.2.1 (y.2.1).length y.2.2.2.2.2.2) (y.2.1).length (gA (y.2.1)),JQ b1 r (.slice y.2.2.1.1 r.sr.length y.2.2.1.2) (.slice y.2.2.2.1.1 r.de.length y.2.2.2.1.2) (.slice y.2.2.2.2.1.1 r.ti.length y.2.2.2.2.1.2) (.slice y.2.2.2.2.2.1 (y.2.1).length y.2.2.2.2.2.2),bz b2 (.cells #[.q 0,.q 0,.z,.z,.z,.z] 27 (0,0))]) (fun y=>r.ti.length-y.1) ?_ ?_
   ·with_reducible apply aI (0,q2,(Hw,Hv),(Ql,Qk),(On,Oi),(OZ,OX)) ⟨I,Zi _⟩
    case hs1=>exact bS
    case ht=>exact iQ
   rintro ⟨i,q,⟨sa,sc⟩,⟨da,dc⟩,⟨ta,tc⟩,⟨pa,pc⟩⟩ ⟨hq,hi⟩;dsimp only at hq hi ⊢;by_cases aM:i<r.ti.length
   ·have zN:(r.ti[i]).nm=dw r i:=by unfold dw;rw [nk aM]
    have gn:=B9 r (v:Nat) i q2;rw [<- hq] at gn;have Ri:q.length<=r.po.length:=by rw [hq,rb,B0];exact ZS (vg _ _ _ _) (ZS (Aq _ _ _) (FO _ _ _))
    refine N9 (E:=122) (sz:=3) (v:=.slice ta r.ti.length tc) bI (by omega) fun tg tc' e=>?_;cases e;have hcT:(Ti.cells r.ti[i])[0]? = some (.string (dw r i)):=by rw [<- zN];rfl
    have Wx:∀ w',RR w' (r.wp q) (.slice sa r.sr.length sc) (.slice da r.de.length dc) (.w tg r.ti.length tc) (.slice pa q.length pc)->ak T_ 233 [.agg #[.q r.lv,.q r.ma,.slice sa r.sr.length sc,.slice da r.de.length dc,.w tg r.ti.length tc,.slice pa q.length pc],.q (v:Nat),.string (dw r i)] w' (.bool (nD q (v:Nat) (dw r i))):=fun w' hR=>J5 _ _ hR
    (refine Jq<|Jr<|Jv I<|bG I I ae<|JL I dL I<|JI I<|JA I<|Jn<|Jd I fun au=>Jk<|Jq<|J0<|Jq ?_)
    with_reducible refine cJ 10 (by kernel_rfl) ?_
    refine ar (cm dL) I ?_;refine fW I I ?_;refine lU I I ae ?_;refine ar (iB dL) I ?_;refine fW I I ?_;refine ar (an (.of I) (.of I) I (by omega) au aW) I ?_;refine lU I I ae ?_;refine ar (ag (.of I) (At.tie bI aM I hcT I)) I ?_
    (refine dp eo I (fun w' aB=>(Wx w' (RR.wp (cV aB .here I) (cW aB (.there .here) I) (cU aB bI I) (cH aB cZ I))))<|ar (eF (.of I)) I ?_)
    with_reducible refine cN ?_
    (refine Jn<|nW I (fun au=>?_) fun au=>?_;rotate_left;refine Jw<|Jj<|Jt<|Jg<|Jv I<|JB I (by omega)<|Ja I<|Jn ?_;rotate_right)
    ·have e:nD q (v:Nat) (dw r i)=false:=au;rw [e,if_neg (by decide)] at gn
     with_reducible refine dO 9 (by kernel_rfl) ?_
     refine aA (fun β=>(bK (.of I) dL ai (by rfl))) bo I ?_;refine aA (fun β=>(aS (.of I))) bo I ?_;refine aA (fun β=>(aq (.of I) ae)) bo I ?_;refine aA (fun β=>(ag (.of I) (At.lit dL I))) bo I ?_;refine aA (fun β=>(aS (.of I))) bo I ?_;refine aA (fun β=>(an (.of I) (.of I) I (by omega) (by assumption) aW)) bo I ?_;refine aA (fun β=>(aq (.of I) ae)) bo I ?_;refine aA (fun β=>(ag (.of I) (At.tie bI aM I hcT I))) bo I ?_;dsimp only [Nat.zero_add,Nat.reduceAdd]
     with_reducible apply fC (ι:=Value×Value×Value×Value) (Φ:=fun _=>True) (val:=fun x=>.agg #[.q r.lv,.q r.ma,x.1,x.2.1,x.2.2.1,x.2.2.2]) (own:=fun x=>qt (r.wp (He r (v:Nat) (dw r i) q)) x) (g:=g4) (B:=[]) (args:=fun _=>[.agg #[.q r.lv,.q r.ma,.slice sa r.sr.length sc,.slice da r.de.length dc,.w tg r.ti.length tc,.slice pa q.length pc],.q (v:Nat),.string (dw r i)])
     case hg=>exact ri
     case hB=>rfl
     case hr=>exact fun β=>bj (.of I) (.o I (.o I (.o I .nil))) inferInstance I
     case hd=>rfl
     case hc=>exact fun β w' hb=>FM (r:=r.wp q) (v:Nat) (dw r i) (RR.wp (r:=r) (po:=q) (cV hb.mem (by exact .here) I) (cW hb.mem (by exact Take.there .here) I) (cU hb.mem bI I) (cH hb.mem cZ I)) ⟨f1,f2,f3,ZS Ri f4⟩
     refine fq fun β=>?_;unfold qt Ro.wp;dsimp only [ez,Za,Zb,List.append_eq,Nat.reduceAdd];generalize g4 (β 8)=y;obtain ⟨s2,d2,t2,p2⟩:=y;clear β;dsimp only;generalize He r (v:Nat) (dw r i) q=z at gn ⊢;refine aK (E:=118) (sz:=2) (v:=s2) (by exact .here) fun IG IF e3=>?_;subst e3;refine aK (E:=88) (sz:=3) (v:=d2) (by exact Take.there .here) fun IU IT e3=>?_;subst e3;refine aK (E:=122) (sz:=3) (v:=t2) bI fun IE ID e3=>?_;subst e3;refine aK (E:=180) (sz:=3) (v:=p2) cZ fun II IH e3=>?_;subst e3;refine eu [row 118 2 (.slice IG r.sr.length IF) r.sr.length (kG r.sr),row 88 3 (.slice IU r.de.length IT) r.de.length (jX r.de),row 122 3 (.slice IE r.ti.length ID) r.ti.length (kU r.ti),row 180 3 (.slice II (z).length IH) (z).length (gA (z)),JQ b1 r (.slice sa r.sr.length sc) (.slice da r.de.length dc) (.slice (some ⟨tg,0,none⟩) r.ti.length tc) (.slice pa q.length pc),bz b2 (.cells #[.int .i64 0,.int .i64 0,.slice none 0 0,.slice none 0 0,.slice none 0 0,.slice none 0 0] 27 (0,0))] (by exact .h4 (.cons dL (.cons dL .nil))) ?_;refine bR (rs:=[9]) (by kernel_rfl) (by simp) (Zw.2 ⟨?_,fun _ h=>absurd h Zp⟩);refine cd I ?_
     (refine ao (.of I) (.of I) dL I I (fk I I I I I I) (bu I) ai<|Jn ?_)
     with_reducible refine cE (by kernel_rfl) ?_
     refine Jj<|Jt<|Jg<|Jv I<|JB I (by omega)<|Ja I<|Jn ?_
     with_reducible apply aG (i+1,z,(IG,IF),(IU,IT),(IE,ID),(II,IH)) ⟨gn.symm,ZZ aM⟩ (show r.ti.length-(i+1)<r.ti.length-i by omega)
     case hs1=>exact bS
     case ht=>exact iQ
    ·have e:nD q (v:Nat) (dw r i)=true:=by simpa using au
     rw [e,if_pos I] at gn
     with_reducible apply aG (i+1,q,(sa,sc),(da,dc),(some ⟨tg,0,none⟩,tc),(pa,pc)) ⟨gn.symm,ZZ aM⟩ (show r.ti.length-(i+1)<r.ti.length-i by omega)
     case hs1=>exact bS
     case ht=>exact iQ
   ·obtain rfl:i=r.ti.length:=by omega
    have gn:q=B8 r (v+1) q1:=by rw [hq,JV,<- rb]
    (refine Jq<|Jr<|Jv I<|bG I I ae<|JL I dL I<|JI I<|JA I<|Jn<|Jc I fun au=>Jp<|Jl<|Jo<|Jj<|Jt<|Jg<|Jv I<|JB I (by omega)<|Ja I<|Jn ?_)
    with_reducible apply aG (v+1,q,(sa,sc),(da,dc),(ta,tc),(pa,pc)) ⟨gn,ZZ IM⟩ (show r.lv.toNat-(v+1)<r.lv.toNat-v by omega)
    case hs1=>exact bS
    case ht=>exact iQ
  ·obtain rfl:v=r.lv.toNat:=by omega
   have gn:q2=ym r (n+1) r.po:=by rw [rb,Kh,<- B0]
   (refine Jq<|Jr<|Jv I<|bG I I ae<|JL I dL I<|JA I<|Jn<|Jc I fun au=>Jp<|Jl<|Jo<|Jj<|Jt<|Jg<|Jv I<|JB I (by omega)<|Ja I<|Jn ?_)
   with_reducible apply aG (n+1,q2,(Hw,Hv),(Ql,Qk),(On,Oi),(OZ,OX)) ⟨gn,ZZ YQ⟩ (show 6-(n+1)<6-n by omega)
   case hs1=>exact bS
   case ht=>exact iQ
 ·obtain rfl:n=6:=by omega
  subst B0
  (refine Jq<|Jr<|Jv I<|JA I<|Jn<|Jc I fun au=>Jp<|Jl<|Jo<|Jt<|Jr<|ab (cm dL) I<|ao (.of I) (.of I) eD I I (fk I I I I I I) (bu I) ai<|Jn<|Je ?_)
  first | with_reducible apply aO | with_reducible apply aQ
  case he=>exact iP I inferInstance I .here ai (by rfl)
  case hR=>
   intro w' aB;exact aF (.slice QV r.sr.length QT,.slice da1 r.de.length dc1,.slice Yv r.ti.length Yu,.slice Yy (ym r 6 r.po).length Yx) trivial (by exact .cons (.there .here) (.cons (.there .here) (.cons (.there .here) (.cons (.there .here) .nil)))) aB I
end Go.Proofs.A1
