/- Parts of the proof: P6e LZ MA MB MC PS P6d MD ME MF PC MG MH MI P6f P6g ML MM MN MO. -/
import Derived.Test.YteonnodafmegaaaGreatDoorPM13
import Derived.Test.YteonnodafmegaaaGreatDoorPM04
import Derived.Test.YteonnodafmegaaaGreatDoorPM12
import Derived.Test.YteonnodafmegaaaGreatDoorPM06
import Derived.Test.YteonnodafmegaaaGreatDoorPM09
import Derived.Test.YteonnodafmegaaaGreatDoorPM03
set_option linter.unusedSectionVars false
set_option linter.unusedVariables false
set_option linter.unusedSimpArgs false
namespace Go.Proofs.A1
open Go Go.SL
open Tryz
open Tryz renaming prog->T_
def AK (r:Ro) (k:Nat):Int:=((dh r)[k]?.map fun x=>aY [bL (!jm x) 8,bL (eZ ((dh r).take k) x) 9]).getD 0
variable {L:List Po} {c:Cx} {d:Value} {hs hs':List bd} {k:Nat} {l:List Po} {lv p:Value} {q:Int->Ti->Bool} {r:Ro} {s:Value} {sl:aN} {so:ByteArray} {t:Value} {v:Int} {w:World} {x:Po}
theorem OJ (h:k<(dh r).length):AK r k=aY [bL (!jm (dh r)[k]) 8,bL (eZ ((dh r).take k) (dh r)[k]) 9]:=by
 unfold AK;rw [Zc h];rfl
theorem tM (a b:Int) (l:List Int):aY (aY [a,b]::l)=aY (a::b::l):=by
 by_cases ha:a=0
 ·subst ha;have e:aY [0,b]=b:=by
   unfold aY;rw [if_neg (by decide)];unfold aY;split
   ·rfl
   ·rename_i q;rw [Zq] at q;rw [q];rfl
  rw [e]
  conv=>rhs;unfold aY
  rw [if_neg (by decide)]
 ·have e:aY [a,b]=a:=by unfold aY;rw [if_pos ha]
  rw [e];unfold aY;rw [if_pos ha,if_pos ha]
theorem E5 (a b:Int) (l:List Int):aY [a,b,aY l]=aY (a::b::l):=by
 have h1:∀ x:Int,∀ m,aY (x::m)=if x≠0 then x else aY m:=fun x m=>by rw [aY]
 have h2:∀ x:Int,aY [x]=x:=fun x=>by
  rw [h1];split
  ·rfl
  ·rename_i q;rw [Zq] at q;rw [q];rfl
 rw [h1,h1 b,h2,h1 a,h1 b]
theorem MZ (r:Ro):(dh r).length=r.sr.length+r.de.length+r.ti.length:=by
 unfold dh cN cu cQ;simp only [Zg,Zd]
theorem MY (h:k<r.sr.length):(dh r)[k]? = some (r.sr[k]).nm/\(dh r).take k=[]++(r.sr.take k).map Sr.nm:=by
 have e1:(cN r).length=r.sr.length:=by unfold cN;rw [Zd]
 unfold dh;rw [Zh];refine ⟨?_,?_⟩
 ·rw [Zx (by omega)];unfold cN;rw [ZG,Zc h];rfl
 ·rw [Zai (by omega)];unfold cN;rw [ZaN];rfl
theorem M0 (h:k<r.de.length):(dh r)[r.sr.length+k]? = some (r.de[k]).nm/\(dh r).take (r.sr.length+k)=cN r++(r.de.take k).map De.nm:=by
 have e1:(cN r).length=r.sr.length:=by unfold cN;rw [Zd]
 have e2:(cu r).length=r.de.length:=by unfold cu;rw [Zd]
 unfold dh;rw [Zh];refine ⟨?_,?_⟩
 ·rw [ZC (by omega),Zx (by omega),show r.sr.length+k-(cN r).length=k by omega];unfold cu;rw [ZG,Zc h];rfl
 ·rw [<- e1,List.take_length_add_append,Zai (by omega)];unfold cu;rw [ZaN]
theorem MX (h:k<r.ti.length):(dh r)[r.sr.length+r.de.length+k]? = some (r.ti[k]).nm/\(dh r).take (r.sr.length+r.de.length+k)=(cN r++cu r)++(r.ti.take k).map Ti.nm:=by
 have e1:(cN r++cu r).length=r.sr.length+r.de.length:=by unfold cN cu;rw [Zg,Zd,Zd]
 have e2:(cQ r).length=r.ti.length:=by unfold cQ;rw [Zd]
 unfold dh;refine ⟨?_,?_⟩
 ·rw [ZC (by omega),e1,show r.sr.length+r.de.length+k-(r.sr.length+r.de.length)=k by omega];unfold cQ;rw [ZG,Zc h];rfl
 ·rw [<- e1,List.take_length_add_append];unfold cQ;rw [ZaN]
theorem Ex {j:Nat} {x:ByteArray} {l:List ByteArray} (h:(dh r)[j]? = some x) (h2:(dh r).take j=l):AK r j=aY [bL (!jm x) 8,bL (eZ l x) 9]:=by
 unfold AK;rw [h,h2];rfl
theorem VW (h:k<r.sr.length):aY [AK r k,fL r (r.sr[k]).mx]=yk [] Sr.nm (fun x=>fL r x.mx) r.sr k:=by
 rw [pB h,Ex (MY h).1 (MY h).2,tM]
theorem VX (h:k<r.de.length):aY [AK r (r.sr.length+k),fL r (r.de[k]).mx]=yk (cN r) De.nm (fun x=>fL r x.mx) r.de k:=by
 rw [pB h,Ex (M0 h).1 (M0 h).2,tM]
theorem VV (h:k<r.ti.length):aY [AK r (r.sr.length+r.de.length+k),fL r (r.ti[k]).fr,fL r (r.ti[k]).to,bL (decide ((r.ti[k]).fr=(r.ti[k]).to)) 24]=yk (cN r++cu r) Ti.nm (oU r) r.ti k:=by
 rw [pB h,Ex (MX h).1 (MX h).2,tM];unfold oU;rw [E5]
theorem Ey (h1:fJ 8 [] Sr.nm (fun x=>fL r x.mx) r.sr=0) (h2:fJ 8 (cN r) De.nm (fun x=>fL r x.mx) r.de=0):kH r=fJ 6 (cN r++cu r) Ti.nm (oU r) r.ti:=by
 rw [Yp h1 h2];unfold aY;split
 ·rfl
 ·rename_i q;rw [Zq] at q;rw [q];rfl
theorem SS (hm:Mem c hs w) {g gc:Nat} {L:List ByteArray} {cur:List Value} {E:TypeId} {fz:Nat×Nat} (ht:Take hs (bu g (.cells (aR L++cur).toArray E fz)) hs') (hc:L.length<=gc) (hx:gc<=maxLen):Rd w (.w g L.length gc) 1 (fN L):=by
 refine ⟨_,gc,g,0,by rw [bG],by rw [bG];exact hc,hx,fun _=>rfl,fun i r hr=>?_⟩;have hi:=(Zl.1 hr).1;rw [bG] at hi;rw [fH hi] at hr;obtain rfl:=Option.some.inj hr;refine ⟨I,fun j u hu=>?_⟩;cases j with
 | zero =>
  simp only [ZaC,Option.some.injEq] at hu;subst hu;rw [cell_of_block (hm.bu ht)];simp [aR,Zx,hi]
 | succ j=>simp at hu
theorem KE (hm:Mem c hs w) {g gc:Nat} {L:List ByteArray} {cur:List Value} {E:TypeId} {fz:Nat×Nat} (ht:Take hs (bu g (.cells (aR L++cur).toArray E fz)) hs') (hc:L.length<=gc) (hx:gc<=maxLen) {k:Nat} (hk:k<=L.length):Rd w (Go.sliced (some ⟨g,0,none⟩) 0 (k:Int).toNat gc 1) 1 (fN (L.take k)):=by
 have:=(SS hm ht hc hx).sliced (l:=0) (m:=k) (Zi _) hk;rw [ZE];rwa [List.drop_zero,show (fN L).take k=fN (L.take k) by unfold fN;rw [ZaN]] at this
theorem MD (m:Int) {w w1:World} (h:RR w1 r s d t p):an T_ 162 [RA r s d t p,.q m] w (.q (fL r m)):=by
 obtain ⟨h1,h2,h3,h4⟩:=h.one;unfold RA;refine aj func162 I I ?_
 (refine Jr<|Jy I I fun _ _=>Ja I<|Ji<|Jv I<|JA I<|Jv I<|jZ I I I I<|aM I I (fun hg bH=>(ar (.of I) ae)) I<|aM I I (fun hg bH=>(ag (.bW hg I) (At.lit .here I))) I<|aM I I (fun hg bH=>(AF (.bW hg I) (.bW hg I))) I<|ab (bV (.of I) I) I<|ah bn I (fun w' aB=>(lW _ 10 w'))<|Ja I<|Jn<|Je<|JT ?_)
 rfl
theorem DG (k:Nat) {w:World} (h:RR w r s d t p) (hf:gU r) (hk:k<(dh r).length):an T_ 229 [RA r s d t p,.q (k:Nat)] w (.q (AK r k)):=by
 obtain ⟨h1,h2,h3,h4⟩:=h.one;have zx:∀ w',aI [] w w'->a8 T_ 77 [.agg #[.int .i64 r.lv,.int .i64 r.ma,s,d,t,p]] w' [] (fun _:Value=>True) id (fun x=>[row 9 1 x (dh r).length (aR (dh r))]):=fun w' hk=>vo (h.keeps hk) hf
 rw [OJ hk];have vz:(dh r).length<=3000000:=by
  obtain ⟨f1,f2,f3,f4⟩:=hf;unfold dh cN cu cQ;simp only [Zg,Zd];omega
 generalize dh r=L at zx hk vz ⊢;have hkk:k<=L.length:=by omega
 unfold RA;refine aj func229 I I ?_;refine Jr<|Jy I I fun _ _=>Ja I<|Ji<|ab (bU .here) I ?_;refine JN bJ I (fun w1 aT=>zx w1 aT.keeps) ?_;intro x _;dsimp only [id_eq,Zb,Za];refine cm (E:=9) (sz:=1) (v:=x) (by exact .here) (by omega) ?_;rintro g gc cur e dC pO _ _;subst e;have fZ:(aR L++cur)[k*1]? = some (.string L[k]):=rT L cur hk;refine Ja I<|Jn<|Jq ?_
 with_reducible refine db 15 (by kernel_rfl) ?_
 (refine az mw I ?_;refine az mw I ?_;refine az (ao (.of I) (.of I) I (by omega) (by omega) aW) I ?_;refine az (ag (.of I) (At.kB .here fZ)) I ?_;refine aZ bJ I (fun w' aB=>(V7 _ w')) ?_;refine az mw I ?_;refine az mw I ?_;refine az (hY (.of I) (.of I) (by omega) (by omega)) I ?_;refine az mw I ?_;refine az mw I ?_;refine az (ao (.of I) (.of I) I (by omega) (by omega) aW) I ?_;refine az (ag (.of I) (At.kB .here fZ)) I ?_;refine aZ bn I (fun w' aB=>(Bm _ (KE aB .here dC pO hkk))) ?_;refine aZ bn I (fun w' aB=>(lW _ 9 w')) ?_;refine eM (aD (.o I (.o I .nil)) I I I I) I I ?_)
 with_reducible refine dI I fun bq mV=>?_
 (refine ah bJ I (fun w' aB=>(nJ (Mem.dy aB .here I I) (cr.cons (cr.cons cr.nil))))<|Ja I<|Jn<|Je<|JT ?_)
 rfl
set_option maxHeartbeats 1000000 in
theorem BD (h:RR w r s d t p) (hf:gU r):an T_ 127 [RA r s d t p] w (.q (kH r)):=by
 obtain ⟨h1,h2,h3,h4⟩:=h.one;have TQ:∀ k,k<(dh r).length->∀ w',aI [] w w'->an T_ 229 [.agg #[.int .i64 r.lv,.int .i64 r.ma,s,d,t,p],.int .i64 (k:Nat)] w' (.int .i64 (AK r k)):=fun k hk w' hkk=>DG k (h.keeps hkk) hf hk
 have fP:∀ (m:Int) {w'},aI [] w w'->an T_ 162 [.agg #[.q r.lv,.q r.ma,s,d,t,p],.q m] w' (.q (fL r m)):=fun m _ hk=>MD m (h.keeps hk)
 have fj:=MZ r;have Db:=h.sr;have Dl:=h.de;have yq:=h.ti;obtain ⟨a1,ew,II,Iz,rfl,oO,iu,mz,kT⟩:=Db;obtain ⟨a2,c8,IH,Iy,rfl,jS,eV,jU,kg⟩:=Dl;obtain ⟨a3,dX,GP,F6,rfl,mU,gB,rP,pb⟩:=yq;rw [cG] at *;rw [bY] at *;rw [bS] at *;unfold maxLen at iu eV gB;obtain ⟨f1,f2,f3,f4⟩:=hf;unfold RA;refine aj func127 I I ?_
 (refine Jr<|Jy I I fun _ _=>Ja I<|Ji<|Ja I<|Jn<|Jq<|Jr<|bD I I ae<|JL I .here I<|JI I<|JE I<|Jn<|gL I (fun aA=>?_) fun aA=>?_;refine Jr<|Ja I<|Jn<|Ju<|JT ?_;rotate_left;refine Jk<|Jq<|Jr<|Ja I<|Jn<|J0 ?_;rotate_right)
 ·skip
  have e:fJ 8 [] Sr.nm (fun x=>fL r x.mx) r.sr=5:=by unfold fJ;rw [if_pos (show (8:Int)<(r.sr.length:Int) by omega)]
  rw [po1 (by rw [e];decide),e]
 rename_i b1 tJ;refine aV (ι:=Nat) (fun x=>x<=r.sr.length/\∀ i,i<x->yk [] Sr.nm (fun x=>fL r x.mx) r.sr i=0) (fun x=>[(4,.q (x:Nat)),(3,.q ((x:Nat):Int)),(1,.p b1)]) (fun x=>[JQ b1 r (.slice a1 r.sr.length ew) (.slice a2 r.de.length c8) (.slice a3 r.ti.length dX) p]) (fun x=>r.sr.length-x) ?_ ?_
 ·apply aH (0:Nat) ⟨Zi _,fun i h=>absurd h (ZV _)⟩
  case hs1=>exact bT
  case ht=>(try simp only [Ze,Zf,Za]);exact .h1 .nil
 rintro k ⟨hk,hz⟩;by_cases aL:k<r.sr.length
 ·have cY:=mz (iD aL);obtain ⟨iO,aF⟩:=kT k _ (fW aL);unfold Sr.cells at aF;have cc0:=aF 0 _ I;have Y6:=aF 1 _ I;have TR:=TQ (k) (by omega);have hq:=VW (r:=r) aL
  (refine Jq<|Jr<|Jv I<|bD I I ae<|JL I .here I<|JI I<|JA I<|Jn<|Jd I fun aA=>Jk<|Jq<|J0<|Jq<|Jq ?_)
  with_reducible refine db 12 (by kernel_rfl) ?_
  (refine az (bU .here) I<|az mw I<|aZ bn I (fun w' aB=>(TR w' (Mem.keeps aB)))<|az (bU .here) I<|az lP I<|az (gn .here) I<|az mw I<|az (gE cY aA) I<|az lP I<|az (ag (.of I) (At.base Y6 I)) I<|aZ bn I (fun w' aB=>(fP _ (Mem.keeps aB)))<|eM (aD (.o I (.o I .nil)) I I I I) I I ?_)
  with_reducible refine dI I fun bq mV=>?_
  (refine ah bJ I (fun w' aB=>(nJ (Mem.dy aB .here I I) (cr.cons (cr.cons cr.nil))))<|Ja I<|Ji<|Jv I<|JD I<|Jn<|gL I (fun aA=>?_) fun aA=>?_;refine Jr<|Jv I<|Ja I<|Jn<|Ju<|Jm<|Jh<|Jh<|Jm<|Jh<|JT ?_;rotate_left;refine Jk<|Jg<|Jv I<|JB I (by omega)<|Ja I<|Jx<|Jj<|Jt<|Jg<|Jv I<|JB I (by omega)<|Ja I<|Jn ?_;rotate_right)
  ·rw [hq] at aA ⊢;have hb:fJ 8 [] Sr.nm (fun x=>fL r x.mx) r.sr=yk [] Sr.nm (fun x=>fL r x.mx) r.sr k:=by unfold fJ;rw [if_neg (by omega)];exact fV hz aL aA
   rw [po1 (by rw [hb];exact aA),hb]
  have Ly:yk [] Sr.nm (fun x=>fL r x.mx) r.sr k=0:=by rw [<- hq];exact Zq.1 aA
  apply aG (k+1) ⟨(show k+1<=r.sr.length from aL),fun i hi=>by
   by_cases e:i=k
   ·rw [e];exact Ly
   ·exact hz i (by omega)⟩ (show r.sr.length-(k+1)<r.sr.length-k by omega)
  case hs1=>exact bT
  case ht=>(try simp only [Ze,Zf,Za]);exact .cons (.there .here) .nil
 obtain rfl:k=r.sr.length:=by omega
 have z1:fJ 8 [] Sr.nm (fun x=>fL r x.mx) r.sr=0:=by unfold fJ;rw [if_neg (by omega)];exact eK.2 hz
 clear hk aL hz
 (refine Jq<|Jr<|Jv I<|bD I I ae<|JL I .here I<|JI I<|JA I<|Jn<|Jc I fun aA=>Jp<|Jl<|Jo<|Jt<|Jq<|Jr<|bD I I ae<|JL I .here I<|JI I<|JE I<|Jn<|gL I (fun aA=>?_) fun aA=>?_;refine Jr<|Ja I<|Jn<|Ju<|JT ?_;rotate_left;refine Jk<|Jq<|Jr<|Ja I<|Jn<|J0 ?_;rotate_right)
 ·have e:fJ 8 (cN r) De.nm (fun x=>fL r x.mx) r.de=5:=by unfold fJ;rw [if_pos (show (8:Int)<(r.de.length:Int) by omega)]
  rw [po2 z1 (by rw [e];decide),e]
 refine aV (ι:=Nat) (fun x=>x<=r.de.length/\∀ i,i<x->yk (cN r) De.nm (fun x=>fL r x.mx) r.de i=0) (fun x=>[(6,.q (x:Nat)),(3,.q ((r.sr.length+x:Nat):Int)),(1,.p b1)]) (fun x=>[JQ b1 r (.slice a1 r.sr.length ew) (.slice a2 r.de.length c8) (.slice a3 r.ti.length dX) p]) (fun x=>r.de.length-x) ?_ ?_
 ·apply aH (0:Nat) ⟨Zi _,fun i h=>absurd h (ZV _)⟩
  case hs1=>exact bT
  case ht=>(try simp only [Ze,Zf,Za]);exact .h1 .nil
 rintro k ⟨hk,hz⟩;by_cases aL:k<r.de.length
 ·have cY:=jU (ij aL);obtain ⟨iO,aF⟩:=kg k _ (fM aL);unfold De.cells at aF;have cc0:=aF 0 _ I;have Y6:=aF 1 _ I;have TR:=TQ (r.sr.length+k) (by omega);have hq:=VX (r:=r) aL
  (refine Jq<|Jr<|Jv I<|bD I I ae<|JL I .here I<|JI I<|JA I<|Jn<|Jd I fun aA=>Jk<|Jq<|J0<|Jq<|Jq ?_)
  with_reducible refine db 12 (by kernel_rfl) ?_
  (refine az (bU .here) I<|az mw I<|aZ bn I (fun w' aB=>(TR w' (Mem.keeps aB)))<|az (bU .here) I<|az lP I<|az (gn .here) I<|az mw I<|az (gE cY aA) I<|az lP I<|az (ag (.of I) (At.base Y6 I)) I<|aZ bn I (fun w' aB=>(fP _ (Mem.keeps aB)))<|eM (aD (.o I (.o I .nil)) I I I I) I I ?_)
  with_reducible refine dI I fun bq mV=>?_
  (refine ah bJ I (fun w' aB=>(nJ (Mem.dy aB .here I I) (cr.cons (cr.cons cr.nil))))<|Ja I<|Ji<|Jv I<|JD I<|Jn<|gL I (fun aA=>?_) fun aA=>?_;refine Jr<|Jv I<|Ja I<|Jn<|Ju<|Jm<|Jh<|Jh<|Jm<|Jh<|JT ?_;rotate_left;refine Jk<|Jg<|Jv I<|JB I (by omega)<|Ja I<|Jx<|Jj<|Jt<|Jg<|Jv I<|JB I (by omega)<|Ja I<|Jn ?_;rotate_right)
  ·rw [hq] at aA ⊢;have hb:fJ 8 (cN r) De.nm (fun x=>fL r x.mx) r.de=yk (cN r) De.nm (fun x=>fL r x.mx) r.de k:=by unfold fJ;rw [if_neg (by omega)];exact fV hz aL aA
   rw [po2 z1 (by rw [hb];exact aA),hb]
  have Ly:yk (cN r) De.nm (fun x=>fL r x.mx) r.de k=0:=by rw [<- hq];exact Zq.1 aA
  apply aG (k+1) ⟨(show k+1<=r.de.length from aL),fun i hi=>by
   by_cases e:i=k
   ·rw [e];exact Ly
   ·exact hz i (by omega)⟩ (show r.de.length-(k+1)<r.de.length-k by omega)
  case hs1=>exact bT
  case ht=>(try simp only [Ze,Zf,Za]);exact .cons (.there .here) .nil
 obtain rfl:k=r.de.length:=by omega
 have z2:fJ 8 (cN r) De.nm (fun x=>fL r x.mx) r.de=0:=by unfold fJ;rw [if_neg (by omega)];exact eK.2 hz
 clear hk aL hz
 (refine Jq<|Jr<|Jv I<|bD I I ae<|JL I .here I<|JI I<|JA I<|Jn<|Jc I fun aA=>Jp<|Jl<|Jo<|Jt<|Jq<|Jr<|bD I I ae<|JL I .here I<|JI I<|JE I<|Jn<|gL I (fun aA=>?_) fun aA=>?_;refine Jr<|Ja I<|Jn<|Ju<|JT ?_;rotate_left;refine Jk<|Jq<|Jr<|Ja I<|Jn<|J0 ?_;rotate_right)
 ·have e:fJ 6 (cN r++cu r) Ti.nm (oU r) r.ti=5:=by unfold fJ;rw [if_pos (show (6:Int)<(r.ti.length:Int) by omega)]
  rw [Ey z1 z2,e]
 refine aV (ι:=Nat) (fun x=>x<=r.ti.length/\∀ i,i<x->yk (cN r++cu r) Ti.nm (oU r) r.ti i=0) (fun x=>[(8,.q (x:Nat)),(3,.q (((r.sr.length+r.de.length)+x:Nat):Int)),(1,.p b1)]) (fun x=>[JQ b1 r (.slice a1 r.sr.length ew) (.slice a2 r.de.length c8) (.slice a3 r.ti.length dX) p]) (fun x=>r.ti.length-x) ?_ ?_
 ·apply aH (0:Nat) ⟨Zi _,fun i h=>absurd h (ZV _)⟩
  case hs1=>exact bT
  case ht=>(try simp only [Ze,Zf,Za]);exact .h1 .nil
 rintro k ⟨hk,hz⟩;by_cases aL:k<r.ti.length
 ·have cY:=rP (fq aL);obtain ⟨iO,aF⟩:=pb k _ (ep aL);unfold Ti.cells at aF;have cc0:=aF 0 _ I;have Y6:=aF 1 _ I;have TR:=TQ ((r.sr.length+r.de.length)+k) (by omega);have hq:=VV (r:=r) aL
  (refine Jq<|Jr<|Jv I<|bD I I ae<|JL I .here I<|JI I<|JA I<|Jn<|Jd I fun aA=>Jk<|Jq<|J0<|Jr<|bD I I ae<|JL I .here I<|Jv I<|ab (gE cY aA) I<|ab (ja (fo.base aF I)) I<|Jz I I fun _ _=>ak (.of I) (.of I) .here I I (fc I I I) (br I) ai<|Jn<|Jq<|Jq ?_)
  with_reducible refine db 18 (by kernel_rfl) ?_
  (refine az (bU (.there .here)) I<|az mw I<|aZ bn I (fun w' aB=>(TR w' (Mem.keeps aB)))<|az (bU (.there .here)) I<|az lP I<|az (gn .here) I<|aZ bn I (fun w' aB=>(fP _ (Mem.keeps aB)))<|az (bU (.there .here)) I<|az lP I<|az (gn .here) I<|aZ bn I (fun w' aB=>(fP _ (Mem.keeps aB)))<|az lP I<|az (gn .here) I<|az lP I<|az (gn .here) I<|az (oh (.of I) (.of I)) I<|aZ bn I (fun w' aB=>(lW _ 24 w'))<|eM (aD (.o I (.o I (.o I (.o I .nil)))) I I I I) I I ?_)
  with_reducible refine dI I fun bq mV=>?_
  (refine ah bJ I (fun w' aB=>(nJ (Mem.dy aB .here I I) (cr.cons (cr.cons (cr.cons (cr.cons cr.nil))))))<|Ja I<|Ji<|Jv I<|JD I<|Jn<|gL I (fun aA=>?_) fun aA=>?_;refine Jr<|Jv I<|Ja I<|Jn<|Ju<|Jm<|Jh<|Jh<|Jm<|Jh<|JT ?_;rotate_left;refine Jk<|Jg<|Jv I<|JB I (by omega)<|Ja I<|Jx<|Jj<|Jt<|Jg<|Jv I<|JB I (by omega)<|Ja I<|Jn ?_;rotate_right)
  ·rw [hq] at aA ⊢;have hb:fJ 6 (cN r++cu r) Ti.nm (oU r) r.ti=yk (cN r++cu r) Ti.nm (oU r) r.ti k:=by unfold fJ;rw [if_neg (by omega)];exact fV hz aL aA
   rw [Ey z1 z2,hb]
  have Ly:yk (cN r++cu r) Ti.nm (oU r) r.ti k=0:=by rw [<- hq];exact Zq.1 aA
  apply aG (k+1) ⟨(show k+1<=r.ti.length from aL),fun i hi=>by
   by_cases e:i=k
   ·rw [e];exact Ly
   ·exact hz i (by omega)⟩ (show r.ti.length-(k+1)<r.ti.length-k by omega)
  case hs1=>exact bT
  case ht=>(try simp only [Ze,Zf,Za]);exact .cons bE .nil
 obtain rfl:k=r.ti.length:=by omega
 have z3:fJ 6 (cN r++cu r) Ti.nm (oU r) r.ti=0:=by unfold fJ;rw [if_neg (by omega)];exact eK.2 hz
 clear hk aL hz
 (refine Jq<|Jr<|Jv I<|bD I I ae<|JL I .here I<|JI I<|JA I<|Jn<|Jc I fun aA=>Jp<|Jl<|Jo<|Jt<|Jr<|Ja I<|Jn<|Je<|JT ?_)
 rw [Ey z1 z2,z3]
theorem SX (h:k<r.po.length):Hq r k=if Nl r r.po[k]≠0 then Nl r r.po[k] else if 0<k/\(r.po[k].lv<((r.po[k-1]?).getD r.po[k]).lv\/r.po[k].lv=((r.po[k-1]?).getD r.po[k]).lv/\eE r r.po[k].ou<=eE r ((r.po[k-1]?).getD r.po[k]).ou) then 11 else 0:=by
 unfold Hq;rw [Zc h];rfl
def H2 (r:Ro) (v:Int) (x:Ti):Bool:=decide ((qd r.po v 8 x.nm).length=8)
def F8 (r:Ro) (v:Int) (x:Ti):Bool:=nr r.po v x.nm != !decide ((eD r.po v x.nm).getD ⟨#[]⟩=⟨#[]⟩)
theorem OL (r:Ro):VY r=if kK r (fun v=>r.ti.any (H2 r v)) then 33 else if kK r (fun v=>r.ti.any (F8 r v)) then 32 else 0:=rfl
theorem DO {v i:Nat} (hv:(v:Int)<r.lv) (hi:i<r.ti.length) (h:q v r.ti[i]=true):kK r (fun v=>r.ti.any (q v))=true:=by
 unfold kK;exact ZR.2 ⟨v,ZU.2 (by omega),ZR.2 ⟨_,Zj hi,h⟩⟩
theorem zR (h:∀ v:Nat,v<r.lv.toNat->∀ (i:Nat) (hi:i<r.ti.length),q v r.ti[i]=false):kK r (fun v=>r.ti.any (q v))=false:=by
 refine mq.2 fun v h0 h1=>Zaw.2 fun x hx=>?_;obtain ⟨i,hi,rfl⟩:=ZA hx;have:=h v.toNat (by omega) i hi;rw [show ((v.toNat:Nat):Int)=v by omega] at this;rw [this];decide
set_option maxHeartbeats 2000000 in
theorem yF (h:RR w r s d t p) (hf:gU r) (ahO:1<=r.lv/\r.lv<=3):an T_ 128 [RA r s d t p] w (.q (AL r)):=by
 obtain ⟨h1,h2,h3,h4⟩:=h.one;have TU:∀ (o:ByteArray) {w'},aI [] w w'->an T_ 230 [.agg #[.int .i64 r.lv,.int .i64 r.ma,s,d,t,p],.string o] w' (.int .i64 (eE r o)):=fun o _ hk=>F5 o (h.keeps hk) hf
 have WX:∀ (o:ByteArray) {w'},aI [] w w'->an T_ 231 [.agg #[.q r.lv,.q r.ma,s,d,t,p],.string o] w' (.q (kD r o)):=fun o _ hk=>Pm o (h.keeps hk)
 have aa9:∀ (o:ByteArray) {w'},aI [] w w'->an T_ 232 [.agg #[.q r.lv,.q r.ma,s,d,t,p],.string o] w' (.q (k6 r o)):=fun o _ hk=>KT o (h.keeps hk)
 have Wl:∀ (v:Int) (o:ByteArray) {w'},aI [] w w'->an T_ 233 [.agg #[.q r.lv,.q r.ma,s,d,t,p],.q v,.string o] w' (.bool (nr r.po v o)):=fun v o _ hk=>I6 v o (h.keeps hk)
 have yt:∀ (v:Int) (o:ByteArray) {w'},aI [] w w'->an T_ 133 [.agg #[.q r.lv,.q r.ma,s,d,t,p],.q v,.string o] w' (.string ((eD r.po v o).getD ⟨#[]⟩)):=fun v o _ hk=>qz v o (h.keeps hk)
 have PR:∀ (v:Int) (o:ByteArray) w',aI [] w w'->a8 T_ 132 [.agg #[.q r.lv,.q r.ma,s,d,t,p],.q v,.string o,.q 8] w' [] (fun _:Option Addr×Nat=>True) (fun z=>.slice z.1 (qd r.po v 8 o).length z.2) (fun z=>[row 9 1 (.slice z.1 (qd r.po v 8 o).length z.2) (qd r.po v 8 o).length (aR (qd r.po v 8 o))]):=fun v o w' hk=>a8.Kn (val:=id) (GN v o 8 (by decide) (h.keeps hk))
 have EP:=h.po;have yq:=h.ti;obtain ⟨a4,eW,NB,Ix,rfl,q7,jF,zD,tI⟩:=EP;obtain ⟨a3,dX,GP,F6,rfl,mU,gB,rP,pb⟩:=yq;rw [cT] at *;rw [bS] at *;unfold maxLen at gB jF;obtain ⟨f1,f2,f3,f4⟩:=hf;unfold RA;refine aj func128 I I ?_;refine Jr<|Jy I I fun _ _=>Ja I<|Jn<|Jq<|Jr<|Ja I<|Jn<|J0 ?_;rename_i b1 tJ;refine aV (ι:=Nat) (fun x=>x<=r.po.length/\∀ i,i<x->Hq r i=0) (fun x=>[(3,.int .i64 (x:Nat)),(1,.pointer (some ⟨b1,0,none⟩))]) (fun x=>[JQ b1 r s d (.slice a3 r.ti.length dX) (.slice a4 r.po.length eW)]) (fun x=>r.po.length-x) ?_ ?_
 ·apply aH (0:Nat) ⟨Zi _,fun i h=>absurd h (ZV _)⟩
  case hs1=>exact bT
  case ht=>(try simp only [Ze,Zf,Za]);exact .h1 .nil
 rintro k ⟨hk,hz⟩;by_cases aL:k<r.po.length
 ·have cY:=zD (j8 aL);obtain ⟨iO,aF⟩:=tI k _ (ia aL);unfold Po.cells at aF;have fZ:=SX (r:=r) aL;have YU:∀ e:Int,Hq r k=e->e≠0->AL r=e:=fun e he hne=>by
   have hb:kA (Hq r) r.po.length=e:=by rw [<- he];exact fV hz aL (by rw [he];exact hne)
   unfold AL;rw [hb,if_pos hne]
  have gS:Hq r k=0->∀ i,i<k+1->Hq r i=0:=fun e i hi=>by
   by_cases e2:i=k
   ·rw [e2];exact e
   ·exact hz i (by omega)
  generalize hx:r.po[k]=x at aF fZ
  (refine Jq<|Jr<|Jv I<|bD I I ae<|JL I .here I<|JI I<|JA I<|Jn<|Jd I fun aA=>Jk<|Jq<|J0<|Jr<|bD I I ae<|JL I .here I<|Jv I<|ab (gE cY aA) I<|ab (ja (fo.base aF I)) I<|Jz I I fun _ _=>ak (.of I) (.of I) .here I I (fc I I I) (br I) ai<|Jn<|Jq<|Jq ?_)
  with_reducible refine db 29 (by kernel_rfl) ?_
  (refine az lP I<|az (gn .here) I<|az lP I<|az (gn (.there .here)) I<|az (tw (.of I) (.of I) (Re (by omega))) I<|aZ dU I (fun w' aB=>(AJ _ 0 _ w'))<|az (bU (.there .here)) I<|az lP I<|az (gn .here) I<|aZ bn I (fun w' aB=>(TU _ (Mem.keeps aB)))<|az (l7 (.of I) (.of I)) I<|aZ bn I (fun w' aB=>(lW _ 10 w'))<|az (bU (.there .here)) I<|az lP I<|az (gn .here) I<|aZ bn I (fun w' aB=>(WX _ (Mem.keeps aB)))<|az (l7 (.of I) (.of I)) I<|aZ bn I (fun w' aB=>(lW _ 10 w'))<|az (bU (.there .here)) I<|az lP I<|az (gn .here) I<|aZ bn I (fun w' aB=>(aa9 _ (Mem.keeps aB)))<|az (bU (.there .here)) I<|az lP I<|az (gn .here) I<|aZ bn I (fun w' aB=>(WX _ (Mem.keeps aB)))<|az (j7 (.of I) (.of I)) I<|aZ bn I (fun w' aB=>(lW _ 24 w'))<|eM (aD (.o I (.o I (.o I (.o I .nil)))) I I I I) I I ?_)
  with_reducible refine dI I fun bq mV=>?_
  (refine ah bJ I (fun w' aB=>(nJ (Mem.dy aB .here I I) (cr.cons (cr.cons (cr.cons (cr.cons cr.nil))))))<|Ja I<|Ji<|Jv I<|JD I<|Jn<|gL I (fun aA=>?_) fun aA=>?_;refine Jr<|Jv I<|Ja I<|Jn<|Ju<|Jm<|Jh<|Jh<|Jm<|Jh<|JT ?_;rotate_left;refine Jk<|Jr<|Jv I<|JE I<|Jn<|gL I (fun aA=>?_) fun aA=>?_;refine Jr<|bD I I ae<|JL I bE I<|Jv I<|JS I (by omega)<|ab (ao (.of I) (.of I) cY (by omega) (by omega) aW) I ?_;rotate_left;refine Jw<|Jj<|Jt<|Jg<|Jv I<|JB I (by omega)<|Ja I<|Jn ?_;rotate_right;rotate_right)
  ·have e:=YU (Nl r x) (by rw [fZ,if_pos (show Nl r x≠0 from aA)]) aA;rw [e];rfl
  ·rename_i b4 sH hE;have hE:Nl r x=0:=Zq.1 hE;have Nv:0<k:=by omega
   have Rp:k-1<r.po.length:=by omega
   obtain ⟨ac8,fB⟩:=tI (k-1) _ (ia Rp);unfold Po.cells at fB;rw [show Ix+(k-1)*3=Ix+((k:Int)-1).toNat*3 by rw [show ((k:Int)-1).toNat=k-1 by omega]] at fB;rw [if_neg (not_not_intro hE),Zc Rp,Zaq] at fZ;generalize r.po[k-1]=y at fB fZ
   (refine ab (ja (fo.base fB I)) I<|Jz I I fun _ _=>ak (.of I) (.of I) .here I I (fc I I I) (br I) ai<|Jn<|Jq ?_)
   with_reducible refine cz 23 (by kernel_rfl) ?_
   (refine jH I I ae<|aq (gn bE) I<|jH I I ae<|aq (gn .here) I<|aq (l7 (.of I) (.of I)) I<|fw I I<|bM I I (fun hg bH=>(ar (.of I) ae)) I<|bM I I (fun hg bH=>(ag (.bW hg I) (At.lit bE I))) I<|bM I I (fun hg bH=>(ar (.of I) ae)) I<|bM I I (fun hg bH=>(ag (.bW hg I) (At.lit .here I))) I<|bM I I (fun hg bH=>(oh (.bW hg I) (.bW hg I))) I<|bM I I (fun hg bH=>(aQ (.bW hg I))) I<|gJ I I (fun hg bH=>(bQ (.of I) cI ai (by rfl))) I<|gJ I I (fun hg bH=>(ar (.of I) ae)) I<|gJ I I (fun hg bH=>(ag (.bW hg I) (At.lit bE I))) I<|nP I I (fun hg=>(a7 (.of I) (.cons (.bW hg I) (.cons (.bW hg I) .nil)) inferInstance gF)) I (fun hg w' aB=>(TU _ (Mem.keeps aB)))<|gJ I I (fun hg bH=>(bQ (.of I) cI ai (by rfl))) I<|gJ I I (fun hg bH=>(ar (.of I) ae)) I<|gJ I I (fun hg bH=>(ag (.bW hg I) (At.lit .here I))) I<|nP I I (fun hg=>(a7 (.of I) (.cons (.bW hg I) (.cons (.bW hg I) .nil)) inferInstance gF)) I (fun hg w' aB=>(TU _ (Mem.keeps aB)))<|gJ I I (fun hg bH=>(nh (.bW hg I) (.bW hg I))) I<|bM I I (fun hg bH=>(jg hg (.bW hg I) I)) I<|aq (bV (.of I) I) I ?_)
   with_reducible refine cC ?_
   (refine Jn<|oK I (fun aA=>?_) fun aA=>?_;refine Jr<|Ja I<|Jn<|Je<|Jm<|Jh<|Jh<|Jm<|Jh<|JT ?_;rotate_left;refine Jw<|Jj<|Jt<|Jg<|Jv I<|JB I (by omega)<|Ja I<|Jn ?_;rotate_right)
   ·have Nz:0<k/\(x.lv<y.lv\/x.lv=y.lv/\eE r x.ou<=eE r y.ou):=⟨Nv,aA⟩;have e:=YU 11 (by rw [fZ,if_pos Nz]) (by decide);rw [e]
   ·apply aG (k+1) ⟨(show k+1<=r.po.length from aL),gS (by rw [fZ,if_neg (fun q=>q.2.elim aA.1 fun z=>aA.2.elim (fun z2=>z2 z.1) fun z2=>z2 z.2)])⟩ (show r.po.length-(k+1)<r.po.length-k by omega)
    case hs1=>exact bT
    case ht=>(try simp only [Ze,Zf,Za]);exact .cons cI .nil
  ·rename_i b4 sH hE;have hE:Nl r x=0:=Zq.1 hE;apply aG (k+1) ⟨(show k+1<=r.po.length from aL),gS (by rw [fZ,if_neg (not_not_intro hE),if_neg (fun q=>aA (by omega))])⟩ (show r.po.length-(k+1)<r.po.length-k by omega)
   case hs1=>exact bT
   case ht=>(try simp only [Ze,Zf,Za]);exact .cons bE .nil
 obtain rfl:k=r.po.length:=by omega
 have Yw:kA (Hq r) r.po.length=0:=eK.2 hz;have hqs:AL r=VY r:=by unfold AL;rw [Yw];rfl
 rw [hqs,OL];clear hk aL hz
 (refine Jq<|Jr<|Jv I<|bD I I ae<|JL I .here I<|JI I<|JA I<|Jn<|Jc I fun aA=>Jp<|Jl<|Jo<|Jt<|Jq<|Jr<|Ja I<|Jn<|J0 ?_)
 refine aV (ι:=Nat) (fun v=>v<=r.lv.toNat/\∀ u,u<v->∀ (i:Nat) (hi:i<r.ti.length),H2 r (u:Nat) r.ti[i]=false) (fun v=>[(7,.q (v:Nat)),(1,.p b1)]) (fun _=>[JQ b1 r s d (.slice a3 r.ti.length dX) (.slice a4 r.po.length eW)]) (fun v=>r.lv.toNat-v) ?_ ?_
 ·apply aH (0:Nat) ⟨Zi _,fun i h=>absurd h (ZV _)⟩
  case hs1=>exact bT
  case ht=>(try simp only [Ze,Zf,Za]);exact .h1 .nil
 rintro v ⟨hv,hz⟩;by_cases nI:v<r.lv.toNat
 ·have TB:((v:Nat):Int)<r.lv:=by omega
  (refine Jq<|Jr<|Jv I<|bD I I ae<|JL I .here I<|JA I<|Jn<|Jd I fun aA=>Jk<|Jq<|J0<|Jr<|Ja I<|Jn<|J0 ?_)
  refine aV (ι:=Nat) (fun i=>i<=r.ti.length/\∀ (j:Nat) (hj:j<r.ti.length),j<i->H2 r (v:Nat) r.ti[j]=false) (fun i=>[(8,.q (i:Nat)),(7,.q (v:Nat)),(1,.p b1)]) (fun _=>[JQ b1 r s d (.slice a3 r.ti.length dX) (.slice a4 r.po.length eW)]) (fun i=>r.ti.length-i) ?_ ?_
  ·apply aH (0:Nat) ⟨Zi _,fun j _ h=>absurd h (ZV _)⟩
   case hs1=>exact bT
   case ht=>(try simp only [Ze,Zf,Za]);exact .h1 .nil
  rintro i ⟨hi,hy⟩;by_cases kr:i<r.ti.length
  ·have cY:=rP (fq kr);have c0:w.cell? ⟨GP,F6+i*3,none⟩=some (.string r.ti[i].nm):=(pb i _ (ep kr)).2 0 _ I;have hqq:∀ b,H2 r (v:Nat) r.ti[i]=b->H2 r (v:Nat) r.ti[i]=b:=fun _ h=>h
   unfold H2 at hqq;have gS:H2 r (v:Nat) r.ti[i]=false->∀ (j:Nat) (hj:j<r.ti.length),j<i+1->H2 r (v:Nat) r.ti[j]=false:=fun e j hj td=>by
    by_cases e2:j=i
    ·subst e2;exact e
    ·exact hy j hj (by omega)
   have T2:H2 r (v:Nat) r.ti[i]=true->kK r (fun v=>r.ti.any (H2 r v))=true:=DO TB kr
   generalize hxx:r.ti[i].nm=x at c0
   (refine Jq<|Jr<|Jv I<|bD I I ae<|JL I .here I<|JI I<|JA I<|Jn<|Jd I fun aA=>Jk<|Jq<|J0<|Jq ?_)
   have Xe:=PR (v:Nat) x;have Rk:=BE r.po (v:Nat) 8 x;have Xc:H2 r (v:Nat) r.ti[i]=decide ((qd r.po (v:Nat) 8 x).length=8):=by unfold H2;rw [hxx]
   generalize qd r.po (v:Nat) 8 x=C at Xe Rk Xc
   with_reducible refine dL 9 (by kernel_rfl) ?_
   (refine au (fun β=>(bQ (.of I) .here ai (by rfl))) ba I<|au (fun β=>(aQ (.of I))) ba I<|au (fun β=>(ar (.of I) ae)) ba I<|au (fun β=>(ag (.of I) (At.lit .here I))) ba I<|au (fun β=>(aQ (.of I))) ba I<|au (fun β=>(ao (.of I) (.of I) cY (by omega) aA aW)) ba I<|au (fun β=>(ar (.of I) ae)) ba I<|au (fun β=>(ag (.of I) (At.base c0 I))) ba I ?_)
   dsimp only [Nat.zero_add,Nat.reduceAdd]
   with_reducible apply dZ (ι:=Option Addr×Nat) (Φ:=fun _=>True) (val:=fun z=>.slice z.1 C.length z.2) (own:=fun z=>[row 9 1 (.slice z.1 C.length z.2) C.length (aR C)]) (g:=Xx) (B:=[]) (args:=fun _=>[.agg #[.q r.lv,.q r.ma,s,d,.slice a3 r.ti.length dX,.slice a4 r.po.length eW],.q (v:Nat),.string x,.q 8])
   case hg=>exact Mb
   case hB=>rfl
   case hr=>exact fun β=>a7 (.of I) (.o I (.o I (.o I (.o I .nil)))) inferInstance I
   case hd=>rfl
   case hc=>exact fun β w' hb=>Xe w' hb.mem.keeps
   dsimp only [Nat.reduceAdd];refine eN fun β=>?_;dsimp only [dW,Za,Zb,List.append_eq,Nat.reduceAdd];generalize Xx (β 8)=y;obtain ⟨ya,yc⟩:=y;clear β;dsimp only;refine bF (rs:=[9]) (by kernel_rfl) (by simp) (Zp.2 ⟨?_,fun _ h=>absurd h Zo⟩);refine bK I ?_;refine JI I<|Jn ?_;refine bF (rs:=[10]) (by kernel_rfl) (by simp) (Zp.2 ⟨?_,fun _ h=>absurd h Zo⟩);refine bK I ?_;refine JC I<|Jn ?_
   with_reducible refine cn (by kernel_rfl) ?_
   (refine Jt<|gL I (fun aA=>?_) fun aA=>?_;refine Jr<|Ja I<|Jn<|Je<|Jm<|Jh<|Jh<|Jm<|Jm<|Jh<|Jh<|Jm<|Jh<|JT ?_;rotate_left;refine Jw<|Jj<|Jt<|Jg<|Jv I<|JB I (by omega)<|Ja I<|Jn ?_;rotate_right)
   ·rw [if_pos (T2 (by rw [Xc];exact decide_eq_true (by omega)))]
   apply aG (i+1) ⟨(show i+1<=r.ti.length from kr),gS (by rw [Xc];exact decide_eq_false (by omega))⟩ (show r.ti.length-(i+1)<r.ti.length-i by omega)
   case hs1=>exact bT
   case ht=>(try simp only [Ze,Zf,Za]);exact .cons (.there .here) .nil
  obtain rfl:i=r.ti.length:=by omega
  clear hi kr
  (refine Jq<|Jr<|Jv I<|bD I I ae<|JL I .here I<|JI I<|JA I<|Jn<|Jc I fun aA=>Jp<|Jl<|Jo<|Jj<|Jt<|Jg<|Jv I<|JB I (by omega)<|Ja I<|Jn ?_)
  apply aG (v+1) ⟨(show v+1<=r.lv.toNat from nI),fun u hu j hj=>by
   by_cases e2:u=v
   ·subst e2;exact hy j hj hj
   ·exact hz u (by omega) j hj⟩ (show r.lv.toNat-(v+1)<r.lv.toNat-v by omega)
  case hs1=>exact bT
  case ht=>(try simp only [Ze,Zf,Za]);exact .h1 .nil
 obtain rfl:v=r.lv.toNat:=by omega
 have aT:kK r (fun v=>r.ti.any (H2 r v))=false:=zR hz
 clear hv nI hz
 (refine Jq<|Jr<|Jv I<|bD I I ae<|JL I .here I<|JA I<|Jn<|Jc I fun aA=>Jp<|Jl<|Jo<|Jt<|Jq<|Jr<|Ja I<|Jn<|J0 ?_)
 rw [if_neg (by rw [aT];decide)];refine aV (ι:=Nat) (fun v=>v<=r.lv.toNat/\∀ u,u<v->∀ (i:Nat) (hi:i<r.ti.length),F8 r (u:Nat) r.ti[i]=false) (fun v=>[(9,.q (v:Nat)),(1,.p b1)]) (fun _=>[JQ b1 r s d (.slice a3 r.ti.length dX) (.slice a4 r.po.length eW)]) (fun v=>r.lv.toNat-v) ?_ ?_
 ·apply aH (0:Nat) ⟨Zi _,fun i h=>absurd h (ZV _)⟩
  case hs1=>exact bT
  case ht=>(try simp only [Ze,Zf,Za]);exact .h1 .nil
 rintro v ⟨hv,hz⟩;by_cases nI:v<r.lv.toNat
 ·have TB:((v:Nat):Int)<r.lv:=by omega
  (refine Jq<|Jr<|Jv I<|bD I I ae<|JL I .here I<|JA I<|Jn<|Jd I fun aA=>Jk<|Jq<|J0<|Jr<|Ja I<|Jn<|J0 ?_)
  refine aV (ι:=Nat) (fun i=>i<=r.ti.length/\∀ (j:Nat) (hj:j<r.ti.length),j<i->F8 r (v:Nat) r.ti[j]=false) (fun i=>[(10,.q (i:Nat)),(9,.q (v:Nat)),(1,.p b1)]) (fun _=>[JQ b1 r s d (.slice a3 r.ti.length dX) (.slice a4 r.po.length eW)]) (fun i=>r.ti.length-i) ?_ ?_
  ·apply aH (0:Nat) ⟨Zi _,fun j _ h=>absurd h (ZV _)⟩
   case hs1=>exact bT
   case ht=>(try simp only [Ze,Zf,Za]);exact .h1 .nil
  rintro i ⟨hi,hy⟩;by_cases kr:i<r.ti.length
  ·have cY:=rP (fq kr);have c0:w.cell? ⟨GP,F6+i*3,none⟩=some (.string r.ti[i].nm):=(pb i _ (ep kr)).2 0 _ I;have hqq:∀ b,F8 r (v:Nat) r.ti[i]=b->F8 r (v:Nat) r.ti[i]=b:=fun _ h=>h
   unfold F8 at hqq;have gS:F8 r (v:Nat) r.ti[i]=false->∀ (j:Nat) (hj:j<r.ti.length),j<i+1->F8 r (v:Nat) r.ti[j]=false:=fun e j hj td=>by
    by_cases e2:j=i
    ·subst e2;exact e
    ·exact hy j hj (by omega)
   have T2:F8 r (v:Nat) r.ti[i]=true->kK r (fun v=>r.ti.any (F8 r v))=true:=DO TB kr
   generalize hxx:r.ti[i].nm=x at c0
   (refine Jq<|Jr<|Jv I<|bD I I ae<|JL I .here I<|JI I<|JA I<|Jn<|Jd I fun aA=>Jk<|Jq<|J0<|Jr<|bD I I ae<|JL I .here I<|Jv I<|ab (gE cY aA) I<|bD I I ae<|ab (ag (.of I) (At.base c0 I)) I<|Ja I<|Jn<|Jq ?_)
   have hop:F8 r (v:Nat) r.ti[i]=(nr r.po (v:Nat) x != !decide ((eD r.po (v:Nat) x).getD ⟨#[]⟩=⟨#[]⟩)):=by unfold F8;rw [hxx]
   have WJ:F8 r (v:Nat) r.ti[i]=(nr r.po (v:Nat) x != decide ((eD r.po (v:Nat) x).getD ⟨#[]⟩≠⟨#[]⟩)):=by rw [hop,decide_not]
   with_reducible refine cz 9 (by kernel_rfl) ?_
   (refine aq (bU .here) I<|fw I I<|fw I I<|cW dU I (fun w' aB=>(Wl _ x (Mem.keeps aB)))<|aq (bU .here) I<|fw I I<|fw I I<|cW dU I (fun w' aB=>(yt _ x (Mem.keeps aB)))<|aq (gz (.of I) (.of I)) I ?_)
   with_reducible refine cC ?_
   skip
   refine ab (CI (.of I) (.of I)) I ?_
   (refine Jn<|oK I (fun aA=>?_) fun aA=>?_;refine Jr<|Ja I<|Jn<|Je<|Jm<|Jh<|Jh<|Jm<|Jm<|Jh<|Jh<|Jm<|Jh<|JT ?_;rotate_left;refine Jw<|Jj<|Jt<|Jg<|Jv I<|JB I (by omega)<|Ja I<|Jn ?_;rotate_right)
   ·rw [if_pos (T2 (by rw [WJ];exact aA))]
   apply aG (i+1) ⟨(show i+1<=r.ti.length from kr),gS (by rw [WJ];exact aA)⟩ (show r.ti.length-(i+1)<r.ti.length-i by omega)
   case hs1=>exact bT
   case ht=>(try simp only [Ze,Zf,Za]);exact .h1 .nil
  obtain rfl:i=r.ti.length:=by omega
  clear hi kr
  (refine Jq<|Jr<|Jv I<|bD I I ae<|JL I .here I<|JI I<|JA I<|Jn<|Jc I fun aA=>Jp<|Jl<|Jo<|Jj<|Jt<|Jg<|Jv I<|JB I (by omega)<|Ja I<|Jn ?_)
  apply aG (v+1) ⟨(show v+1<=r.lv.toNat from nI),fun u hu j hj=>by
   by_cases e2:u=v
   ·subst e2;exact hy j hj hj
   ·exact hz u (by omega) j hj⟩ (show r.lv.toNat-(v+1)<r.lv.toNat-v by omega)
  case hs1=>exact bT
  case ht=>(try simp only [Ze,Zf,Za]);exact .h1 .nil
 obtain rfl:v=r.lv.toNat:=by omega
 have me:kK r (fun v=>r.ti.any (F8 r v))=false:=zR hz
 clear hv nI hz
 (refine Jq<|Jr<|Jv I<|bD I I ae<|JL I .here I<|JA I<|Jn<|Jc I fun aA=>Jp<|Jl<|Jo<|Jt<|Jr<|Ja I<|Jn<|Je<|JT ?_)
 rw [if_neg (by rw [me];decide)]
theorem yE (h:RR w r s d t p) (hf:gU r):an T_ 25 [RA r s d t p] w (.q (fm r)):=by
 obtain ⟨h1,h2,h3,h4⟩:=h.one;have hcp:∀ {w'},aI [] w w'->an T_ 127 [.agg #[.int .i64 r.lv,.int .i64 r.ma,s,d,t,p]] w' (.int .i64 (kH r)):=fun hk=>BD (h.keeps hk) hf
 have abM:oD r=0->∀ {w'},aI [] w w'->an T_ 128 [.agg #[.q r.lv,.q r.ma,s,d,t,p]] w' (.q (AL r)):=fun e _ hk=>yF (h.keeps hk) hf ⟨(wQ e).1,(wQ e).2.1⟩
 rw [<- UG];unfold RA ckQ;refine aj func25 I I ?_;refine Jr<|Jy I I fun _ _=>Ja I<|Jn<|Jq<|Jq ?_
 with_reducible refine db 7 (by kernel_rfl) ?_
 (refine az lP I<|az (gn .here) I<|aZ dU I (fun w' aB=>(AJ _ 1 3 w'))<|az lP I<|az (gn .here) I<|aZ dU I (fun w' aB=>(AJ _ 1 4 w'))<|eM (aD (.o I (.o I .nil)) I I I I) I I ?_)
 with_reducible refine dI I fun bq mV=>?_
 refine ah bJ I (fun w' aB=>nJ (Mem.dy aB .here I I) (cr.cons (cr.cons cr.nil))) ?_;have hlE:oD r=aY [gX r.lv 1 3,gX r.ma 1 4]:=rfl;rw [<- hlE]
 (refine Ja I<|Ji<|Jv I<|JD I<|Jn<|gL I (fun aA=>?_) fun aA=>?_;refine Jr<|Jv I<|Ja I<|Jn<|Ju<|JT ?_;rotate_left;refine Jk<|Jq<|Jr<|ab (bU (.there .here)) I ?_;rotate_right)
 ·rw [if_pos aA]
 have hl:oD r=0:=Zq.1 aA;have Vj:=fun {w'}=>abM hl (w':=w')
 rw [if_neg (not_not_intro hl)]
 (refine ah bJ I (fun w' aB=>(hcp (Mem.keeps aB)))<|Ja I<|Ji<|Jv I<|JD I<|Jn<|gL I (fun aA=>?_) fun aA=>?_;refine Jr<|Jv I<|Ja I<|Jn<|Ju<|JT ?_;rotate_left;refine Jk<|Jr<|ab (bU (.there .here)) I<|ah bJ I (fun w' aB=>(Vj (Mem.keeps aB)))<|Ja I<|Jn<|Je<|JT ?_;rotate_right)
 ·rw [if_pos aA]
 rw [if_neg aA]
def Em (l:List ByteArray):Bool:=l.all fun s=>decide (s.size<=40)
theorem Cs {l:List ByteArray} (h:Rd w lv 1 (fN l)):an T_ 69 [lv] w (.bool (Em l)):=by
 obtain ⟨a,cp,b,o',rfl,dC,ch,ha,hc⟩:=h;rw [bG] at *;unfold maxLen at ch;refine aj func69 I I ?_;refine Jr<|Ja I<|Jn<|Jq<|Jr<|Ja I<|Jn<|J0 ?_;refine aV (ι:=Nat) (fun k=>k<=l.length/\∀ j (hj:j<l.length),j<k->l[j].size<=40) (fun k=>[(3,.int .i64 (k:Nat)),(0,.slice a l.length cp)]) (fun _=>[]) (fun k=>l.length-k) ?_ ?_
 ·apply aH (0:Nat) ⟨Zi _,fun j _ hj=>absurd hj (ZV _)⟩
  case hs1=>exact bT
  case ht=>(try simp only [Ze,Zf,Za]);exact .nil
 rintro k ⟨hk,hf⟩;by_cases aL:k<l.length
 ·have cY:=ha (iU aL);have c0:w.cell? ⟨b,o'+k*1,none⟩=some (.string l[k]):=(hc k _ (fH aL)).2 0 _ I;have hm:=Zj aL;have BY:l[k].size<=40->∀ j (hj:j<l.length),j<k+1->l[j].size<=40:=fun q j hj YN=>by
   by_cases e:j=k
   ·subst e;exact q
   ·exact hf j hj (by omega)
  generalize l[k]=x at c0 hm BY
  (refine Jq<|Jr<|Jv I<|Jv I<|JI I<|JA I<|Jn<|Jd I fun aA=>Jk<|Jq<|J0<|Jr<|Jv I<|Jv I<|ab (gE cY aA) I<|ab (ag (.of I) (At.base c0 I)) I<|ab (iz (.of I)) I<|JE I<|Jn<|gL I (fun aA=>?_) fun aA=>?_;refine Jr<|Ja I<|Jn<|Je<|Jm<|Jh<|Jh<|Jm<|Jh<|JT ?_;rotate_left;refine Jw<|Jj<|Jt<|Jg<|Jv I<|JB I (by omega)<|Ja I<|Jn ?_;rotate_right)
  ·have ur:(40:Int)<(x.size:Nat):=aA;have e:Em l=false:=List.all_eq_false.2 ⟨x,hm,by simp;omega⟩;rw [e]
  ·have ur:¬ (40:Int)<(x.size:Nat):=aA;apply aG (k+1) ⟨(show k+1<=l.length from aL),BY (by omega)⟩ (show l.length-(k+1)<l.length-k by omega)
   case hs1=>exact bT
   case ht=>(try simp only [Ze,Zf,Za]);exact .nil
 ·have e:Em l=true:=Zaj.2 fun x hx=>by
   obtain ⟨j,hj,rfl⟩:=ZA hx;exact decide_eq_true (hf j hj (by omega))
  obtain rfl:k=l.length:=by omega
  rw [e];refine Jq<|Jr<|Jv I<|Jv I<|JI I<|JA I<|Jn<|Jc I fun aA=>Jp<|Jl<|Jo<|Jt<|Jr<|Ja I<|Jn<|Je<|JT ?_
  rfl
def poN (p:Po):List ByteArray:=[p.ou,p.ip]
def Cu (r:Ro) (k:Nat):List ByteArray:=dh r++((r.po.take k).map poN).flatten
def yh (r:Ro):Bool:=decide (r.sr.length<=10)&&decide (r.de.length<=10)&&decide (r.ti.length<=10)&&decide (r.po.length<=48)
def Cv (r:Ro):Bool:=yh r&&Em (Cu r r.po.length)
theorem y7 (h:k<r.po.length):Cu r (k+1)=Cu r k++[r.po[k].ou,r.po[k].ip]:=by
 unfold Cu;rw [Zm h,Zy,Zag,Zh]
 rfl
theorem rW (h:yh r=true):r.sr.length<=10/\r.de.length<=10/\r.ti.length<=10/\r.po.length<=48:=by
 unfold yh at h;simp only [Zn,decide_eq_true_eq] at h;exact ⟨h.1.1.1,h.1.1.2,h.1.2,h.2⟩
theorem Cw (h:yh r=true):gU r:=by
 have:=rW h;exact ⟨by omega,by omega,by omega,by omega⟩
theorem Ko (h:yh r=true):mX r:=by
 have:=rW h;exact ⟨by omega,by omega,by omega⟩
theorem Ct (r:Ro):∀ k,k<=r.po.length->(Cu r k).length=(dh r).length+2*k
 | 0,_=>by unfold Cu;simp
 | k+1,h=>by rw [y7 (by omega),Zg,Ct r k (by omega)];simp;omega
theorem Om (h:RR w r s d t p):an T_ 18 [RA r s d t p] w (.bool (Cv r)):=by
 obtain ⟨h1,h2,h3,h4⟩:=h.one;have abd:yh r=true->∀ w',aI [] w w'->a8 T_ 77 [.agg #[.int .i64 r.lv,.int .i64 r.ma,s,d,t,p]] w' [] (fun _:Value=>True) id (fun x=>[row 9 1 x (dh r).length (aR (dh r))]):=fun e w' hk=>vo (h.keeps hk) (Cw e)
 have Db:=h.sr;have Dl:=h.de;have EP:=h.po;have yq:=h.ti;obtain ⟨a1,ew,II,Iz,rfl,oO,iu,mz,kT⟩:=Db;obtain ⟨a2,c8,IH,Iy,rfl,jS,eV,jU,kg⟩:=Dl;obtain ⟨a3,dX,GP,F6,rfl,mU,gB,rP,pb⟩:=yq;obtain ⟨a4,eW,NB,Ix,rfl,q7,jF,zD,tI⟩:=EP;rw [cG] at *;rw [bY] at *;rw [bS] at *;rw [cT] at *;unfold maxLen at iu eV gB jF;unfold RA;refine aj func18 I I ?_
 (refine Jr<|Jy I I fun _ _=>Ja I<|Jn<|Jq<|Jr<|bD I I ae<|JL I .here I<|JI I<|JE I<|Jv I<|aM I I (fun hg bH=>(ar (.of I) ae)) I<|aM I I (fun hg bH=>(ag (.bW hg I) (At.lit .here I))) I<|aM I I (fun hg bH=>(cR (.bW hg I))) I<|aM I I (fun hg bH=>(ni (.bW hg I) (.of I))) I<|ab (bV (.of I) I) I<|Jv I<|aM I I (fun hg bH=>(ar (.of I) ae)) I<|aM I I (fun hg bH=>(ag (.bW hg I) (At.lit .here I))) I<|aM I I (fun hg bH=>(cR (.bW hg I))) I<|aM I I (fun hg bH=>(ni (.bW hg I) (.of I))) I<|ab (bV (.of I) I) I<|Jv I<|aM I I (fun hg bH=>(ar (.of I) ae)) I<|aM I I (fun hg bH=>(ag (.bW hg I) (At.lit .here I))) I<|aM I I (fun hg bH=>(cR (.bW hg I))) I<|aM I I (fun hg bH=>(ni (.bW hg I) (.of I))) I<|ab (bV (.of I) I) I<|Jn<|oK I (fun aA=>?_) fun aA=>?_;refine Jr<|Ja I<|Jn<|Ju<|JT ?_;rotate_left;refine Jk<|Jr<|ab (bU .here) I ?_;rotate_right)
 ·have e:Cv r=false:=by
   unfold Cv;have e2:yh r=false:=by
    rw [<- Zar];intro q;have:=rW q;omega
   rw [e2];rfl
  rw [e]
 have hA:yh r=true:=by
  unfold yh;simp only [Zn,decide_eq_true_eq];omega
 obtain ⟨f1,f2,f3,f4⟩:=rW hA;have zx:=abd hA;clear aA;rename_i b1 tJ;have vz:(dh r).length<=30:=by
  unfold dh cN cu cQ;simp only [Zg,Zd];omega
 refine JN bJ I (fun w1 aT=>zx w1 aT.keeps) ?_;intro x _;dsimp only [id_eq,Zb,Za];refine Ja I<|Jn<|Jq<|Jr<|Ja I<|Jn<|J0 ?_;refine aV (ι:=Nat×Value×List ByteArray) (fun y=>y.1<=r.po.length/\y.2.2=Cu r y.1) (fun y=>[(4,.q (y.1:Nat)),(3,y.2.1),(1,.p b1)]) (fun y=>[row 9 1 y.2.1 y.2.2.length (aR y.2.2),JQ b1 r (.slice a1 r.sr.length ew) (.slice a2 r.de.length c8) (.slice a3 r.ti.length dX) (.slice a4 r.po.length eW)]) (fun y=>r.po.length-y.1) ?_ ?_
 ·apply aH (0,x,dh r) ⟨Zi _,by unfold Cu;simp⟩
  case hs1=>exact bT
  case ht=>
   exact .h2 .nil
 rintro ⟨k,v',L⟩ ⟨hk,hL⟩;dsimp only at hk hL ⊢;have Dr:L.length=(dh r).length+2*k:=by rw [hL,Ct r k hk]
 have hlen:(aR L).length=L.length*1:=by rw [dx];omega
 by_cases aL:k<r.po.length
 ·have cY:=zD (j8 aL);obtain ⟨iO,aF⟩:=tI k _ (ia aL);unfold Po.cells at aF;have c1:=aF 1 _ I;have c2:=aF 2 _ I;have gS:=y7 (r:=r) aL;rw [<- hL] at gS;generalize r.po[k]=q at aF c1 c2 gS
  (refine Jq<|Jr<|Jv I<|bD I I ae<|JL I (.there .here) I<|JI I<|JA I<|Jn<|Jd I fun aA=>Jk<|Jq<|J0 ?_)
  with_reducible refine db 14 (by kernel_rfl) ?_
  (refine az mw I<|az lP I<|az (gn (.there .here)) I<|az mw I<|az (gE cY aA) I<|az lP I<|az (ag (.of I) (At.base c1 I)) I<|az lP I<|az (gn (.there .here)) I<|az mw I<|az (gE cY aA) I<|az lP I<|az (ag (.of I) (At.base c2 I)) I<|eM (aD (.o I (.o I .nil)) I I I I) I I ?_)
  with_reducible refine dI I fun bq mV=>?_
  refine bA (.of I) (.of I) (.there .here) .here ai (by rfl) (ix I I) (by rfl) (by rfl) (by rfl) eC (by rfl) ?_;intro z;refine Ja I<|Jx<|Jj<|Jt<|Jg<|Jv I<|JB I (by omega)<|Ja I<|Jn ?_;apply aG (k+1,z,L++[q.ou,q.ip]) ⟨(show k+1<=r.po.length from aL),gS.symm⟩ (by show r.po.length-(k+1)<r.po.length-k;omega)
  case hs1=>exact bT
  case ht=>
   show bj _ [row 9 1 z (L++[q.ou,q.ip]).length (aR (L++[q.ou,q.ip])),JQ b1 r (.slice a1 r.sr.length ew) (.slice a2 r.de.length c8) (.slice a3 r.ti.length dX) (.slice a4 r.po.length eW)] _;rw [show aR (L++[q.ou,q.ip])=aR L++[.string q.ou,.string q.ip] from eU _ _,Zg,show [q.ou,q.ip].length=2 from I];exact .h1 (.cons (.there .here) .nil)
 obtain rfl:k=r.po.length:=by omega
 clear hk aL;have e:Cv r=Em L:=by unfold Cv;rw [hA,<- hL];rfl
 rw [e]
 (refine Jq<|Jr<|Jv I<|bD I I ae<|JL I (.there .here) I<|JI I<|JA I<|Jn<|Jc I fun aA=>Jp<|Jl<|Jo<|Jt<|Jr<|Jv I ?_)
 refine ah bJ I (fun w' aB=>Cs (ez aB (by exact .here) I)) ?_;refine Ja I<|Jn<|Je<|JT ?_
 rfl

theorem mZ {i:Nat} (hi:i<r.ti.length):gZ r i=r.ti[i]:=by
 unfold gZ;rw [Zk,Zc hi];rfl

theorem Fg (h:fm r=0) (v:Int) (x:ByteArray):(eD r.po v x).getD ⟨#[]⟩≠⟨#[]⟩↔gI r.po v x=true:=by
 unfold gI;cases e:eD r.po v x with
 | none=>simp
 | some i =>
  obtain ⟨p,hp,_,_,rfl⟩:=fC e;simpa using Lp h p hp
theorem Ff (h:fm r=0) (v:Int) (x:ByteArray):(eD r.po v x).getD ⟨#[]⟩=⟨#[]⟩↔gI r.po v x=false:=by
 have:=Fg h v x;rw [<- Zar,<- this,Zq]
theorem QR (hs:so∈cN r):∃ i:Nat,∃ hi:i<r.sr.length,bB (cN r) so=(i:Nat)/\oV r so=r.sr[i].mx:=by
 obtain ⟨nX,_⟩:=fk (dK hs);have vz:(cN r).length=r.sr.length:=by unfold cN;rw [Zd]
 have hl:=Nat.lt_of_lt_of_eq nX vz;have:=dK hs;refine ⟨(bB (cN r) so).toNat,hl,by omega,?_⟩;unfold oV;rw [Zk,Zc hl];rfl
theorem RQ {de:ByteArray} (hs:de∈cu r):∃ i:Nat,∃ hi:i<r.de.length,bB (cu r) de=(i:Nat)/\ll r de=r.de[i].mx:=by
 obtain ⟨nX,_⟩:=fk (dK hs);have vz:(cu r).length=r.de.length:=by unfold cu;rw [Zd]
 have hl:=Nat.lt_of_lt_of_eq nX vz;have:=dK hs;refine ⟨(bB (cu r) de).toNat,hl,by omega,?_⟩;unfold ll;rw [Zk,Zc hl];rfl
theorem QM (h:fm r=0) {i:Nat} (hi:i<r.ti.length):r.ti[i].nm≠⟨#[]⟩:=(BC h).ne (.inr (.inr (Zw.2 ⟨_,Zj hi,I⟩)))


def oG (r:Ro) (v:Int) (L:List ByteArray):Nat:=L.countP fun x=>decide ((eD r.po v x).getD ⟨#[]⟩=⟨#[]⟩)
theorem HY {L:List ByteArray} (h:k<L.length):oG r v (L.take (k+1))=oG r v (L.take k)+if (eD r.po v L[k]).getD ⟨#[]⟩=⟨#[]⟩ then 1 else 0:=by
 unfold oG;rw [Zm h,List.countP_append,List.countP_singleton];congr 1;by_cases e:(eD r.po v L[k]).getD ⟨#[]⟩=⟨#[]⟩ <;> simp [e]
theorem P2 (r:Ro) (v:Int) (L:List ByteArray):oG r v L<=L.length:=List.countP_le_length
theorem Gu (v:Int) {L:List ByteArray} {w:World} (h:RR w r s d t p) (hl:Rd w lv 1 (fN L)):an T_ 265 [RA r s d t p,.q v,lv] w (.q (oG r v L:Nat)):=by
 obtain ⟨h1,h2,h3,h4⟩:=h.one;have yt:∀ (o:ByteArray) {w'},aI [] w w'->an T_ 133 [.agg #[.int .i64 r.lv,.int .i64 r.ma,s,d,t,p],.int .i64 v,.string o] w' (.string ((eD r.po v o).getD ⟨#[]⟩)):=fun o _ hk=>qz v o (h.keeps hk)
 obtain ⟨a,cap,b,o,rfl,dC,ch,ha,hc⟩:=hl;rw [bG] at *;unfold maxLen at ch;unfold RA;refine aj func265 I I ?_;refine Jr<|Jy I I fun _ _=>Ja I<|Ji<|Ja I<|Jn<|Jq<|Jr<|Ja I<|Jn<|J0 ?_;rename_i b3 rz;refine aV (ι:=Nat) (fun k=>k<=L.length) (fun k=>[(8,.int .i64 (k:Nat)),(7,.int .i64 (oG r v (L.take k):Nat)),(1,.int .i64 v),(2,.slice a L.length cap),(3,.pointer (some ⟨b3,0,none⟩))]) (fun _=>[JQ b3 r s d t p]) (fun k=>L.length-k) ?_ ?_
 ·apply aH (0:Nat) (show (0:Nat)<=L.length from Zi _)
  case hs1=>exact bT
  case ht=>(try simp only [Ze,Zf,Za]);exact .h1 .nil
 rintro k hk;by_cases aL:k<L.length
 ·have cY:=ha (iU aL);have aF:=(hc k _ (fH aL)).2 0 _ I;have htk:=HY (r:=r) (v:=v) aL;have hle:oG r v (L.take k)<=k:=by have:=P2 r v (L.take k);rw [Zs] at this;omega
  generalize L[k]=x at aF htk;have me:oG r v (L.take k)+1<=9223372036854775807:=by omega
  generalize oG r v (L.take k)=m at hle me htk;refine Jq<|Jr<|Jv I<|Jv I<|JI I<|JA I<|Jn<|Jd I fun aA=>Jk<|Jq<|J0<|Jq ?_
  with_reducible refine cz 8 (by kernel_rfl) ?_
  (refine aq (bU .here) I<|fw I I<|fw I I<|fw I I<|aq (gE cY aA) I<|aq (ag (.of I) (At.base aF I)) I<|cW dU I (fun w' aB=>(yt x (Mem.keeps aB)))<|aq (dD (.of I) (.of I)) I ?_)
  with_reducible refine cC ?_
  (refine Jn<|gL I (fun aA=>?_) fun aA=>?_;refine Jg<|Jv I<|JB I (by omega)<|Ja I<|Jx<|Jj<|Jt<|Jg<|Jv I<|JB I (by omega)<|Ja I<|Jn ?_;rotate_left;refine Jw<|Jj<|Jt<|Jg<|Jv I<|JB I (by omega)<|Ja I<|Jn ?_;rotate_right)
  ·rw [if_pos aA] at htk;apply aG (k+1) (show k+1<=L.length from aL) (show L.length-(k+1)<L.length-k by omega)
   case hs1=>
    rw [htk];exact .cons I (.cons I (.cons I (.cons I (.cons I .nil))))
   case ht=>exact jv
  ·rw [if_neg aA] at htk;apply aG (k+1) (show k+1<=L.length from aL) (show L.length-(k+1)<L.length-k by omega)
   case hs1=>
    rw [htk];exact .cons I (.cons I (.cons I (.cons I (.cons I .nil))))
   case ht=>exact jv
 ·obtain rfl:k=L.length:=by omega
  refine Jq<|Jr<|Jv I<|Jv I<|JI I<|JA I<|Jn<|Jc I fun aA=>Jp<|Jl<|Jo<|Jt<|Jr<|Jv I<|Ja I<|Jn<|Je<|JT ?_;rw [ZL]
def A0 (r:Ro):List ByteArray->List ByteArray->Bool
 | a::l,b::m=>if a=b then A0 r l m else decide (bB (cQ r) a<bB (cQ r) b)
 | _,_=>false
def Pa (r:Ro) (v:Int) (A B:List ByteArray):Bool:=if oG r v A=oG r v B then (if A.length=B.length then A0 r A B else decide (A.length<B.length)) else decide (oG r v A<oG r v B)
theorem HB {A B:List ByteArray} (ha:k<A.length) (hb:k<B.length):A0 r (A.drop k) (B.drop k)=if A[k]=B[k] then A0 r (A.drop (k+1)) (B.drop (k+1)) else decide (bB (cQ r) A[k]<bB (cQ r) B[k]):=by
 rw [Zt ha,Zt hb,A0]
theorem Lj {s d t p av bv:Value} (v:Int) {A B:List ByteArray} {w:World} (h:RR w r s d t p) (hA:Rd w av 1 (fN A)) (hB:Rd w bv 1 (fN B)):an T_ 183 [RA r s d t p,.q v,av,bv] w (.bool (Pa r v A B)):=by
 obtain ⟨h1,h2,h3,h4⟩:=h.one;have T6:∀ {w'},aI [] w w'->an T_ 265 [.agg #[.int .i64 r.lv,.int .i64 r.ma,s,d,t,p],.int .i64 v,av] w' (.int .i64 (oG r v A:Nat)):=fun hk=>Gu v (h.keeps hk) (Rd.keeps hA hk)
 have T5:∀ {w'},aI [] w w'->an T_ 265 [.agg #[.q r.lv,.q r.ma,s,d,t,p],.q v,bv] w' (.q (oG r v B:Nat)):=fun hk=>Gu v (h.keeps hk) (Rd.keeps hB hk)
 have Vh:∀ (o:ByteArray) {w'},aI [] w w'->an T_ 60 [.agg #[.q r.lv,.q r.ma,s,d,t,p],.string o] w' (.q (bB (cQ r) o)):=fun o _ hk=>qD o (h.keeps hk)
 unfold Pa;generalize oG r v A=fa at T6 ⊢;generalize oG r v B=fb at T5 ⊢;obtain ⟨a,cap,b,o,rfl,dC,ch,ha,hc⟩:=hA;obtain ⟨a2,c8,b2,o2,rfl,jS,eV,jU,kg⟩:=hB;rw [bG A] at *;rw [bG B] at *;unfold maxLen at ch eV;have LU:=fun {w'}=>T6 (w':=w')
 have Bh:=fun {w'}=>T5 (w':=w')
 clear T6 T5;unfold RA;refine aj func183 I I ?_;refine Jr<|Jy I I fun _ _=>Ja I<|Jn<|Jq<|Jq ?_;rename_i b4 sH
 with_reducible refine cz 9 (by kernel_rfl) ?_
 (refine aq (bU .here) I<|fw I I<|fw I I<|cW dU I (fun w' aB=>(LU (Mem.keeps aB)))<|aq (bU .here) I<|fw I I<|fw I I<|cW dU I (fun w' aB=>(Bh (Mem.keeps aB)))<|aq (j7 (.of I) (.of I)) I ?_)
 with_reducible refine cC ?_
 (refine Jn<|gL I (fun aA=>?_) fun aA=>?_;refine Jq ?_;rotate_left;refine Jk<|Jq<|Jr<|Jv I<|JI I<|Jv I<|JI I<|JD I<|Jn<|gL I (fun aA=>?_) fun aA=>?_;refine Jr<|Jv I<|JI I<|Jv I<|JI I<|JA I<|Ja I<|Jn<|Ju<|JT ?_;rotate_left;refine Jk<|Jq<|Jr<|Ja I<|Jn<|J0 ?_;rotate_right;rotate_right)
 ·with_reducible refine cz 8 (by kernel_rfl) ?_
  (refine aq (bU .here) I<|fw I I<|fw I I<|cW dU I (fun w' aB=>(LU (Mem.keeps aB)))<|aq (bU .here) I<|fw I I<|fw I I<|cW dU I (fun w' aB=>(Bh (Mem.keeps aB))) ?_)
  with_reducible refine cC ?_
  refine JA I<|Ja I<|Jn<|Ju<|JT ?_;rw [if_neg (by omega)];congr 1;exact decide_eq_decide.2 (by omega)
 ·rw [if_pos (by omega),if_neg (by omega)];congr 1;exact decide_eq_decide.2 (by omega)
 have T4:fa=fb:=by omega
 have hle:A.length=B.length:=by omega
 rw [if_pos T4,if_pos hle];clear aA LU Bh T4;refine aV (ι:=Nat) (fun k=>k<=A.length/\A0 r A B=A0 r (A.drop k) (B.drop k)) (fun k=>[(9,.q (k:Nat)),(2,.slice a A.length cap),(3,.slice a2 B.length c8),(4,.p b4)]) (fun _=>[JQ b4 r s d t p]) (fun k=>A.length-k) ?_ ?_
 ·apply aH (0:Nat) ⟨Zi _,I⟩
  case hs1=>exact bT
  case ht=>(try simp only [Ze,Zf,Za]);exact .h1 .nil
 rintro k ⟨hk,hx⟩;by_cases aL:k<A.length
 ·have fT:k<B.length:=by omega
  have cY:=ha (iU aL);have dQ:=jU (iU fT);have cA:=(hc k _ (fH aL)).2 0 _ I;have cB:=(kg k _ (fH fT)).2 0 _ I;rw [HB aL fT] at hx;generalize A[k]=x at cA hx;generalize B[k]=y at cB hx;refine Jq<|Jr<|Jv I<|Jv I<|JI I<|JA I<|Jn<|Jd I fun aA=>Jk<|Jq<|J0<|Jq ?_
  with_reducible refine cz 9 (by kernel_rfl) ?_
  (refine fw I I<|fw I I<|aq (gE cY aA) I<|aq (ag (.of I) (At.base cA I)) I<|fw I I<|fw I I<|aq (ao (.of I) (.of I) dQ (by omega) (by omega) aW) I<|aq (ag (.of I) (At.base cB I)) I<|aq (gz (.of I) (.of I)) I ?_)
  with_reducible refine cC ?_
  (refine Jn<|gL I (fun aA=>?_) fun aA=>?_;refine Jq ?_;rotate_left;refine Jw<|Jj<|Jt<|Jg<|Jv I<|JB I (by omega)<|Ja I<|Jn ?_;rotate_right)
  ·with_reducible refine cz 14 (by kernel_rfl) ?_
   (refine aq (bU .here) I<|fw I I<|fw I I<|aq (ao (.of I) (.of I) cY (by omega) (by assumption) aW) I<|aq (ag (.of I) (At.base cA I)) I<|cW bn I (fun w' aB=>(Vh x (Mem.keeps aB)))<|aq (bU .here) I<|fw I I<|fw I I<|aq (ao (.of I) (.of I) dQ (by omega) (by omega) aW) I<|aq (ag (.of I) (At.base cB I)) I<|cW bn I (fun w' aB=>(Vh y (Mem.keeps aB)))<|aq (l7 (.of I) (.of I)) I<|aq (cX (.of I)) I ?_)
   with_reducible refine cC ?_
   refine Jn<|Je<|Jm<|Jh<|Jh<|Jm<|Jh<|JT ?_;rw [hx,if_neg aA]
  rw [if_pos (Zq.1 aA)] at hx;apply aG (k+1) ⟨(show k+1<=A.length from aL),hx⟩ (show A.length-(k+1)<A.length-k by omega)
  case hs1=>exact bT
  case ht=>(try simp only [Ze,Zf,Za]);exact .h1 .nil
 ·obtain rfl:k=A.length:=by omega
  refine Jq<|Jr<|Jv I<|Jv I<|JI I<|JA I<|Jn<|Jc I fun aA=>Jp<|Jl<|Jo<|Jt<|Jr<|Ja I<|Jn<|Je<|JT ?_;rw [hx,ZY]
  rfl
def Ef (r:Ro) (x:ByteArray):Ti:=gZ r (bB (cQ r) x).toNat
theorem Kb {x:ByteArray} (h:x∈cQ r):∃ j:Nat,∃ hj:j<r.ti.length,bB (cQ r) x=(j:Nat)/\Ef r x=r.ti[j]/\r.ti[j].nm=x:=by
 obtain ⟨nX,hx⟩:=fk (dK h);have vz:(cQ r).length=r.ti.length:=by unfold cQ;rw [Zd]
 have hl:=Nat.lt_of_lt_of_eq nX vz;have:=dK h;refine ⟨(bB (cQ r) x).toNat,hl,by omega,?_,?_⟩
 ·unfold Ef;rw [mZ hl]
 ·exact (Z1 (f:=Ti.nm) (l:=r.ti) (h:=nX)).symm.trans hx
def SB (r:Ro) (v:Int) (so:ByteArray) (f:Bool) (m:Int) (x:ByteArray):Bool:=f&&gI r.po v x&&decide (jY r v x=so)||!gI r.po v x&&decide ((Ef r x).fr=m)
def IN (r:Ro) (v:Int) (so:ByteArray):Bool->Int->List ByteArray->Option Int
 | _,m,[]=>some m
 | f,m,x::l=>if SB r v so f m x=true then IN r v so false (Ef r x).to l else none
def Yu (r:Ro) (v:Int) (so de:ByteArray) (L:List ByteArray):Bool:=decide (IN r v so true (oV r so) L=some (ll r de))
theorem IM {f:Bool} {m:Int} {L:List ByteArray} (h:k<L.length):IN r v so f m (L.drop k)=if SB r v so f m L[k]=true then IN r v so false (Ef r L[k]).to (L.drop (k+1)) else none:=by
 rw [Zt h,IN]
set_option maxHeartbeats 1000000 in
theorem Pe (v:Int) (so de:ByteArray) {L:List ByteArray} {w:World} (h:RR w r s d t p) (hb:fm r=0) (hs:so∈cN r) (hd:de∈cu r) (hl:Rd w lv 1 (fN L)) (hL:∀ x∈L,x∈cQ r):an T_ 75 [RA r s d t p,.q v,.string so,.string de,lv] w (.bool (Yu r v so de L)):=by
 obtain ⟨h1,h2,h3,h4⟩:=h.one;obtain ⟨i0,vA,ei0,em0⟩:=QR hs;obtain ⟨j0,rO,Y1,en0⟩:=RQ hd;have PL:∀ {w'},aI [] w w'->an T_ 130 [.agg #[.int .i64 r.lv,.int .i64 r.ma,s,d,t,p],.string so] w' (.int .i64 (i0:Nat)):=fun hk=>by rw [<- ei0];exact vE so (h.keeps hk)
 have EW:∀ {w'},aI [] w w'->an T_ 56 [.agg #[.q r.lv,.q r.ma,s,d,t,p],.string de] w' (.q (j0:Nat)):=fun hk=>by rw [<- Y1];exact qE de (h.keeps hk)
 have abB:∀ (o:ByteArray) (j:Nat),bB (cQ r) o=(j:Nat)->∀ {w'},aI [] w w'->an T_ 60 [.agg #[.q r.lv,.q r.ma,s,d,t,p],.string o] w' (.q (j:Nat)):=fun o j e _ hk=>by rw [<- e];exact qD o (h.keeps hk)
 have yt:∀ (o:ByteArray) {w'},aI [] w w'->an T_ 133 [.agg #[.q r.lv,.q r.ma,s,d,t,p],.q v,.string o] w' (.string ((eD r.po v o).getD ⟨#[]⟩)):=fun o _ hk=>qz v o (h.keeps hk)
 have HR:∀ (o:ByteArray),o≠⟨#[]⟩->∀ {w'},aI [] w w'->an T_ 131 [.agg #[.q r.lv,.q r.ma,s,d,t,p],.q v,.string o] w' (.string (jY r v o)):=fun o ho _ hk=>by rw [<- BH hb v ho];exact tR v o ho (h.keeps hk)
 have Db:=h.sr;have Dl:=h.de;have yq:=h.ti;obtain ⟨a1,ew,II,Iz,rfl,oO,iu,mz,kT⟩:=Db;obtain ⟨a2,c8,IH,Iy,rfl,jS,eV,jU,kg⟩:=Dl;obtain ⟨a3,dX,GP,F6,rfl,mU,gB,rP,pb⟩:=yq;obtain ⟨a4,eW,NB,Ix,rfl,q7,jF,zD,tI⟩:=hl;rw [cG] at *;rw [bY] at *;rw [bS] at *;rw [bG] at *;unfold maxLen at iu eV gB jF;have xk:=mz (iD vA);have qO:=jU (ij rO);have cS:w.cell? ⟨II,Iz+i0*2+1,none⟩=some (.int .i64 (oV r so)):=by rw [em0];exact (kT i0 _ (fW vA)).2 1 _ I
 have cD:w.cell? ⟨IH,Iy+j0*3+1,none⟩=some (.q (ll r de)):=by rw [en0];exact (kg j0 _ (fM rO)).2 1 _ I
 unfold RA Yu;refine aj func75 I I ?_;refine Jr<|Jy I I fun _ _=>Ja I<|Jn<|Jq ?_;rename_i b5 HS
 with_reducible refine cz 9 (by kernel_rfl) ?_
 (refine jH I I ae<|aq (gn .here) I<|aq (bU .here) I<|fw I I<|cW bn I (fun w' aB=>(PL (Mem.keeps aB)))<|aq (ao (.of I) (.of I) xk (by omega) (by omega) aW) I<|jH I I ae<|aq (ag (.of I) (At.base cS I)) I<|aq (cX (.of I)) I ?_)
 with_reducible refine cC ?_
 refine Jn<|Jq<|Jr<|Ja I<|Jn<|J0 ?_;clear cS xk;refine aV (ι:=Nat×Int) (fun y=>y.1<=L.length/\IN r v so true (oV r so) L=IN r v so (decide (y.1=0)) y.2 (L.drop y.1)) (fun y=>[(12,.q (y.1:Nat)),(11,.q y.2),(1,.q v),(2,.string so),(3,.string de),(4,.slice a4 L.length eW),(5,.p b5),(10,.bool false)]) (fun _=>[JQ b5 r (.slice a1 r.sr.length ew) (.slice a2 r.de.length c8) (.slice a3 r.ti.length dX) p]) (fun y=>L.length-y.1) ?_ ?_
 ·apply aH (0,oV r so) ⟨Zi _,I⟩
  case hs1=>exact bT
  case ht=>(try simp only [Ze,Zf,Za]);exact .h1 .nil
 rintro ⟨k,m⟩ ⟨hk,hx⟩;dsimp only at hk hx ⊢;by_cases aL:k<L.length
 ·have cY:=zD (iU aL);have cA:=(tI k _ (fH aL)).2 0 _ I;have mT:=hL _ (Zj aL);rw [IM aL] at hx;generalize L[k]=x at cA hx mT;obtain ⟨j,hj,ej,et,en⟩:=Kb mT;have Vh:=fun {w'}=>abB x j ej (w':=w')
  have yz:=rP (fq hj);obtain ⟨iO,aF⟩:=pb j _ (ep hj);unfold Ti.cells at aF;have te:=fun {w'}=>HR r.ti[j].nm (QM hb hj) (w':=w')
  have g1:=Fg hb v r.ti[j].nm;have g2:=Ff hb v r.ti[j].nm;have hsq:SB r v so (decide (k=0)) m x=(decide (k=0)&&gI r.po v r.ti[j].nm&&decide (jY r v r.ti[j].nm=so)||!gI r.po v r.ti[j].nm&&decide (r.ti[j].fr=m)):=by unfold SB;rw [et,en]
  rw [et] at hx;generalize r.ti[j]=z at aF te g1 g2 hsq hx;refine Jq<|Jr<|Jv I<|Jv I<|JI I<|JA I<|Jn<|Jd I fun aA=>Jk<|Jq<|J0<|Jq ?_
  with_reducible refine db 11 (by kernel_rfl) ?_
  (refine az lP I<|az (gn .here) I<|az (bU .here) I<|az mw I<|az mw I<|az (gE cY aA) I<|az (ag (.of I) (At.base cA I)) I<|aZ bn I (fun w' aB=>(Vh (Mem.keeps aB)))<|az (ao (.of I) (.of I) yz (by omega) (by omega) aW) I<|az (ja (fo.base aF I)) I<|eM (kY I) I I ?_)
  with_reducible refine dI I fun bq mV=>?_
  (refine ak (.of I) (.of I) .here I I (fc I I I) (br I) ai<|Ji<|ab (bU (.there .here)) I<|Jv I<|bD I I ae<|JL I .here I<|ah dU I (fun w' aB=>(yt _ (Mem.keeps aB)))<|ab (gz (.of I) (.of I)) I<|Ja I<|Ji<|Jv I<|JC I<|Jv I<|jZ I I I I<|ab (cM (.of I) I) I<|Jv I<|aM I I (fun hg bH=>(bQ (.of I) (.there .here) ai (by rfl))) I<|jZ I I I I<|aM I I (fun hg bH=>(ar (.of I) ae)) I<|aM I I (fun hg bH=>(ag (.bW hg I) (At.lit .here I))) I<|l5 I I (fun hg=>(a7 (.of I) (.cons (.bW hg I) (.cons (.bW hg I) (.cons (.bW hg I) .nil))) inferInstance gF)) I (fun hg w' aB=>(te (Mem.keeps aB)))<|jZ I I I I<|aM I I (fun hg bH=>(dD (.bW hg I) (.bW hg I))) I<|ab (cM (.of I) I) I<|Ja I<|Jn<|Jq<|Jr<|Jv I<|JH I<|Jv I<|jZ I I I I<|aM I I (fun hg bH=>(aQ (.bW hg I))) I<|gV I I (fun hg bH=>(ar (.of I) ae)) I<|gV I I (fun hg bH=>(ag (.bW hg I) (At.lit .here I))) I<|gV I I (fun hg bH=>(aQ (.of I))) I<|gV I I (fun hg bH=>(j7 (.bW hg I) (.bW hg I))) I<|aM I I (fun hg bH=>(kX hg (.bW hg I) I)) I<|ab (cM (.of I) I) I<|Jn<|oK I (fun aA=>?_) fun aA=>?_;refine Jr<|Ja I<|Jn<|Ju<|Jm<|Jh<|Jh<|Jm<|Jh<|JT ?_;rotate_left;refine Jk<|Jg<|bD I I ae<|JL I .here I<|Ja I<|Jx<|Jj<|Jt<|Jg<|Jv I<|JB I (by omega)<|Ja I<|Jn ?_;rotate_right)
  ·have hz:SB r v so (decide (k=0)) m x=false:=by
    rw [hsq];obtain ⟨q1,q2⟩:=aA;cases eb:gI r.po v z.nm
    ·have:z.fr≠m:=q2.resolve_left fun q=>by rw [g1.1 q] at eb;cases eb
     rw [decide_eq_false this];simp
    ·have:¬ k=0\/¬ jY r v z.nm=so:=q1.imp (fun q=>q.elim (fun q0=>by omega) (fun q0=>absurd (g1.2 eb) q0)) id
     rcases this with q | q
     ·rw [decide_eq_false q];simp
     ·rw [decide_eq_false q];simp
   rw [hz,if_neg (by decide)] at hx;rw [hx];simp
  have hz:SB r v so (decide (k=0)) m x=true:=by
   rw [hsq];rcases aA with ⟨⟨q1,q2⟩,q3⟩ | ⟨q1,q2⟩
   ·rw [g1.1 q2,decide_eq_true q3,decide_eq_true (show k=0 by omega)];rfl
   ·rw [g2.1 (Zq.1 q1),decide_eq_true (Zq.1 q2)];simp
  rw [hz,if_pos I] at hx;apply aG (k+1,z.to) ⟨(show k+1<=L.length from aL),by
   show _=IN r v so (decide (k+1=0)) z.to (L.drop (k+1));rw [show decide (k+1=0)=false from decide_eq_false (by omega)];exact hx⟩ (show L.length-(k+1)<L.length-k by omega)
  case hs1=>exact bT
  case ht=>(try simp only [Ze,Zf,Za]);exact .cons (.there .here) .nil
 ·obtain rfl:k=L.length:=by omega
  rw [ZY,IN] at hx;refine Jq<|Jr<|Jv I<|Jv I<|JI I<|JA I<|Jn<|Jc I fun aA=>Jp<|Jl<|Jo<|Jt<|Jq ?_
  with_reducible refine cz 11 (by kernel_rfl) ?_
  (refine fw I I<|jH I I ae<|aq (gn .here) I<|aq (bU .here) I<|fw I I<|cW bn I (fun w' aB=>(EW (Mem.keeps aB)))<|aq (ao (.of I) (.of I) qO (by omega) (by omega) aW) I<|jH I I ae<|aq (ag (.of I) (At.base cD I)) I<|aq (oh (.of I) (.of I)) I<|aq (cX (.of I)) I ?_)
  with_reducible refine cC ?_
  refine Jn<|Je<|JT ?_;rw [hx];simp

theorem Fy {r:Ro} (dP:rS r) (hd:(cQ r).Nodup) {v:Int} {so:ByteArray}:∀ (L:List ByteArray) (b:Bool) (m:Int),(∀ x∈L,x∈cQ r)->UW r r.po v so b m L=IN r v so b m L
 | [],_,_,_=>rfl
 | x :: l, b, m, hL => by
  obtain ⟨j,hj,ej,et,en⟩:=Kb (hL x Zr);have ht:dq r j=x:=by unfold dq;rw [mZ hj];exact en
  have e1:k6 r x=(Ef r x).fr:=by rw [<- ht,AS dP.wJ hd hj,ht,et,mZ hj]
  have e2:kD r x=(Ef r x).to:=by rw [<- ht,vv dP.wJ hd hj,ht,et,mZ hj]
  have e3:(gI r.po v x&&decide (qF r.po v (cN r) x=so))=(gI r.po v x&&decide (jY r v x=so)):=by
   have:=rH dP.wJ dP.val v so j;unfold xX at this;rw [ht] at this;rw [this];show _=(gI r.po v (dq r j)&&decide (qF r.po v (cN r) (dq r j)=so));rw [ht]
  rw [UW,IN,e1,e2,e3];unfold SB;rw [Bool.and_assoc];split
  ·exact Fy dP hd l false _ fun y hy=>hL y (ZM _ hy)
  ·rfl
theorem L5 (hd:(cQ r).Nodup) {p:List Nat} (hp:∀ i∈p,i<r.ti.length) {j:Nat} (hj:j<r.ti.length):eZ (p.map (dq r)) (dq r j)=p.contains j:=by
 rw [ZaS,fE,ZaI,Zw];constructor
 ·rintro ⟨i,hi,e⟩;rw [<- u4 hd (hp i hi) hj e];exact hi
 ·exact fun h=>⟨j,h,I⟩
theorem Md (hb:fm r=0) (v:Int) (L:List ByteArray):oG r v L=yC r.po v L:=by
 unfold oG yC;refine List.countP_congr fun x _=>?_;rw [decide_eq_true_iff,Zbc,Ff hb v x]
theorem Lh (r:Ro):∀ A B:List ByteArray,A0 r A B=HC (bB (cQ r)) A B
 | [],[]=>rfl
 | [],_::_=>rfl
 | _::_,[]=>rfl
 | a::l,b::m=>by rw [A0,HC,Lh r l m]
theorem O9 (hb:fm r=0) (hd:(cQ r).Nodup) {v:Int} (so:ByteArray) {a b:List Nat} (ha:∀ i∈a,i<r.ti.length) (hc:∀ i∈b,i<r.ti.length):Pa r v (a.map (dq r)) (b.map (dq r))=(dJ r r.po v so).lt a b:=by
 rw [<- Ld (po:=r.po) (v:=v) (s:=so) hd ha hc];unfold Pa lsN;rw [Md hb,Md hb,Lh];by_cases h1:yC r.po v (a.map (dq r))=yC r.po v (b.map (dq r))
 ·rw [if_pos h1,if_neg (not_not_intro h1)];by_cases h2:(a.map (dq r)).length=(b.map (dq r)).length
  ·rw [if_pos h2,if_neg (not_not_intro h2)]
  ·rw [if_neg h2,if_pos h2]
 ·rw [if_neg h1,if_pos h1]
theorem Tp (dP:rS r) (hd:(cQ r).Nodup) {v:Int} {so de:ByteArray} (hs:so∈cN r) {p:List Nat} (hp:(dJ r r.po v so).ok p):Yu r v so de (p.map (dq r))=decide ((dJ r r.po v so).fin p=ll r de):=by
 have aL:∀ i∈p,i<r.ti.length:=Wn.sq hp;have hL:∀ x∈p.map (dq r),x∈cQ r:=fun x hx=>by
  obtain ⟨i,hi,rfl⟩:=Zw.1 hx;exact mM (aL i hi)
 have hw:=We (po:=r.po) (v:=v) (s:=so) (m:=ll r de) dP.wJ hd (Wn.wG hp) aL;rw [px hs,Fy dP hd _ _ _ hL] at hw;unfold Yu;exact decide_eq_decide.2 (hw.trans ⟨fun h=>h.2,fun h=>⟨hp,h⟩⟩)
theorem Sz (dP:rS r) {v:Int} {so:ByteArray} {p:List Nat} {j:Nat} (hj:j<r.ti.length):(dJ r r.po v so).step p j=(!p.contains j&&(p.isEmpty&&gI r.po v (dq r j)&&decide (jY r v (dq r j)=so)||!gI r.po v (dq r j)&&decide ((gZ r j).fr=(dJ r r.po v so).fin p))):=by
 have e:(gI r.po v (dq r j)&&decide (jY r v (dq r j)=so))=(dJ r r.po v so).ca j:=rH dP.wJ dP.val v so j;unfold Wn.step;rw [Bool.and_assoc,e,show decide (j<(dJ r r.po v so).n)=true from decide_eq_true hj,Zaz]
 rfl
def IT (r:Ro) (v:Int) (so de:ByteArray) (k:Nat) (p:List Nat):List (List ByteArray):=((dJ r r.po v so).all (ll r de) k p).map fun q=>q.map (dq r)
theorem IS (r:Ro) (v:Int) (so de:ByteArray) (k:Nat) (p:List Nat):IT r v so de (k+1) p=(if (dJ r r.po v so).fin p=ll r de then [p.map (dq r)] else [])++(((List.range r.ti.length).filter ((dJ r r.po v so).step p)).flatMap fun j=>IT r v so de k (p++[j])):=by
 unfold IT;rw [Wn.all,Zy,List.map_flatMap];congr 1;split <;> rfl
def Sf (r:Ro) (v:Int) (so de:ByteArray) (k:Nat) (p:List Nat) (i:Nat):List (List ByteArray):=((List.range i).filter ((dJ r r.po v so).step p)).flatMap fun j=>IT r v so de k (p++[j])
theorem IQ (r:Ro) (v:Int) (so de:ByteArray) (k:Nat) (p:List Nat) (i:Nat):Sf r v so de k p (i+1)=Sf r v so de k p i++if (dJ r r.po v so).step p i=true then IT r v so de k (p++[i]) else []:=by
 unfold Sf;rw [ZbA,ZaL,List.flatMap_append];congr 1;by_cases h:(dJ r r.po v so).step p i=true
 ·rw [List.filter_cons,if_pos h,if_pos h];simp
 ·rw [List.filter_cons,if_neg h,if_neg h];rfl
theorem qu {P:Program} {dst:Option Tmp} {ty:TypeId} {pos:String} {af:Array Edge} {g:Option (Nat×Bool)} {t e:TypeId} {agg:Bool} {size:Nat} [hu:iI P t (.slice e)] [Ty P e agg size]:qR P c sl hs ⟨dst,.buildSlice t 0 #[],ty,pos,af,g⟩ (fun b=>.w b 0 0) (.cells #[] e):=
 kP (ps:=#[]) (fun a ha=>by simp) (fun w=>by
  unfold Instr.buildSlice;simp only [Sem.run_bind,aX hu.eq,Result.andThen_ok,gj (t:=e) (agg:=agg) (n:=size),Zbh];rw [if_neg (by omega)];simp only [if_true,Sem.run_bind,Sem.run_pure,Result.andThen_ok];simp [newRow,Instr.fill,show Array.range 0=#[] from I])
set_option maxHeartbeats 1000000 in
theorem CT (h:RR w r s d t p) (hf:gU r):a8 T_ 76 [RA r s d t p] w [] (fun _:Value×Value×Value×Value=>True) (fun x=>RA r x.1 x.2.1 x.2.2.1 x.2.2.2) (fun x=>oZ r x):=by
 obtain ⟨h1,h2,h3,h4⟩:=h.one;obtain ⟨f1,f2,f3,f4⟩:=hf;unfold RA;refine aS func76 I I ?_;refine Jr<|Jy I I fun _ _=>Jz I I fun _ _=>Ji ?_
 with_reducible refine bh qu I (fun bq mV=>?_)
 refine bP (g:=bq) (E:=118) (ys:=[]) 0 2 (by exact .here) I I I ?_
 (refine bD I I ae<|JL I bE I ?_)
 with_reducible apply eX
 case hx=>exact Is.of I
 case hy=>exact Is.of I
 case ht=>exact .here
 case hsrc=>exact fun w' aB=>Rd.keeps h.sr aB.keeps
 case h1=>exact FV r.sr
 case hz=>exact I
 case hsz=>exact I
 case hb0=>exact I
 case hb=>rw [cG];omega
 case hd=>rfl
 intro v';rw [cG,ZF,Za,show (vV r.sr).flatten=il r.sr from I];refine aK (v:=v') (by exact .here) fun a1 c1 e=>?_;subst e
 (refine bD I I ae<|ak (.of I) (.of I) bE I I (dE I) (br I) ai<|Ji ?_)
 with_reducible refine bh qu I (fun bq mV=>?_)
 refine bP (g:=bq) (E:=88) (ys:=[]) 0 3 (by exact .here) I I I ?_
 (refine bD I I ae<|JL I (.there .here) I ?_)
 with_reducible apply eX
 case hx=>exact Is.of I
 case hy=>exact Is.of I
 case ht=>exact .here
 case hsrc=>exact fun w' aB=>Rd.keeps h.de aB.keeps
 case h1=>exact GL r.de
 case hz=>exact I
 case hsz=>exact I
 case hb0=>exact I
 case hb=>rw [bY];omega
 case hd=>rfl
 intro v';rw [bY,ZF,Za,show (vG r.de).flatten=gm r.de from I];refine aK (v:=v') (by exact .here) fun a2 c2 e=>?_;subst e
 (refine bD I I ae<|ak (.of I) (.of I) (.there .here) I I (dE I) (br I) ai<|Ji ?_)
 with_reducible refine bh qu I (fun bq mV=>?_)
 refine bP (g:=bq) (E:=122) (ys:=[]) 0 3 (by exact .here) I I I ?_
 (refine bD I I ae<|JL I (.there .here) I ?_)
 with_reducible apply eX
 case hx=>exact Is.of I
 case hy=>exact Is.of I
 case ht=>exact .here
 case hsrc=>exact fun w' aB=>Rd.keeps h.ti aB.keeps
 case h1=>exact FQ r.ti
 case hz=>exact I
 case hsz=>exact I
 case hb0=>exact I
 case hb=>rw [bS];omega
 case hd=>rfl
 intro v';rw [bS,ZF,Za,show (u7 r.ti).flatten=iC r.ti from I];refine aK (v:=v') (by exact .here) fun a3 c3 e=>?_;subst e
 (refine bD I I ae<|ak (.of I) (.of I) (.there .here) I I (dE I) (br I) ai<|Ji ?_)
 with_reducible refine bh qu I (fun bq mV=>?_)
 refine bP (g:=bq) (E:=180) (ys:=[]) 0 3 (by exact .here) I I I ?_
 (refine bD I I ae<|JL I (.there .here) I ?_)
 with_reducible apply eX
 case hx=>exact Is.of I
 case hy=>exact Is.of I
 case ht=>exact .here
 case hsrc=>exact fun w' aB=>Rd.keeps h.po aB.keeps
 case h1=>exact AR r.po
 case hz=>exact I
 case hsz=>exact I
 case hb0=>exact I
 case hb=>rw [cT];omega
 case hd=>rfl
 intro v';rw [cT,ZF,Za,show (uf r.po).flatten=eF r.po from I];refine aK (v:=v') (by exact .here) fun a4 c4 e=>?_;subst e
 (refine bD I I ae<|ak (.of I) (.of I) (.there .here) I I (dE I) (br I) ai<|Ji<|ab (bU .here) I<|ak (.of I) (.of I) ek I I (dO I I I I I I) (br I) ai<|Jn<|Je ?_)
 with_reducible first|apply aO|apply aP
 case he=>exact ig I inferInstance I .here ai (by rfl)
 case hR=>
  intro w' aB;exact aC (.slice a1 r.sr.length c1,.slice a2 r.de.length c2,.slice a3 r.ti.length c3,.slice a4 r.po.length c4) trivial (by exact .cons ek (.cons c7 (.cons cI (.cons bE .nil)))) aB I
def G1 (r:Ro) (v:Int) (o:ByteArray) (l:List Po):List Po:=l.filter fun p=>!rM v o p
theorem I9 {o:ByteArray} (h:k<l.length):G1 r v o (l.take (k+1))=G1 r v o (l.take k)++if rM v o l[k]=true then [] else [l[k]]:=by
 unfold G1;rw [Zm h,ZaL];congr 1;by_cases e:rM v o l[k]=true
 ·rw [if_pos e];simp [e]
 ·rw [if_neg e];simp [e]
set_option maxHeartbeats 1000000 in
theorem FD (v:Int) (o:ByteArray) (h:RR w r s d t p) (hf:gU r):a8 T_ 168 [RA r s d t p,.q v,.string o] w [] (fun _:Value×Value×Value×Value=>True) (fun x=>RA r x.1 x.2.1 x.2.2.1 x.2.2.2) (fun x=>oZ (r.wp (G1 r v o r.po)) x):=by
 obtain ⟨h1,h2,h3,h4⟩:=h.one;have EP:=h.po;obtain ⟨a4,eW,NB,Ix,rfl,q7,jF,zD,tI⟩:=EP;rw [cT] at *;unfold maxLen at jF;have hf4:=hf.2.2.2;unfold RA;refine aS func168 I I ?_;refine Jr<|Jy I I fun _ _=>Jz I I fun _ _=>Ji<|ab (bU (.there .here)) I ?_;rename_i b3 rz b6 Vk;refine JN bJ I (fun w1 aT=>CT (h.keeps aT.keeps) hf) ?_;rintro ⟨s1,d1,t1,p1⟩ _;dsimp only;unfold RA;refine gO (r:=r) (s:=s1) (d:=d1) (t:=t1) (p:=p1) (bo _ _) fun k1 k2 k3 k4=>?_
 (refine Jz I I fun _ _=>ak (.of I) (.of I) .here I I (dO I I k1 k2 k3 k4) (br I) ai<|Ji<|bD I I ae<|ak (.of I) (.of I) .here I I (dE I) (br I) ai<|Jn<|Jq<|Jr<|Ja I<|Jn<|J0 ?_)
 rename_i b7 Ud;refine aJ 180 3 ?_;refine aV (ι:=Nat×Option Addr×Nat×List Po) (fun y=>y.1<=r.po.length/\y.2.2.2=G1 r v o (r.po.take y.1)) (fun y=>[(8,.q (y.1:Nat)),(7,.p b7),(1,.q v),(2,.string o),(3,.p b3),(6,.p b6)]) (fun y=>[row 180 3 (.slice y.2.1 (y.2.2.2).length y.2.2.1) (y.2.2.2).length (eF (y.2.2.2)),JQ b7 r s1 d1 t1 (.slice y.2.1 (y.2.2.2).length y.2.2.1),row 118 2 s1 r.sr.length (il r.sr),row 88 3 d1 r.de.length (gm r.de),row 122 3 t1 r.ti.length (iC r.ti),JQ b3 r s d t (.slice a4 r.po.length eW),bu b6 (.cells #[.q 0,.q 0,.z,.z,.z,.z] 27 (0,0))]) (fun y=>r.po.length-y.1) ?_ ?_
 ·apply aH (0,none,0,[]) ⟨Zi _,I⟩
  case hs1=>exact bT
  case ht=>
   exact .h5 (.cons bE (.cons (.there .here) .nil))
 rintro ⟨k,g1,oX,L⟩ ⟨hk,hL⟩;dsimp only at hk hL ⊢;by_cases aL:k<r.po.length
 ·have IE:L.length<=1000000:=by rw [hL];unfold G1;have:=ZW (fun p=>!rM v o p) (r.po.take k);rw [Zs] at this;omega
  have hlen:(eF L).length=L.length*3:=gA L;have cY:=zD (j8 aL);have aF:=(tI k _ (ia aL)).2;have gS:=I9 (r:=r) (v:=v) (o:=o) aL;rw [<- hL] at gS;unfold Po.cells at aF;generalize r.po[k]=x at aF gS;have cL:=aF 0 _ I;have cO:=aF 1 _ I
  (refine Jq<|Jr<|Jv I<|bD I I ae<|JL I ek I<|JI I<|JA I<|Jn<|Jd I fun aA=>Jk<|Jq<|J0<|Jr<|bD I I ae<|JL I ek I<|Jv I<|ab (gE cY aA) I<|bD I I ae<|ab (ag (.of I) (At.base cL I)) I<|Jv I<|JD I<|Jv I<|aM I I (fun hg bH=>(ar (.of I) ae)) I<|aM I I (fun hg bH=>(ag (.bW hg I) (At.lit ek I))) I<|jZ I I I I<|aM I I (fun hg bH=>(ao (.bW hg I) (.bW hg I) cY (by omega) aA aW)) I<|aM I I (fun hg bH=>(ar (.bW hg I) ae)) I<|aM I I (fun hg bH=>(ag (.bW hg I) (At.base cO I))) I<|jZ I I I I<|aM I I (fun hg bH=>(gz (.bW hg I) (.bW hg I))) I<|ab (bV (.of I) I) I<|Jn<|oK I (fun aA=>?_) fun aA=>?_;rotate_left;refine Jw<|Jj<|Jt<|Jg<|Jv I<|JB I (by omega)<|Ja I<|Jn ?_;rotate_right)
  ·have e:rM v o x=false:=by
    unfold rM;rcases aA with q | q
    ·rw [decide_eq_false q];rfl
    ·rw [decide_eq_false q];simp
   rw [e,if_neg (by decide)] at gS
   with_reducible refine dL 8 (by kernel_rfl) ?_
   (refine au (fun β=>(ar (.of I) ae)) ba I<|au (fun β=>(ag (.of I) (At.lit (.there .here) I))) ba I<|au (fun β=>(ar (.of I) ae)) ba I<|au (fun β=>(ag (.of I) (At.lit ek I))) ba I<|au (fun β=>(aQ (.of I))) ba I<|au (fun β=>(ao (.of I) (.of I) cY (by omega) (by assumption) aW)) ba I<|au (fun β=>(jC (.of I) (fo.base aF I) I)) ba I ?_)
   refine iG (fun β=>(bz (.o I .nil) I I bI bI ai)) (fun _ _ _=>rfl) I ?_;dsimp only [Nat.zero_add,Nat.reduceAdd];refine eN fun β=>?_;dsimp only [dW,Za,Zb,List.append_eq,Nat.reduceAdd];generalize eu (β 7)=bq;clear β;refine bF (rs:=[8]) (by kernel_rfl) (by simp) (Zp.2 ⟨?_,fun _ h=>absurd h Zo⟩);refine bK I ?_;refine bA (.of I) (.of I) (.there .here) .here ai (by rfl) (fc I I I) (by rfl) (by rfl) (by rfl) eC (by rfl) ?_;intro z;refine Jn ?_;refine bF (rs:=[9]) (by kernel_rfl) (by simp) (Zp.2 ⟨?_,fun _ h=>absurd h Zo⟩);refine bK I ?_
   (refine bD I I ae<|Jn ?_)
   refine aK (v:=z) (by exact .here) fun gx cx e0=>?_;subst e0;refine bF (rs:=[10]) (by kernel_rfl) (by simp) (Zp.2 ⟨?_,fun _ h=>absurd h Zo⟩);refine bK I ?_
   (refine ak (.of I) (.of I) bE I I (dE I) (br I) ai<|Jn ?_)
   with_reducible refine cn (by kernel_rfl) ?_
   refine Jj<|Jt<|Jg<|Jv I<|JB I (by omega)<|Ja I<|Jn ?_;apply aG (k+1,gx,cx,L++[x]) ⟨(show k+1<=r.po.length from aL),gS.symm⟩ (show r.po.length-(k+1)<r.po.length-k by omega)
   case hs1=>exact bT
   case ht=>
    have bb:eF (L++[x])=eF L++[.q x.lv,.string x.ou,.string x.ip]:=by rw [AQ];rfl
    show bj _ [row 180 3 (.slice gx (L++[x]).length cx) (L++[x]).length (eF (L++[x])),bu b7 (.cells #[.q r.lv,.q r.ma,s1,d1,t1,.slice gx (L++[x]).length cx] 27 (0,0)),row 118 2 s1 r.sr.length (il r.sr),row 88 3 d1 r.de.length (gm r.de),row 122 3 t1 r.ti.length (iC r.ti),JQ b3 r s d t (.slice a4 r.po.length eW),bu b6 (.cells #[.q 0,.q 0,.z,.z,.z,.z] 27 (0,0))] _;rw [bb,Zg,Z7];exact .cons (.there .here) (.h1 (.cons (.there .here) (.cons (.there .here) (.cons (.there .here) (.cons (.there .here) (.cons (.there .here) .nil))))))
  ·have e:rM v o x=true:=by
    unfold rM;have q:=aA;simp at q;rw [decide_eq_true q.1,decide_eq_true q.2];rfl
   rw [e,if_pos I,ZK] at gS;apply aG (k+1,g1,oX,L) ⟨(show k+1<=r.po.length from aL),gS.symm⟩ (show r.po.length-(k+1)<r.po.length-k by omega)
   case hs1=>exact bT
   case ht=>exact jv
 ·obtain rfl:k=r.po.length:=by omega
  rw [ZL] at hL;subst hL
  (refine Jq<|Jr<|Jv I<|bD I I ae<|JL I ek I<|JI I<|JA I<|Jn<|Jc I fun aA=>Jp<|Jl<|Jo<|Jt<|Jr<|ab (bU (.there .here)) I<|ak (.of I) (.of I) nR I I (dO I I k1 k2 k3 I) (br I) ai<|Jn<|Je ?_)
  with_reducible first|apply aO|apply aP
  case he=>exact ig I inferInstance I .here ai (by rfl)
  case hR=>
   intro w' aB;exact aC (s1,d1,t1,.slice g1 (G1 r v o r.po).length oX) trivial (by exact .cons cI (.cons cI (.cons cI (.cons (.there .here) .nil)))) aB I
theorem Pg {x b:Po} (h:ns r x b=true):eJ r x (b::l)=x::b::l:=if_pos h
theorem Tq {x b:Po} (h:ns r x b=false):eJ r x (b::l)=b::eJ r x l:=if_neg (by rw [h];decide)
theorem BA (h:k<l.length):l.drop k=l[k]::l.drop (k+1):=Zt h
theorem nG {α:Type} (L:List α) (x:α):L.length+1=(L++[x]).length:=by simp
theorem sg (L:List Po) (x:Po):eF (L++[x])=eF L++[.q x.lv,.string x.ou,.string x.ip]:=by rw [AQ];rfl
def sW (r:Ro) (x:Po) (k:Nat) (pl:Bool) (L:List Po):Prop:=(pl=true/\eJ r x r.po=L++r.po.drop k/\L.length=k+1)\/(pl=false/\eJ r x r.po=L++eJ r x (r.po.drop k)/\L.length=k)
theorem sW.pl {r:Ro} {x:Po} {k:Nat} {pl:Bool} {L:List Po} (h:sW r x k pl L) (hk:k<r.po.length) (hp:pl=true\/ns r x r.po[k]=false):sW r x (k+1) pl (L++[r.po[k]]):=by
 rcases h with ⟨e,h1,h2⟩ | ⟨e,h1,h2⟩
 ·exact .inl ⟨e,by rw [h1,BA hk];simp,by simp [h2]⟩
 ·refine .inr ⟨e,?_,by simp [h2]⟩;rcases hp with q | q
  ·rw [e] at q;cases q
  ·rw [h1,BA hk,Tq q];simp
theorem sW.put (h:sW r x k false L) (hk:k<r.po.length) (hp:ns r x r.po[k]=true):sW r x (k+1) true (L++[x]++[r.po[k]]):=by
 rcases h with ⟨e,h1,h2⟩ | ⟨e,h1,h2⟩
 ·cases e
 ·exact .inl ⟨I,by rw [h1,BA hk,Pg hp];simp,by simp [h2]⟩
theorem sW.acn (h:sW r x r.po.length true L):L=eJ r x r.po:=by
 rcases h with ⟨e,h1,h2⟩ | ⟨e,h1,h2⟩
 ·rw [h1,ZY,ZK]
 ·cases e
theorem sW.aco (h:sW r x r.po.length false L):L++[x]=eJ r x r.po:=by
 rcases h with ⟨e,h1,h2⟩ | ⟨e,h1,h2⟩
 ·cases e
 ·rw [h1,ZY];rfl
theorem sW.B2 {pl:Bool} (h:sW r x k pl L):L.length<=k+1:=by
 rcases h with ⟨_,_,h2⟩ | ⟨_,_,h2⟩ <;> omega
set_option maxHeartbeats 1000000 in
theorem VK (h:RR w r s d t p) (hf:gU r):a8 T_ 170 [RA r s d t p,.agg #[.q x.lv,.string x.ou,.string x.ip]] w [] (fun _:Value×Value×Value×Value=>True) (fun y=>RA r y.1 y.2.1 y.2.2.1 y.2.2.2) (fun y=>oZ (r.wp (eJ r x r.po)) y):=by
 obtain ⟨h1,h2,h3,h4⟩:=h.one;have EP:=h.po;have WM:∀ (o:ByteArray) {w'},aI [] w w'->an T_ 230 [.agg #[.int .i64 r.lv,.int .i64 r.ma,s,d,t,p],.string o] w' (.int .i64 (eE r o)):=fun o _ hk=>F5 o (h.keeps hk) hf
 obtain ⟨a4,eW,NB,Ix,rfl,q7,jF,zD,tI⟩:=EP;have hoa:=fun (o:ByteArray) {w'}=>WM o (w':=w')
 clear WM;rw [cT] at *;unfold maxLen at jF;have hf4:=hf.2.2.2;unfold RA;refine aS func170 I I ?_;refine Jr<|Jy I I fun _ _=>Jy I I fun _ _=>Jz I I fun _ _=>Ji<|ab (bU bE) I ?_;rename_i b2 sJ b3 rz b4 sH;refine JN bJ I (fun w1 aT=>CT (h.keeps aT.keeps) hf) ?_;rintro ⟨s1,d1,t1,p1⟩ _;dsimp only;unfold RA;refine gO (r:=r) (s:=s1) (d:=d1) (t:=t1) (p:=p1) (bo _ _) fun k1 k2 k3 k4=>?_
 (refine Jz I I fun _ _=>ak (.of I) (.of I) .here I I (dO I I k1 k2 k3 k4) (br I) ai<|Ji<|bD I I ae<|ak (.of I) (.of I) .here I I (dE I) (br I) ai<|Ji<|Ja I<|Jn<|Jq<|Jr<|Ja I<|Jn<|J0 ?_)
 rename_i b5 HS;refine aJ 180 3 ?_;refine aV (ι:=Nat×Bool×Option Addr×Nat×List Po) (fun y=>y.1<=r.po.length/\sW r x y.1 y.2.1 y.2.2.2.2) (fun y=>[(7,.q (y.1:Nat)),(6,.bool y.2.1),(5,.p b5),(2,.p b2),(3,.p b3),(4,.p b4)]) (fun y=>[row 180 3 (.slice y.2.2.1 (y.2.2.2.2).length y.2.2.2.1) (y.2.2.2.2).length (eF (y.2.2.2.2)),JQ b5 r s1 d1 t1 (.slice y.2.2.1 (y.2.2.2.2).length y.2.2.2.1),row 118 2 s1 r.sr.length (il r.sr),row 88 3 d1 r.de.length (gm r.de),row 122 3 t1 r.ti.length (iC r.ti),JQ b2 r s d t (.slice a4 r.po.length eW),bu b3 (.cells #[.q x.lv,.string x.ou,.string x.ip] 180 (0,0)),bu b4 (.cells #[.q 0,.q 0,.z,.z,.z,.z] 27 (0,0))]) (fun y=>r.po.length-y.1) ?_ ?_
 ·apply aH (0,false,none,0,[]) ⟨Zi _,.inr ⟨I,I,I⟩⟩
  case hs1=>exact bT
  case ht=>
   exact .h5 (.cons cI (.cons bE (.cons (.there .here) .nil)))
 rintro ⟨k,pl,g1,oX,L⟩ ⟨hk,hL⟩;dsimp only at hk hL ⊢;have hLf:=hL.B2;by_cases aL:k<r.po.length
 ·have hlen:(eF L).length=L.length*3:=gA L;have cY:=zD (j8 aL);have aF:=(tI k _ (ia aL)).2;have rq:=fun q=>hL.pl aL q
  have hye:=fun (q1:pl=false) q2=>sW.put (r:=r) (x:=x) (k:=k) (L:=L) (by rw [<- q1];exact hL) aL q2
  unfold Po.cells at aF;generalize r.po[k]=z at aF rq hye
  (refine Jq<|Jr<|Jv I<|bD I I ae<|JL I ek I<|JI I<|JA I<|Jn<|Jd I fun aA=>Jk<|Jq<|J0<|Jr<|bD I I ae<|JL I ek I<|Jv I<|ab (gE cY aA) I<|ab (ja (fo.base aF I)) I<|Jz I I fun _ _=>ak (.of I) (.of I) .here I I (fc I I I) (br I) ai<|Jn<|Jq<|Jq ?_)
  rename_i b8 YV
  with_reducible refine cz 27 (by kernel_rfl) ?_
  (refine fw I I<|aq (fu (.of I)) I<|fw I I<|bM I I (fun hg bH=>(ar (.of I) ae)) I<|bM I I (fun hg bH=>(ag (.bW hg I) (At.lit tV I))) I<|bM I I (fun hg bH=>(ar (.of I) ae)) I<|bM I I (fun hg bH=>(ag (.bW hg I) (At.lit .here I))) I<|bM I I (fun hg bH=>(l7 (.bW hg I) (.bW hg I))) I<|bM I I (fun hg bH=>(aQ (.bW hg I))) I<|gJ I I (fun hg bH=>(ar (.of I) ae)) I<|gJ I I (fun hg bH=>(ag (.bW hg I) (At.lit tV I))) I<|gJ I I (fun hg bH=>(ar (.of I) ae)) I<|gJ I I (fun hg bH=>(ag (.bW hg I) (At.lit .here I))) I<|gJ I I (fun hg bH=>(oh (.bW hg I) (.bW hg I))) I<|gJ I I (fun hg bH=>(aQ (.bW hg I))) I<|gJ I I (fun hg bH=>(bQ (.of I) nR ai (by rfl))) I<|gJ I I (fun hg bH=>(ar (.of I) ae)) I<|gJ I I (fun hg bH=>(ag (.bW hg I) (At.lit tV I))) I<|nP I I (fun hg=>(a7 (.of I) (.cons (.bW hg I) (.cons (.bW hg I) .nil)) inferInstance gF)) I (fun hg w' aB=>(hoa _ (Mem.keeps aB)))<|gJ I I (fun hg bH=>(bQ (.of I) nR ai (by rfl))) I<|gJ I I (fun hg bH=>(ar (.of I) ae)) I<|gJ I I (fun hg bH=>(ag (.bW hg I) (At.lit .here I))) I<|nP I I (fun hg=>(a7 (.of I) (.cons (.bW hg I) (.cons (.bW hg I) .nil)) inferInstance gF)) I (fun hg w' aB=>(hoa _ (Mem.keeps aB)))<|gJ I I (fun hg bH=>(l7 (.bW hg I) (.bW hg I))) I<|gJ I I (fun hg bH=>(jg hg (.bW hg I) I)) I<|bM I I (fun hg bH=>(kX hg (.bW hg I) I)) I<|aq (cM (.of I) I) I ?_)
  with_reducible refine cC ?_
  (refine Jn<|oK I (fun aA=>?_) fun aA=>?_;refine Jr<|bD I I ae<|JL I bE I<|ab (bU tV) I<|bh (bz (.o I .nil) I I bI bI ai) I fun _ _=>?_;rotate_left;refine Jk<|Jg<|bD I I ae<|JL I bE I<|ab (bU .here) I<|bh (bz (.o I .nil) I I bI bI ai) I fun _ _=>?_;rotate_right)
  ·have hp:ns r x z=true:=by
    unfold ns;rcases aA.2 with q | ⟨q1,q2⟩
    ·rw [decide_eq_true q];rfl
    ·rw [decide_eq_true q1,decide_eq_true q2];simp
   have gS:=hye aA.1 hp;have ET:(L++[x]).length=L.length+1:=(nG L x).symm;have adi:(eF (L++[x])).length=(L++[x]).length*3:=gA _;refine bA (.of I) (.of I) bE .here ai (by rfl) (fc I I I) (by rfl) (by rfl) (by rfl) eC (by rfl) ?_;intro q;refine aK (v:=q) (by exact .here) fun gx cx e0=>?_;subst e0;rw [<- sg,nG (L) x]
   (refine bD I I ae<|ak (.of I) (.of I) cI I I (dE I) (br I) ai<|Jn<|Jg<|Ja I<|Jn<|Jg<|bD I I ae<|JL I .here I<|ab (bU cI) I<|bh (bz (.o I .nil) I I bI bI ai) I fun _ _=>?_)
   refine bA (.of I) (.of I) bE .here ai (by rfl) (fc I I I) (by rfl) (by rfl) (by rfl) eC (by rfl) ?_;intro q;refine aK (v:=q) (by exact .here) fun gx cx e0=>?_;subst e0;rw [<- sg,nG (L++[x]) z]
   (refine bD I I ae<|ak (.of I) (.of I) bE I I (dE I) (br I) ai<|Jx<|Jj<|Jt<|Jg<|Jv I<|JB I (by omega)<|Ja I<|Jn ?_)
   apply aG (k+1,true,gx,cx,L++[x]++[z]) ⟨(show k+1<=r.po.length from aL),gS⟩ (show r.po.length-(k+1)<r.po.length-k by omega)
   case hs1=>exact bT
   case ht=>exact jv
  ·have hq:pl=true\/ns r x z=false:=by
    cases pl with
    | true=>exact .inl rfl
    | false =>
     refine .inr ?_;unfold ns;obtain ⟨q1,q2⟩:=aA.resolve_left (by decide);rw [decide_eq_false q1];rcases q2 with q2 | q2
     ·rw [decide_eq_false q2];rfl
     ·rw [decide_eq_false q2];simp
   have gS:=rq hq;refine bA (.of I) (.of I) bE .here ai (by rfl) (fc I I I) (by rfl) (by rfl) (by rfl) eC (by rfl) ?_;intro q;refine aK (v:=q) (by exact .here) fun gx cx e0=>?_;subst e0;rw [<- sg,nG (L) z]
   (refine bD I I ae<|ak (.of I) (.of I) cI I I (dE I) (br I) ai<|Jx<|Jj<|Jt<|Jg<|Jv I<|JB I (by omega)<|Ja I<|Jn ?_)
   apply aG (k+1,pl,gx,cx,L++[z]) ⟨(show k+1<=r.po.length from aL),gS⟩ (show r.po.length-(k+1)<r.po.length-k by omega)
   case hs1=>exact bT
   case ht=>exact jv
 ·obtain rfl:k=r.po.length:=by omega
  have hlen:(eF L).length=L.length*3:=gA L;cases pl with
  | true =>
   have e:=hL.acn;subst e
   (refine Jq<|Jr<|Jv I<|bD I I ae<|JL I ek I<|JI I<|JA I<|Jn<|Jc I fun aA=>Jp<|Jl<|Jo<|Jt<|Jq<|Jr<|Jv I<|JH I<|Jn<|cd (.of I)<|Jk<|Jr<|ab (bU (.there .here)) I<|ak (.of I) (.of I) tV I I (dO I I k1 k2 k3 I) (br I) ai<|Jn<|Je ?_)
   with_reducible first|apply aO|apply aP
   case he=>exact ig I inferInstance I .here ai (by rfl)
   case hR=>
    intro w' aB;exact aC (s1,d1,t1,.slice g1 (eJ r x r.po).length oX) trivial (by exact .cons cI (.cons cI (.cons cI (.cons (.there .here) .nil)))) aB I
  | false =>
   have e:=hL.aco
   (refine Jq<|Jr<|Jv I<|bD I I ae<|JL I ek I<|JI I<|JA I<|Jn<|Jc I fun aA=>Jp<|Jl<|Jo<|Jt<|Jq<|Jr<|Jv I<|JH I<|Jn<|c5 (.of I)<|Jg<|bD I I ae<|JL I (.there .here) I<|ab (bU nR) I<|bh (bz (.o I .nil) I I bI bI ai) I fun _ _=>?_)
   refine bA (.of I) (.of I) (.there .here) .here ai (by rfl) (fc I I I) (by rfl) (by rfl) (by rfl) eC (by rfl) ?_;intro q;refine aK (v:=q) (by exact .here) fun gx cx e0=>?_;subst e0;rw [<- sg,nG (L) x]
   (refine bD I I ae<|ak (.of I) (.of I) bE I I (dE I) (br I) ai<|Ji<|ab (bU .here) I<|ak (.of I) (.of I) DR I I (dO I I k1 k2 k3 I) (br I) ai<|Jn<|Je ?_)
   rw [e]
   with_reducible first|apply aO|apply aP
   case he=>exact ig I inferInstance I .here ai (by rfl)
   case hR=>
    intro w' aB;exact aC (s1,d1,t1,.slice gx (eJ r x r.po).length cx) trivial (by exact .cons c7 (.cons c7 (.cons c7 (.cons bE .nil)))) aB I
theorem At.tie {E:TypeId} {g n cap i j o:Nat} {l:List Ti} {u:Value} (ht:Take hs (row E 3 (.w g n cap) n (iC l)) hs') (hi:i<l.length) (hn:l.length=n) (hj:(Ti.cells l[i])[j]? = some u) (ho:o=i*3+j):At c hs g o u:=fun w hm=>by
 have h:=cE hm ht hn;obtain ⟨a,iv,b,o',e,_,_,ha,hc⟩:=h;injection e with e1 e2 e3
 have:=ha (fq hi);rw [this] at e1;injection e1 with e1
 injection e1 with e4 e5
 subst ho;have:=(hc i _ (ep hi)).2 j u hj;rw [<- e4,<- e5] at this;simpa using this
theorem NZ {D:List Nat} {X:Act->World->Prop} {E:TypeId} {sz n:Nat} {v:Value} {xs:List Value} (ht:Take hs (row E sz v n xs) hs') (h0:0<n) (k:∀ g cap,v=.w g n cap->Tr c D sl hs X):Tr c D sl hs X:=fun a w bb=>by
 obtain ⟨_,fp,_,⟨f1,f2,_,h1,_⟩,_⟩:=bb.pE.take ht;obtain ⟨_,_,⟨rfl,rfl⟩ | ⟨g,cap,cur,rfl,_⟩⟩:=h1
 ·exact absurd h0 (Nat.lt_irrefl _)
 ·exact k _ _ I a w bb
theorem B6 (r:Ro) (v:Int) (i:Nat) (po:List Po):xR r v (i+1) po=if nr (xR r v i po) v (dq r i) then xR r v i po else G1 r v (dq r i) (xR r v i po):=rfl
theorem I1 (r:Ro) (k:Nat) (po:List Po):B5 r (k+1) po=xR r (k:Nat) r.ti.length (B5 r k po):=rfl
theorem JR (r:Ro) (n:Nat) (po:List Po):ye r (n+1) po=B5 r r.lv.toNat (ye r n po):=rfl
theorem uX (r:Ro) (v:Int) (po:List Po):∀ i,(xR r v i po).length<=po.length
 | 0=>Zv _
 | i + 1 => by
  rw [B6];split
  ·exact uX r v po i
  ·exact ZP (ZW _ _) (uX r v po i)
theorem Ac (r:Ro) (po:List Po):∀ k,(B5 r k po).length<=po.length
 | 0=>Zv _
 | k+1=>ZP (uX _ _ _ _) (Ac r po k)
theorem FF (r:Ro) (po:List Po):∀ n,(ye r n po).length<=po.length
 | 0=>Zv _
 | n+1=>ZP (Ac _ _ _) (FF r po n)
set_option maxHeartbeats 1000000 in
theorem Ss {fp:List Nat} (iB:fp.Nodup) (hs:cy (hp w) (oZ r (s,d,t,p)) fp) (hf:gU r) (tb:0<=r.lv/\r.lv<=1000000):a8 T_ 169 [RA r s d t p] w fp (fun _:Value×Value×Value×Value=>True) (fun x=>RA r x.1 x.2.1 x.2.2.1 x.2.2.2) (fun x=>oZ (r.wp (ye r 6 r.po)) x):=by
 unfold RA;obtain ⟨f1,f2,f3,f4⟩:=hf;refine dT func169 I I iB hs ?_;refine gO (r:=r) (s:=s) (d:=d) (t:=t) (p:=p) (hs':=[]) (by have:=bo (oZ r (s,d,t,p)) [];rwa [ZK] at this) fun k1 k2 k3 k4=>?_;refine aK (E:=118) (sz:=2) (v:=s) (by exact .here) fun sa0 sc0 e=>?_;subst e;refine aK (E:=88) (sz:=3) (v:=d) (by exact Take.there .here) fun da0 dc0 e=>?_;subst e;refine aK (E:=122) (sz:=3) (v:=t) bE fun ta0 tc0 e=>?_;subst e;refine aK (E:=180) (sz:=3) (v:=p) cI fun pa0 pc0 e=>?_;subst e;clear k1 k2 k3 k4;refine Jr<|Jy I I fun _ _=>Jz I I fun _ _=>Jn<|Jq<|Jr<|Ja I<|Jn<|J0 ?_;rename_i b1 tJ b2 sJ;refine aV (ι:=Nat×List Po×(Option Addr×Nat)×(Option Addr×Nat)×(Option Addr×Nat)×(Option Addr×Nat)) (fun y=>y.2.1=ye r y.1 r.po/\y.1<=6) (fun y=>[(3,.int .i64 (y.1:Nat)),(1,.pointer (some ⟨b1,0,none⟩)),(2,.pointer (some ⟨b2,0,none⟩))]) (fun y=>[row 118 2 (.slice y.2.2.1.1 r.sr.length y.2.2.1.2) r.sr.length (il r.sr),row 88 3 (.slice y.2.2.2.1.1 r.de.length y.2.2.2.1.2) r.de.length (gm r.de),row 122 3 (.slice y.2.2.2.2.1.1 r.ti.length y.2.2.2.2.1.2) r.ti.length (iC r.ti),row 180 3 (.slice y.2.2.2.2.2.1 (y.2.1).length y.2.2.2.2.2.2) (y.2.1).length (eF (y.2.1)),JQ b1 r (.slice y.2.2.1.1 r.sr.length y.2.2.1.2) (.slice y.2.2.2.1.1 r.de.length y.2.2.2.1.2) (.slice y.2.2.2.2.1.1 r.ti.length y.2.2.2.2.1.2) (.slice y.2.2.2.2.2.1 (y.2.1).length y.2.2.2.2.2.2),bu b2 (.cells #[.int .i64 0,.int .i64 0,.slice none 0 0,.slice none 0 0,.slice none 0 0,.slice none 0 0] 27 (0,0))]) (fun y=>6-y.1) ?_ ?_
 ·with_reducible apply aH (0,r.po,(sa0,sc0),(da0,dc0),(ta0,tc0),(pa0,pc0)) ⟨I,Zi _⟩
  case hs1=>exact bT
  case ht=>exact .cons bE (.cons bE (.cons bE (.cons bE (.cons (.there .here) (.h1 .nil)))))
 rintro ⟨n,q1,⟨Yo,Yn⟩,⟨Y3,Y2⟩,⟨Ym,Yl⟩,⟨Yr,Yq⟩⟩ ⟨o8,hn⟩;dsimp only at o8 hn ⊢;by_cases YG:n<6
 ·refine Jq<|Jr<|Jv I<|JA I<|Jn<|Jd I fun aA=>Jk<|Jq<|J0<|Jr<|Ja I<|Jn<|J0 ?_;refine aV (ι:=Nat×List Po×(Option Addr×Nat)×(Option Addr×Nat)×(Option Addr×Nat)×(Option Addr×Nat)) (fun y=>y.2.1=B5 r y.1 q1/\y.1<=r.lv.toNat) (fun y=>[(4,.q (y.1:Nat)),(3,.q (n:Nat)),(1,.p b1),(2,.p b2)]) (fun y=>[row 118 2 (.slice y.2.2.1.1 r.sr.length y.2.2.1.2) r.sr.length (il r.sr),row 88 3 (.slice y.2.2.2.1.1 r.de.length y.2.2.2.1.2) r.de.length (gm r.de),row 122 3 (.slice y.2.2.2.2.1.1 r.ti.length y.2.2.2.2.1.2) r.ti.length (iC r.ti),row 180 3 (.slice y.2.2.2.2.2.1 (y.2.1).length y.2.2.2.2.2.2) (y.2.1).length (eF (y.2.1)),JQ b1 r (.slice y.2.2.1.1 r.sr.length y.2.2.1.2) (.slice y.2.2.2.1.1 r.de.length y.2.2.2.1.2) (.slice y.2.2.2.2.1.1 r.ti.length y.2.2.2.2.1.2) (.slice y.2.2.2.2.2.1 (y.2.1).length y.2.2.2.2.2.2),bu b2 (.cells #[.q 0,.q 0,.z,.z,.z,.z] 27 (0,0))]) (fun y=>r.lv.toNat-y.1) ?_ ?_
  ·with_reducible apply aH (0,q1,(Yo,Yn),(Y3,Y2),(Ym,Yl),(Yr,Yq)) ⟨I,Zi _⟩
   case hs1=>exact bT
   case ht=>exact jv
  rintro ⟨v,q2,⟨Ox,Oo⟩,⟨Qk,Qj⟩,⟨N9,N5⟩,⟨OT,OR⟩⟩ ⟨my,hv⟩;dsimp only at my hv ⊢;by_cases nI:v<r.lv.toNat
  ·(refine Jq<|Jr<|Jv I<|bD I I ae<|JL I c7 I<|JA I<|Jn<|Jd I fun aA=>Jk<|Jq<|J0<|Jr<|Ja I<|Jn<|J0 ?_)
   refine aV (ι:=Nat×List Po×(Option Addr×Nat)×(Option Addr×Nat)×(Option Addr×Nat)×(Option Addr×Nat)) (fun y=>y.2.1=xR r (v:Nat) y.1 q2/\y.1<=r.ti.length) (fun y=>[(5,.q (y.1:Nat)),(4,.q (v:Nat)),(3,.q (n:Nat)),(1,.p b1),(2,.p b2)]) (fun y=>[row 118 2 (.slice y.2.2.1.1 r.sr.length y.2.2.1.2) r.sr.length (il r.sr),row 88 3 (.slice y.2.2.2.1.1 r.de.length y.2.2.2.1.2) r.de.length (gm r.de),row 122 3 (.slice y.2.2.2.2.1.1 r.ti.length y.2.2.2.2.1.2) r.ti.length (iC r.ti),row 180 3 (.slice y.2.2.2.2.2.1 (y.2.1).length y.2.2.2.2.2.2) (y.2.1).length (eF (y.2.1)),JQ b1 r (.slice y.2.2.1.1 r.sr.length y.2.2.1.2) (.slice y.2.2.2.1.1 r.de.length y.2.2.2.1.2) (.slice y.2.2.2.2.1.1 r.ti.length y.2.2.2.2.1.2) (.slice y.2.2.2.2.2.1 (y.2.1).length y.2.2.2.2.2.2),bu b2 (.cells #[.q 0,.q 0,.z,.z,.z,.z] 27 (0,0))]) (fun y=>r.ti.length-y.1) ?_ ?_
   ·with_reducible apply aH (0,q2,(Ox,Oo),(Qk,Qj),(N9,N5),(OT,OR)) ⟨I,Zi _⟩
    case hs1=>exact bT
    case ht=>exact jv
   rintro ⟨i,q,⟨sa,sc⟩,⟨da,dc⟩,⟨ta,tc⟩,⟨pa,pc⟩⟩ ⟨hq,hi⟩;dsimp only at hq hi ⊢;by_cases aL:i<r.ti.length
   ·have zx:(r.ti[i]).nm=dq r i:=by unfold dq;rw [mZ aL]
    have gS:=B6 r (v:Nat) i q2;rw [<- hq] at gS;have Rk:q.length<=r.po.length:=by rw [hq,my,o8];exact ZP (uX _ _ _ _) (ZP (Ac _ _ _) (FF _ _ _))
    refine NZ (E:=122) (sz:=3) (v:=.slice ta r.ti.length tc) bE (by omega) fun tg tc' e=>?_;cases e;have hcT:(Ti.cells r.ti[i])[0]? = some (.string (dq r i)):=by rw [<- zx];rfl
    have Wl:∀ w',RR w' (r.wp q) (.slice sa r.sr.length sc) (.slice da r.de.length dc) (.w tg r.ti.length tc) (.slice pa q.length pc)->an T_ 233 [.agg #[.q r.lv,.q r.ma,.slice sa r.sr.length sc,.slice da r.de.length dc,.w tg r.ti.length tc,.slice pa q.length pc],.q (v:Nat),.string (dq r i)] w' (.bool (nr q (v:Nat) (dq r i))):=fun w' hR=>I6 _ _ hR
    (refine Jq<|Jr<|Jv I<|bD I I ae<|JL I c7 I<|JI I<|JA I<|Jn<|Jd I fun aA=>Jk<|Jq<|J0<|Jq ?_)
    with_reducible refine cz 10 (by kernel_rfl) ?_
    refine aq (bU c7) I ?_;refine fw I I ?_;refine jH I I ae ?_;refine aq (gn c7) I ?_;refine fw I I ?_;refine aq (ao (.of I) (.of I) I (by omega) aA aW) I ?_;refine jH I I ae ?_;refine aq (ag (.of I) (At.tie bE aL I hcT I)) I ?_
    (refine cW dU I (fun w' aB=>(Wl w' (RR.wp (cF aB .here I) (cH aB (.there .here) I) (cE aB bE I) (cq aB cI I))))<|aq (fu (.of I)) I ?_)
    with_reducible refine cC ?_
    (refine Jn<|oK I (fun aA=>?_) fun aA=>?_;rotate_left;refine Jw<|Jj<|Jt<|Jg<|Jv I<|JB I (by omega)<|Ja I<|Jn ?_;rotate_right)
    ·have e:nr q (v:Nat) (dq r i)=false:=aA;rw [e,if_neg (by decide)] at gS
     with_reducible refine dL 9 (by kernel_rfl) ?_
     refine au (fun β=>(bQ (.of I) c7 ai (by rfl))) ba I ?_;refine au (fun β=>(aQ (.of I))) ba I ?_;refine au (fun β=>(ar (.of I) ae)) ba I ?_;refine au (fun β=>(ag (.of I) (At.lit c7 I))) ba I ?_;refine au (fun β=>(aQ (.of I))) ba I ?_;refine au (fun β=>(ao (.of I) (.of I) I (by omega) (by assumption) aW)) ba I ?_;refine au (fun β=>(ar (.of I) ae)) ba I ?_;refine au (fun β=>(ag (.of I) (At.tie bE aL I hcT I))) ba I ?_;dsimp only [Nat.zero_add,Nat.reduceAdd]
     with_reducible apply dZ (ι:=Value×Value×Value×Value) (Φ:=fun _=>True) (val:=fun x=>.agg #[.q r.lv,.q r.ma,x.1,x.2.1,x.2.2.1,x.2.2.2]) (own:=fun x=>oZ (r.wp (G1 r (v:Nat) (dq r i) q)) x) (g:=g4) (B:=[]) (args:=fun _=>[.agg #[.q r.lv,.q r.ma,.slice sa r.sr.length sc,.slice da r.de.length dc,.w tg r.ti.length tc,.slice pa q.length pc],.q (v:Nat),.string (dq r i)])
     case hg=>exact mh
     case hB=>rfl
     case hr=>exact fun β=>a7 (.of I) (.o I (.o I (.o I .nil))) inferInstance I
     case hd=>rfl
     case hc=>exact fun β w' hb=>FD (r:=r.wp q) (v:Nat) (dq r i) (RR.wp (r:=r) (po:=q) (cF hb.mem (by exact .here) I) (cH hb.mem (by exact Take.there .here) I) (cE hb.mem bE I) (cq hb.mem cI I)) ⟨f1,f2,f3,ZP Rk f4⟩
     refine eN fun β=>?_;unfold oZ Ro.wp;dsimp only [dW,Za,Zb,List.append_eq,Nat.reduceAdd];generalize g4 (β 8)=y;obtain ⟨s2,d2,t2,p2⟩:=y;clear β;dsimp only;generalize G1 r (v:Nat) (dq r i) q=z at gS ⊢;refine aK (E:=118) (sz:=2) (v:=s2) (by exact .here) fun Iu It e3=>?_;subst e3;refine aK (E:=88) (sz:=3) (v:=d2) (by exact Take.there .here) fun IG IF e3=>?_;subst e3;refine aK (E:=122) (sz:=3) (v:=t2) bE fun Iq Ip e3=>?_;subst e3;refine aK (E:=180) (sz:=3) (v:=p2) cI fun Iw Iv e3=>?_;subst e3;refine dS [row 118 2 (.slice Iu r.sr.length It) r.sr.length (il r.sr),row 88 3 (.slice IG r.de.length IF) r.de.length (gm r.de),row 122 3 (.slice Iq r.ti.length Ip) r.ti.length (iC r.ti),row 180 3 (.slice Iw (z).length Iv) (z).length (eF (z)),JQ b1 r (.slice sa r.sr.length sc) (.slice da r.de.length dc) (.slice (some ⟨tg,0,none⟩) r.ti.length tc) (.slice pa q.length pc),bu b2 (.cells #[.int .i64 0,.int .i64 0,.slice none 0 0,.slice none 0 0,.slice none 0 0,.slice none 0 0] 27 (0,0))] (by exact .h4 (.cons c7 (.cons c7 .nil))) ?_;refine bF (rs:=[9]) (by kernel_rfl) (by simp) (Zp.2 ⟨?_,fun _ h=>absurd h Zo⟩);refine bK I ?_
     (refine ak (.of I) (.of I) c7 I I (dO I I I I I I) (br I) ai<|Jn ?_)
     with_reducible refine cn (by kernel_rfl) ?_
     refine Jj<|Jt<|Jg<|Jv I<|JB I (by omega)<|Ja I<|Jn ?_
     with_reducible apply aG (i+1,z,(Iu,It),(IG,IF),(Iq,Ip),(Iw,Iv)) ⟨gS.symm,Z6 aL⟩ (show r.ti.length-(i+1)<r.ti.length-i by omega)
     case hs1=>exact bT
     case ht=>exact jv
    ·have e:nr q (v:Nat) (dq r i)=true:=by simpa using aA
     rw [e,if_pos I] at gS
     with_reducible apply aG (i+1,q,(sa,sc),(da,dc),(some ⟨tg,0,none⟩,tc),(pa,pc)) ⟨gS.symm,Z6 aL⟩ (show r.ti.length-(i+1)<r.ti.length-i by omega)
     case hs1=>exact bT
     case ht=>exact jv
   ·obtain rfl:i=r.ti.length:=by omega
    have gS:q=B5 r (v+1) q1:=by rw [hq,I1,<- my]
    (refine Jq<|Jr<|Jv I<|bD I I ae<|JL I c7 I<|JI I<|JA I<|Jn<|Jc I fun aA=>Jp<|Jl<|Jo<|Jj<|Jt<|Jg<|Jv I<|JB I (by omega)<|Ja I<|Jn ?_)
    with_reducible apply aG (v+1,q,(sa,sc),(da,dc),(ta,tc),(pa,pc)) ⟨gS,Z6 nI⟩ (show r.lv.toNat-(v+1)<r.lv.toNat-v by omega)
    case hs1=>exact bT
    case ht=>exact jv
  ·obtain rfl:v=r.lv.toNat:=by omega
   have gS:q2=ye r (n+1) r.po:=by rw [my,JR,<- o8]
   (refine Jq<|Jr<|Jv I<|bD I I ae<|JL I c7 I<|JA I<|Jn<|Jc I fun aA=>Jp<|Jl<|Jo<|Jj<|Jt<|Jg<|Jv I<|JB I (by omega)<|Ja I<|Jn ?_)
   with_reducible apply aG (n+1,q2,(Ox,Oo),(Qk,Qj),(N9,N5),(OT,OR)) ⟨gS,Z6 YG⟩ (show 6-(n+1)<6-n by omega)
   case hs1=>exact bT
   case ht=>exact jv
 ·obtain rfl:n=6:=by omega
  subst o8
  (refine Jq<|Jr<|Jv I<|JA I<|Jn<|Jc I fun aA=>Jp<|Jl<|Jo<|Jt<|Jr<|ab (bU c7) I<|ak (.of I) (.of I) ek I I (dO I I I I I I) (br I) ai<|Jn<|Je ?_)
  with_reducible first|apply aO|apply aP
  case he=>exact ig I inferInstance I .here ai (by rfl)
  case hR=>
   intro w' aB;exact aC (.slice Yo r.sr.length Yn,.slice Y3 r.de.length Y2,.slice Ym r.ti.length Yl,.slice Yr (ye r 6 r.po).length Yq) trivial (by exact .cons (.there .here) (.cons (.there .here) (.cons (.there .here) (.cons (.there .here) .nil)))) aB I
end Go.Proofs.A1
