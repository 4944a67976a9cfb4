/- Parts of the proof: LZ MA MB MC PS P6d MD ME MF PC MG MH MI P6f P6g ML MM MN MO P6h GkPoolK MJ MK MP PW MQ MR MS PV MT P6i. -/
import Derived.Test.YteonnodafmegaaaGreatDoorWM13
import Derived.Test.YteonnodafmegaaaGreatDoorWM04
import Derived.Test.YteonnodafmegaaaGreatDoorWM12
import Derived.Test.YteonnodafmegaaaGreatDoorWM06
import Derived.Test.YteonnodafmegaaaGreatDoorWM09
import Derived.Test.YteonnodafmegaaaGreatDoorWM03
import Derived.Test.YteonnodafmegaaaGreatDoorWM10
import Derived.Test.YteonnodafmegaaaGreatDoorWM08
import Derived.Test.YteonnodafmegaaaGreatDoorWM11
set_option linter.unusedSectionVars false
set_option linter.unusedVariables false
set_option linter.unusedSimpArgs false
namespace Go.Proofs.A1
open Go Go.SL
theorem Qa {c:Cx} {hs hs':List bd} {w:World} (hm:Mem c hs w) {g gc:Nat} {L:List ByteArray} {cur:List Value} {E:TypeId} {fz:Nat×Nat} (ht:Take hs (bH g (.cells (aL L++cur).toArray E fz)) hs') (hc:L.length≤gc) (hx:gc≤maxLen):Rd w (.slice (some ⟨g,0,none⟩) L.length gc) 1 (im L):=by
 refine ⟨_,gc,g,0,by rw [bW],by rw [bW];exact hc,hx,fun _=>rfl,fun i r hr=>?_⟩
 have hi:=(Zl.1 hr).1
 rw [bW] at hi
 rw [ji hi] at hr
 obtain rfl:=Option.some.inj hr
 refine ⟨rfl,fun j u hu=>?_⟩
 cases j with
 | zero =>
  simp only [Zay,Option.some.injEq] at hu
  subst hu
  rw [cell_of_block (hm.bH ht)]
  simp [aL,ZD,hi]
 | succ j=>simp at hu
theorem H2 {c:Cx} {hs hs':List bd} {w:World} (hm:Mem c hs w) {g gc:Nat} {L:List ByteArray} {cur:List Value} {E:TypeId} {fz:Nat×Nat} (ht:Take hs (bH g (.cells (aL L++cur).toArray E fz)) hs') (hc:L.length≤gc) (hx:gc≤maxLen) {k:Nat} (hk:k≤L.length):Rd w (Go.sliced (some ⟨g,0,none⟩) 0 (k:Int).toNat gc 1) 1 (im (L.take k)):=by
 have:=(Qa hm ht hc hx).sliced (l:=0) (m:=k) (Zi _) hk
 rw [ZI]
 rwa [List.drop_zero,show (im L).take k=im (L.take k) by unfold im;rw [ZaV]] at this
theorem KL {r:Ro} {s d t p:Value} (m:Int) {w w1:World} (h:RR w1 r s d t p):aj Tryz.prog 162 [RA r s d t p,.int .i64 m] w (.int .i64 (fg r m)):=by
 have h1:=Rd.one h.sr
 have h2:=Rd.one h.de
 have h3:=Rd.one h.ti
 have h4:=Rd.one h.po
 unfold RA
 refine ah Tryz.func162 rfl rfl ?_
 (refine Jr<|Jy rfl rfl fun _ _=>Ja rfl<|Ji<|Jv rfl<|JA rfl<|Jv rfl<|il rfl rfl rfl rfl<|aD rfl rfl inferInstance (fun hg bA=>(au (.of rfl) ae)) rfl<|aD rfl rfl inferInstance (fun hg bA=>(ag (.bI hg rfl) (At.lit .here rfl))) rfl<|aD rfl rfl inferInstance (fun hg bA=>(uU (.bI hg rfl) (.bI hg rfl))) rfl<|ab (a7 (.of rfl) rfl) rfl<|ai bj rfl (fun w' aA=>(k6 _ 10 w'))<|Ja rfl<|Jn<|Je<|JT ?_)
 rfl
theorem Cv {r:Ro} {s d t p:Value} (k:Nat) {w:World} (h:RR w r s d t p) (hf:mn r) (hk:k<(ef r).length):aj Tryz.prog 229 [RA r s d t p,.int .i64 (k:Nat)] w (.int .i64 (zB r k)):=by
 have h1:=Rd.one h.sr
 have h2:=Rd.one h.de
 have h3:=Rd.one h.ti
 have h4:=Rd.one h.po
 have CP:∀ w',aJ [] w w'→bu Tryz.prog 77 [.agg #[.int .i64 r.lv,.int .i64 r.ma,s,d,t,p]] w' [] (fun _:Value=>True) id (fun x=>[row 9 1 x (ef r).length (aL (ef r))]):=fun w' hk=>EZ (h.keeps hk) hf
 rw [MF hk]
 have DR:(ef r).length≤3000000:=by
  obtain ⟨f1,f2,f3,f4⟩:=hf
  unfold ef cF cq cM
  simp only [Zg,Zd]
  omega
 generalize ef r=L at CP hk DR ⊢
 have XA:k≤L.length:=by omega
 unfold RA
 refine ah Tryz.func229 rfl rfl ?_
 refine Jr<|Jy rfl rfl fun _ _=>Ja rfl<|Ji<|ab (cR .here) rfl ?_
 refine JN bN rfl (fun w1 aR=>CP w1 aR.keeps) ?_
 intro x _
 dsimp only [id_eq,Zb,Za]
 refine cU (E:=9) (sz:=1) (v:=x) (by exact .here) (by omega) ?_
 rintro g gc cur e dj z6 _ _
 subst e
 have jv:(aL L++cur)[k*1]? = some (.string L[k]):=nV L cur hk
 refine Ja rfl<|Jn<|Jq ?_
 with_reducible refine cZ 15 (by kernel_rfl) ?_
 (refine ao l7 rfl ?_;refine ao l7 rfl ?_;refine ao (ar (.of rfl) (.of rfl) rfl (by omega) (by omega) bb) rfl ?_;refine ao (ag (.of rfl) (At.jL .here jv)) rfl ?_;refine aY bN rfl (fun w' aA=>(WA _ w')) ?_;refine ao l7 rfl ?_;refine ao l7 rfl ?_;refine ao (hY (.of rfl) (.of rfl) (by omega) (by omega)) rfl ?_;refine ao l7 rfl ?_;refine ao l7 rfl ?_;refine ao (ar (.of rfl) (.of rfl) rfl (by omega) (by omega) bb) rfl ?_;refine ao (ag (.of rfl) (At.jL .here jv)) rfl ?_;refine aY bj rfl (fun w' aA=>(Kg _ (H2 aA .here dj z6 XA))) ?_;refine aY bj rfl (fun w' aA=>(k6 _ 9 w')) ?_;refine eB (aC (.cons (.of rfl) (.cons (.of rfl) .nil)) rfl rfl rfl rfl) rfl rfl ?_)
 with_reducible refine dB rfl fun bq nq=>?_
 (refine ai bN rfl (fun w' aA=>(lq (Mem.dw aA .here rfl rfl) (bY.cons (bY.cons bY.nil))))<|Ja rfl<|Jn<|Je<|JT ?_)
 rfl
set_option maxHeartbeats 1000000 in
theorem Ao {r:Ro} {s d t p:Value} {w:World} (h:RR w r s d t p) (hf:mn r):aj Tryz.prog 127 [RA r s d t p] w (.int .i64 (jQ r)):=by
 have h1:=Rd.one h.sr
 have h2:=Rd.one h.de
 have h3:=Rd.one h.ti
 have h4:=Rd.one h.po
 have QW:∀ k,k<(ef r).length→∀ w',aJ [] w w'→aj Tryz.prog 229 [.agg #[.int .i64 r.lv,.int .i64 r.ma,s,d,t,p],.int .i64 (k:Nat)] w' (.int .i64 (zB r k)):=fun k hk w' XA=>Cv k (h.keeps XA) hf hk
 have eQ:∀ (m:Int) {w'},aJ [] w w'→aj Tryz.prog 162 [.agg #[.int .i64 r.lv,.int .i64 r.ma,s,d,t,p],.int .i64 m] w' (.int .i64 (fg r m)):=fun m _ hk=>KL m (h.keeps hk)
 have dZ:=K7 r
 have Gv:=h.sr
 have GD:=h.de
 have B0:=h.ti
 obtain ⟨a1,er,Pt,OG,rfl,pM,jf,lW,kF⟩:=Gv
 obtain ⟨a2,dA,Ps,OF,rfl,kE,fk,jD,jS⟩:=GD
 obtain ⟨a3,ee,KU,Ik,rfl,nD,gG,tM,ql⟩:=B0
 rw [cO] at *
 rw [cn] at *
 rw [cd] at *
 unfold maxLen at jf fk gG
 obtain ⟨f1,f2,f3,f4⟩:=hf
 unfold RA
 refine ah Tryz.func127 rfl rfl ?_
 (refine Jr<|Jy rfl rfl fun _ _=>Ja rfl<|Ji<|Ja rfl<|Jn<|Jq<|Jr<|bS rfl rfl ae<|JL rfl .here rfl<|JI rfl<|JE rfl<|Jn<|gm rfl (fun az=>?_) fun az=>?_;refine Jr<|Ja rfl<|Jn<|Ju<|JT ?_;rotate_left;refine Jk<|Jq<|Jr<|Ja rfl<|Jn<|J0 ?_;rotate_right)
 ·skip
  have e:fb 8 [] Sr.nm (fun x=>fg r x.mx) r.sr=5:=by unfold fb;rw [if_pos (show (8:Int)<(r.sr.length:Int) by omega)]
  rw [Wr (by rw [e];decide),e]
 rename_i b1 tw
 refine aW (ι:=Nat) (fun x=>x≤r.sr.length∧∀ i,i<x→wQ [] Sr.nm (fun x=>fg r x.mx) r.sr i=0) (fun x=>[(4,.int .i64 (x:Nat)),(3,.int .i64 ((x:Nat):Int)),(1,.pointer (some ⟨b1,0,none⟩))]) (fun x=>[JQ b1 r (.slice a1 r.sr.length er) (.slice a2 r.de.length dA) (.slice a3 r.ti.length ee) p]) (fun x=>r.sr.length-x) ?_ ?_
 ·apply aI (0:Nat) ⟨Zi _,fun i h=>absurd h (ZP _)⟩
  case hs1=>exact cg
  case ht=>(try simp only [Ze,Zf,Za]);exact .cons .here .nil
 rintro k ⟨hk,hz⟩
 by_cases aM:k<r.sr.length
 ·have cG:=lW (iM aM)
  obtain ⟨gR,aB⟩:=kF k _ (fN aM)
  unfold Sr.cells at aB
  have cc0:=aB 0 _ rfl
  have V4:=aB 1 _ rfl
  have QX:=QW (k) (by omega)
  have hq:=Tj (r:=r) aM
  (refine Jq<|Jr<|Jv rfl<|bS rfl rfl ae<|JL rfl .here rfl<|JI rfl<|JA rfl<|Jn<|Jd rfl fun az=>Jk<|Jq<|J0<|Jq<|Jq ?_)
  with_reducible refine cZ 12 (by kernel_rfl) ?_
  (refine ao (cR .here) rfl<|ao l7 rfl<|aY bj rfl (fun w' aA=>(QX w' (Mem.keeps aA)))<|ao (cR .here) rfl<|ao kZ rfl<|ao (gT .here) rfl<|ao l7 rfl<|ao (fM cG az) rfl<|ao kZ rfl<|ao (ag (.of rfl) (At.base V4 rfl)) rfl<|aY bj rfl (fun w' aA=>(eQ _ (Mem.keeps aA)))<|eB (aC (.cons (.of rfl) (.cons (.of rfl) .nil)) rfl rfl rfl rfl) rfl rfl ?_)
  with_reducible refine dB rfl fun bq nq=>?_
  (refine ai bN rfl (fun w' aA=>(lq (Mem.dw aA .here rfl rfl) (bY.cons (bY.cons bY.nil))))<|Ja rfl<|Ji<|Jv rfl<|JD rfl<|Jn<|gm rfl (fun az=>?_) fun az=>?_;refine Jr<|Jv rfl<|Ja rfl<|Jn<|Ju<|Jm<|Jh<|Jh<|Jm<|Jh<|JT ?_;rotate_left;refine Jk<|Jg<|Jv rfl<|JB rfl (by omega)<|Ja rfl<|Jx<|Jj<|Jt<|Jg<|Jv rfl<|JB rfl (by omega)<|Ja rfl<|Jn ?_;rotate_right)
  ·rw [hq] at az ⊢
   have hb:fb 8 [] Sr.nm (fun x=>fg r x.mx) r.sr=wQ [] Sr.nm (fun x=>fg r x.mx) r.sr k:=by unfold fb;rw [if_neg (by omega)];exact eW hz aM az
   rw [Wr (by rw [hb];exact az),hb]
  have IY:wQ [] Sr.nm (fun x=>fg r x.mx) r.sr k=0:=by rw [← hq];exact Zo.1 az
  apply aK (k+1) ⟨(show k+1≤r.sr.length from aM),fun i hi=>by
   by_cases e:i=k
   ·rw [e];exact IY
   ·exact hz i (by omega)⟩ (show r.sr.length-(k+1)<r.sr.length-k by omega)
  case hs1=>exact cg
  case ht=>(try simp only [Ze,Zf,Za]);exact .cons (.there .here) .nil
 obtain rfl:k=r.sr.length:=by omega
 have z1:fb 8 [] Sr.nm (fun x=>fg r x.mx) r.sr=0:=by unfold fb;rw [if_neg (by omega)];exact dS.2 hz
 clear hk aM hz
 (refine Jq<|Jr<|Jv rfl<|bS rfl rfl ae<|JL rfl .here rfl<|JI rfl<|JA rfl<|Jn<|Jc rfl fun az=>Jp<|Jl<|Jo<|Jt<|Jq<|Jr<|bS rfl rfl ae<|JL rfl .here rfl<|JI rfl<|JE rfl<|Jn<|gm rfl (fun az=>?_) fun az=>?_;refine Jr<|Ja rfl<|Jn<|Ju<|JT ?_;rotate_left;refine Jk<|Jq<|Jr<|Ja rfl<|Jn<|J0 ?_;rotate_right)
 ·have e:fb 8 (cF r) De.nm (fun x=>fg r x.mx) r.de=5:=by unfold fb;rw [if_pos (show (8:Int)<(r.de.length:Int) by omega)]
  rw [Wq z1 (by rw [e];decide),e]
 refine aW (ι:=Nat) (fun x=>x≤r.de.length∧∀ i,i<x→wQ (cF r) De.nm (fun x=>fg r x.mx) r.de i=0) (fun x=>[(6,.int .i64 (x:Nat)),(3,.int .i64 ((r.sr.length+x:Nat):Int)),(1,.pointer (some ⟨b1,0,none⟩))]) (fun x=>[JQ b1 r (.slice a1 r.sr.length er) (.slice a2 r.de.length dA) (.slice a3 r.ti.length ee) p]) (fun x=>r.de.length-x) ?_ ?_
 ·apply aI (0:Nat) ⟨Zi _,fun i h=>absurd h (ZP _)⟩
  case hs1=>exact cg
  case ht=>(try simp only [Ze,Zf,Za]);exact .cons .here .nil
 rintro k ⟨hk,hz⟩
 by_cases aM:k<r.de.length
 ·have cG:=jD (fW aM)
  obtain ⟨gR,aB⟩:=jS k _ (eR aM)
  unfold De.cells at aB
  have cc0:=aB 0 _ rfl
  have V4:=aB 1 _ rfl
  have QX:=QW (r.sr.length+k) (by omega)
  have hq:=Tl (r:=r) aM
  (refine Jq<|Jr<|Jv rfl<|bS rfl rfl ae<|JL rfl .here rfl<|JI rfl<|JA rfl<|Jn<|Jd rfl fun az=>Jk<|Jq<|J0<|Jq<|Jq ?_)
  with_reducible refine cZ 12 (by kernel_rfl) ?_
  (refine ao (cR .here) rfl<|ao l7 rfl<|aY bj rfl (fun w' aA=>(QX w' (Mem.keeps aA)))<|ao (cR .here) rfl<|ao kZ rfl<|ao (gT .here) rfl<|ao l7 rfl<|ao (fM cG az) rfl<|ao kZ rfl<|ao (ag (.of rfl) (At.base V4 rfl)) rfl<|aY bj rfl (fun w' aA=>(eQ _ (Mem.keeps aA)))<|eB (aC (.cons (.of rfl) (.cons (.of rfl) .nil)) rfl rfl rfl rfl) rfl rfl ?_)
  with_reducible refine dB rfl fun bq nq=>?_
  (refine ai bN rfl (fun w' aA=>(lq (Mem.dw aA .here rfl rfl) (bY.cons (bY.cons bY.nil))))<|Ja rfl<|Ji<|Jv rfl<|JD rfl<|Jn<|gm rfl (fun az=>?_) fun az=>?_;refine Jr<|Jv rfl<|Ja rfl<|Jn<|Ju<|Jm<|Jh<|Jh<|Jm<|Jh<|JT ?_;rotate_left;refine Jk<|Jg<|Jv rfl<|JB rfl (by omega)<|Ja rfl<|Jx<|Jj<|Jt<|Jg<|Jv rfl<|JB rfl (by omega)<|Ja rfl<|Jn ?_;rotate_right)
  ·rw [hq] at az ⊢
   have hb:fb 8 (cF r) De.nm (fun x=>fg r x.mx) r.de=wQ (cF r) De.nm (fun x=>fg r x.mx) r.de k:=by unfold fb;rw [if_neg (by omega)];exact eW hz aM az
   rw [Wq z1 (by rw [hb];exact az),hb]
  have IY:wQ (cF r) De.nm (fun x=>fg r x.mx) r.de k=0:=by rw [← hq];exact Zo.1 az
  apply aK (k+1) ⟨(show k+1≤r.de.length from aM),fun i hi=>by
   by_cases e:i=k
   ·rw [e];exact IY
   ·exact hz i (by omega)⟩ (show r.de.length-(k+1)<r.de.length-k by omega)
  case hs1=>exact cg
  case ht=>(try simp only [Ze,Zf,Za]);exact .cons (.there .here) .nil
 obtain rfl:k=r.de.length:=by omega
 have z2:fb 8 (cF r) De.nm (fun x=>fg r x.mx) r.de=0:=by unfold fb;rw [if_neg (by omega)];exact dS.2 hz
 clear hk aM hz
 (refine Jq<|Jr<|Jv rfl<|bS rfl rfl ae<|JL rfl .here rfl<|JI rfl<|JA rfl<|Jn<|Jc rfl fun az=>Jp<|Jl<|Jo<|Jt<|Jq<|Jr<|bS rfl rfl ae<|JL rfl .here rfl<|JI rfl<|JE rfl<|Jn<|gm rfl (fun az=>?_) fun az=>?_;refine Jr<|Ja rfl<|Jn<|Ju<|JT ?_;rotate_left;refine Jk<|Jq<|Jr<|Ja rfl<|Jn<|J0 ?_;rotate_right)
 ·have e:fb 6 (cF r++cq r) Ti.nm (nI r) r.ti=5:=by unfold fb;rw [if_pos (show (6:Int)<(r.ti.length:Int) by omega)]
  rw [Dw z1 z2,e]
 refine aW (ι:=Nat) (fun x=>x≤r.ti.length∧∀ i,i<x→wQ (cF r++cq r) Ti.nm (nI r) r.ti i=0) (fun x=>[(8,.int .i64 (x:Nat)),(3,.int .i64 (((r.sr.length+r.de.length)+x:Nat):Int)),(1,.pointer (some ⟨b1,0,none⟩))]) (fun x=>[JQ b1 r (.slice a1 r.sr.length er) (.slice a2 r.de.length dA) (.slice a3 r.ti.length ee) p]) (fun x=>r.ti.length-x) ?_ ?_
 ·apply aI (0:Nat) ⟨Zi _,fun i h=>absurd h (ZP _)⟩
  case hs1=>exact cg
  case ht=>(try simp only [Ze,Zf,Za]);exact .cons .here .nil
 rintro k ⟨hk,hz⟩
 by_cases aM:k<r.ti.length
 ·have cG:=tM (fw aM)
  obtain ⟨gR,aB⟩:=ql k _ (eE aM)
  unfold Ti.cells at aB
  have cc0:=aB 0 _ rfl
  have V4:=aB 1 _ rfl
  have QX:=QW ((r.sr.length+r.de.length)+k) (by omega)
  have hq:=Th (r:=r) aM
  (refine Jq<|Jr<|Jv rfl<|bS rfl rfl ae<|JL rfl .here rfl<|JI rfl<|JA rfl<|Jn<|Jd rfl fun az=>Jk<|Jq<|J0<|Jr<|bS rfl rfl ae<|JL rfl .here rfl<|Jv rfl<|ab (fM cG az) rfl<|ab (gW (ew.base aB rfl)) rfl<|Jz rfl rfl fun _ _=>aq (.of rfl) (.of rfl) .here rfl rfl (fo rfl rfl rfl) (bG rfl) ak<|Jn<|Jq<|Jq ?_)
  with_reducible refine cZ 18 (by kernel_rfl) ?_
  (refine ao (cR (.there .here)) rfl<|ao l7 rfl<|aY bj rfl (fun w' aA=>(QX w' (Mem.keeps aA)))<|ao (cR (.there .here)) rfl<|ao kZ rfl<|ao (gT .here) rfl<|aY bj rfl (fun w' aA=>(eQ _ (Mem.keeps aA)))<|ao (cR (.there .here)) rfl<|ao kZ rfl<|ao (gT .here) rfl<|aY bj rfl (fun w' aA=>(eQ _ (Mem.keeps aA)))<|ao kZ rfl<|ao (gT .here) rfl<|ao kZ rfl<|ao (gT .here) rfl<|ao (mX (.of rfl) (.of rfl)) rfl<|aY bj rfl (fun w' aA=>(k6 _ 24 w'))<|eB (aC (.cons (.of rfl) (.cons (.of rfl) (.cons (.of rfl) (.cons (.of rfl) .nil)))) rfl rfl rfl rfl) rfl rfl ?_)
  with_reducible refine dB rfl fun bq nq=>?_
  (refine ai bN rfl (fun w' aA=>(lq (Mem.dw aA .here rfl rfl) (bY.cons (bY.cons (bY.cons (bY.cons bY.nil))))))<|Ja rfl<|Ji<|Jv rfl<|JD rfl<|Jn<|gm rfl (fun az=>?_) fun az=>?_;refine Jr<|Jv rfl<|Ja rfl<|Jn<|Ju<|Jm<|Jh<|Jh<|Jm<|Jh<|JT ?_;rotate_left;refine Jk<|Jg<|Jv rfl<|JB rfl (by omega)<|Ja rfl<|Jx<|Jj<|Jt<|Jg<|Jv rfl<|JB rfl (by omega)<|Ja rfl<|Jn ?_;rotate_right)
  ·rw [hq] at az ⊢
   have hb:fb 6 (cF r++cq r) Ti.nm (nI r) r.ti=wQ (cF r++cq r) Ti.nm (nI r) r.ti k:=by unfold fb;rw [if_neg (by omega)];exact eW hz aM az
   rw [Dw z1 z2,hb]
  have IY:wQ (cF r++cq r) Ti.nm (nI r) r.ti k=0:=by rw [← hq];exact Zo.1 az
  apply aK (k+1) ⟨(show k+1≤r.ti.length from aM),fun i hi=>by
   by_cases e:i=k
   ·rw [e];exact IY
   ·exact hz i (by omega)⟩ (show r.ti.length-(k+1)<r.ti.length-k by omega)
  case hs1=>exact cg
  case ht=>(try simp only [Ze,Zf,Za]);exact .cons bL .nil
 obtain rfl:k=r.ti.length:=by omega
 have z3:fb 6 (cF r++cq r) Ti.nm (nI r) r.ti=0:=by unfold fb;rw [if_neg (by omega)];exact dS.2 hz
 clear hk aM hz
 (refine Jq<|Jr<|Jv rfl<|bS rfl rfl ae<|JL rfl .here rfl<|JI rfl<|JA rfl<|Jn<|Jc rfl fun az=>Jp<|Jl<|Jo<|Jt<|Jr<|Ja rfl<|Jn<|Je<|JT ?_)
 rw [Dw z1 z2,z3]
theorem Qc {r:Ro} {k:Nat} (h:k<r.po.length):Gf r k=if Ln r r.po[k]≠0 then Ln r r.po[k] else if 0<k∧(r.po[k].lv<((r.po[k-1]?).getD r.po[k]).lv∨r.po[k].lv=((r.po[k-1]?).getD r.po[k]).lv∧dX r r.po[k].ou≤dX r ((r.po[k-1]?).getD r.po[k]).ou) then 11 else 0:=by
 unfold Gf;rw [Zc h];rfl
def GO (r:Ro) (v:Int) (x:Ti):Bool:=decide ((tC r.po v 8 x.nm).length=8)
def EW (r:Ro) (v:Int) (x:Ti):Bool:=nH r.po v x.nm != !decide ((ek r.po v x.nm).getD ⟨#[]⟩=⟨#[]⟩)
theorem MH (r:Ro):Tm r=if jV r (fun v=>r.ti.any (GO r v)) then 33 else if jV r (fun v=>r.ti.any (EW r v)) then 32 else 0:=rfl
theorem CF {r:Ro} {q:Int→Ti→Bool} {v i:Nat} (hv:(v:Int)<r.lv) (hi:i<r.ti.length) (h:q v r.ti[i]=true):jV r (fun v=>r.ti.any (q v))=true:=by
 unfold jV
 exact ZM.2 ⟨v,ZQ.2 (by omega),ZM.2 ⟨_,Zj hi,h⟩⟩
theorem yP {r:Ro} {q:Int→Ti→Bool} (h:∀ v:Nat,v<r.lv.toNat→∀ (i:Nat) (hi:i<r.ti.length),q v r.ti[i]=false):jV r (fun v=>r.ti.any (q v))=false:=by
 refine lA.2 fun v h0 h1=>Z9.2 fun x hx=>?_
 obtain ⟨i,hi,rfl⟩:=Zu hx
 have:=h v.toNat (by omega) i hi
 rw [show ((v.toNat:Nat):Int)=v by omega] at this
 rw [this];decide
set_option maxHeartbeats 2000000 in
theorem xk {r:Ro} {s d t p:Value} {w:World} (h:RR w r s d t p) (hf:mn r) (aeL:1≤r.lv∧r.lv≤3):aj Tryz.prog 128 [RA r s d t p] w (.int .i64 (zC r)):=by
 have h1:=Rd.one h.sr
 have h2:=Rd.one h.de
 have h3:=Rd.one h.ti
 have h4:=Rd.one h.po
 have Q0:∀ (o:ByteArray) {w'},aJ [] w w'→aj Tryz.prog 230 [.agg #[.int .i64 r.lv,.int .i64 r.ma,s,d,t,p],.string o] w' (.int .i64 (dX r o)):=fun o _ hk=>MR o (h.keeps hk) hf
 have Ul:∀ (o:ByteArray) {w'},aJ [] w w'→aj Tryz.prog 231 [.agg #[.int .i64 r.lv,.int .i64 r.ma,s,d,t,p],.string o] w' (.int .i64 (j7 r o)):=fun o _ hk=>Nf o (h.keeps hk)
 have Xk:∀ (o:ByteArray) {w'},aJ [] w w'→aj Tryz.prog 232 [.agg #[.int .i64 r.lv,.int .i64 r.ma,s,d,t,p],.string o] w' (.int .i64 (kC r o)):=fun o _ hk=>Ih o (h.keeps hk)
 have WQ:∀ (v:Int) (o:ByteArray) {w'},aJ [] w w'→aj Tryz.prog 233 [.agg #[.int .i64 r.lv,.int .i64 r.ma,s,d,t,p],.int .i64 v,.string o] w' (.bool (nH r.po v o)):=fun v o _ hk=>PQ v o (h.keeps hk)
 have Ny:∀ (v:Int) (o:ByteArray) {w'},aJ [] w w'→aj Tryz.prog 133 [.agg #[.int .i64 r.lv,.int .i64 r.ma,s,d,t,p],.int .i64 v,.string o] w' (.string ((ek r.po v o).getD ⟨#[]⟩)):=fun v o _ hk=>E8 v o (h.keeps hk)
 have X9:∀ (v:Int) (o:ByteArray) w',aJ [] w w'→bu Tryz.prog 132 [.agg #[.int .i64 r.lv,.int .i64 r.ma,s,d,t,p],.int .i64 v,.string o,.int .i64 8] w' [] (fun _:Option Addr×Nat=>True) (fun z=>.slice z.1 (tC r.po v 8 o).length z.2) (fun z=>[row 9 1 (.slice z.1 (tC r.po v 8 o).length z.2) (tC r.po v 8 o).length (aL (tC r.po v 8 o))]):=fun v o w' hk=>bu.Dl (val:=id) (N9 v o 8 (by decide) (h.keeps hk))
 have JM:=h.po
 have B0:=h.ti
 obtain ⟨a4,gi,Vd,Qk,rfl,yD,mG,G4,Ac⟩:=JM
 obtain ⟨a3,ee,KU,Ik,rfl,nD,gG,tM,ql⟩:=B0
 rw [c6] at *
 rw [cd] at *
 unfold maxLen at gG mG
 obtain ⟨f1,f2,f3,f4⟩:=hf
 unfold RA
 refine ah Tryz.func128 rfl rfl ?_
 refine Jr<|Jy rfl rfl fun _ _=>Ja rfl<|Jn<|Jq<|Jr<|Ja rfl<|Jn<|J0 ?_
 rename_i b1 tw
 refine aW (ι:=Nat) (fun x=>x≤r.po.length∧∀ i,i<x→Gf r i=0) (fun x=>[(3,.int .i64 (x:Nat)),(1,.pointer (some ⟨b1,0,none⟩))]) (fun x=>[JQ b1 r s d (.slice a3 r.ti.length ee) (.slice a4 r.po.length gi)]) (fun x=>r.po.length-x) ?_ ?_
 ·apply aI (0:Nat) ⟨Zi _,fun i h=>absurd h (ZP _)⟩
  case hs1=>exact cg
  case ht=>(try simp only [Ze,Zf,Za]);exact .cons .here .nil
 rintro k ⟨hk,hz⟩
 by_cases aM:k<r.po.length
 ·have cG:=G4 (ko aM)
  obtain ⟨gR,aB⟩:=Ac k _ (iy aM)
  unfold Po.cells at aB
  have jv:=Qc (r:=r) aM
  have VV:∀ e:Int,Gf r k=e→e≠0→zC r=e:=fun e he hne=>by
   have hb:jE (Gf r) r.po.length=e:=by rw [← he];exact eW hz aM (by rw [he];exact hne)
   unfold zC
   rw [hb,if_pos hne]
  have j9:Gf r k=0→∀ i,i<k+1→Gf r i=0:=fun e i hi=>by
   by_cases e2:i=k
   ·rw [e2];exact e
   ·exact hz i (by omega)
  generalize hx:r.po[k]=x at aB jv
  (refine Jq<|Jr<|Jv rfl<|bS rfl rfl ae<|JL rfl .here rfl<|JI rfl<|JA rfl<|Jn<|Jd rfl fun az=>Jk<|Jq<|J0<|Jr<|bS rfl rfl ae<|JL rfl .here rfl<|Jv rfl<|ab (fM cG az) rfl<|ab (gW (ew.base aB rfl)) rfl<|Jz rfl rfl fun _ _=>aq (.of rfl) (.of rfl) .here rfl rfl (fo rfl rfl rfl) (bG rfl) ak<|Jn<|Jq<|Jq ?_)
  with_reducible refine cZ 29 (by kernel_rfl) ?_
  (refine ao kZ rfl<|ao (gT .here) rfl<|ao kZ rfl<|ao (gT (.there .here)) rfl<|ao (uP (.of rfl) (.of rfl) (SB (by omega))) rfl<|aY eM rfl (fun w' aA=>(zA _ 0 _ w'))<|ao (cR (.there .here)) rfl<|ao kZ rfl<|ao (gT .here) rfl<|aY bj rfl (fun w' aA=>(Q0 _ (Mem.keeps aA)))<|ao (lg (.of rfl) (.of rfl)) rfl<|aY bj rfl (fun w' aA=>(k6 _ 10 w'))<|ao (cR (.there .here)) rfl<|ao kZ rfl<|ao (gT .here) rfl<|aY bj rfl (fun w' aA=>(Ul _ (Mem.keeps aA)))<|ao (lg (.of rfl) (.of rfl)) rfl<|aY bj rfl (fun w' aA=>(k6 _ 10 w'))<|ao (cR (.there .here)) rfl<|ao kZ rfl<|ao (gT .here) rfl<|aY bj rfl (fun w' aA=>(Xk _ (Mem.keeps aA)))<|ao (cR (.there .here)) rfl<|ao kZ rfl<|ao (gT .here) rfl<|aY bj rfl (fun w' aA=>(Ul _ (Mem.keeps aA)))<|ao (fa (.of rfl) (.of rfl)) rfl<|aY bj rfl (fun w' aA=>(k6 _ 24 w'))<|eB (aC (.cons (.of rfl) (.cons (.of rfl) (.cons (.of rfl) (.cons (.of rfl) .nil)))) rfl rfl rfl rfl) rfl rfl ?_)
  with_reducible refine dB rfl fun bq nq=>?_
  (refine ai bN rfl (fun w' aA=>(lq (Mem.dw aA .here rfl rfl) (bY.cons (bY.cons (bY.cons (bY.cons bY.nil))))))<|Ja rfl<|Ji<|Jv rfl<|JD rfl<|Jn<|gm rfl (fun az=>?_) fun az=>?_;refine Jr<|Jv rfl<|Ja rfl<|Jn<|Ju<|Jm<|Jh<|Jh<|Jm<|Jh<|JT ?_;rotate_left;refine Jk<|Jr<|Jv rfl<|JE rfl<|Jn<|gm rfl (fun az=>?_) fun az=>?_;refine Jr<|bS rfl rfl ae<|JL rfl bL rfl<|Jv rfl<|JS rfl (by omega)<|ab (ar (.of rfl) (.of rfl) cG (by omega) (by omega) bb) rfl ?_;rotate_left;refine Jw<|Jj<|Jt<|Jg<|Jv rfl<|JB rfl (by omega)<|Ja rfl<|Jn ?_;rotate_right;rotate_right)
  ·have e:=VV (Ln r x) (by rw [jv,if_pos (show Ln r x≠0 from az)]) az
   rw [e];rfl
  ·rename_i b4 wA hE
   have hE:Ln r x=0:=Zo.1 hE
   have Ly:0<k:=by omega
   have Rh:k-1<r.po.length:=by omega
   obtain ⟨aaf,eT⟩:=Ac (k-1) _ (iy Rh)
   unfold Po.cells at eT
   rw [show Qk+(k-1)*3=Qk+((k:Int)-1).toNat*3 by rw [show ((k:Int)-1).toNat=k-1 by omega]] at eT
   rw [if_neg (not_not_intro hE),Zc Rh,Zab] at jv
   generalize r.po[k-1]=y at eT jv
   (refine ab (gW (ew.base eT rfl)) rfl<|Jz rfl rfl fun _ _=>aq (.of rfl) (.of rfl) .here rfl rfl (fo rfl rfl rfl) (bG rfl) ak<|Jn<|Jq ?_)
   with_reducible refine dE 23 (by kernel_rfl) ?_
   (refine nF rfl rfl ae<|aF (gT bL) rfl<|nF rfl rfl ae<|aF (gT .here) rfl<|aF (lg (.of rfl) (.of rfl)) rfl<|ju rfl rfl<|bn rfl rfl inferInstance (fun hg bA=>(au (.of rfl) ae)) rfl<|bn rfl rfl inferInstance (fun hg bA=>(ag (.bI hg rfl) (At.lit bL rfl))) rfl<|bn rfl rfl inferInstance (fun hg bA=>(au (.of rfl) ae)) rfl<|bn rfl rfl inferInstance (fun hg bA=>(ag (.bI hg rfl) (At.lit .here rfl))) rfl<|bn rfl rfl inferInstance (fun hg bA=>(mX (.bI hg rfl) (.bI hg rfl))) rfl<|bn rfl rfl inferInstance (fun hg bA=>(aN (.bI hg rfl))) rfl<|dP rfl rfl inferInstance (fun hg bA=>(bT (.of rfl) cW ak (by rfl))) rfl<|dP rfl rfl inferInstance (fun hg bA=>(au (.of rfl) ae)) rfl<|dP rfl rfl inferInstance (fun hg bA=>(ag (.bI hg rfl) (At.lit bL rfl))) rfl<|sQ rfl rfl (fun hg=>(aZ (.of rfl) (.cons (.bI hg rfl) (.cons (.bI hg rfl) .nil)) inferInstance ez)) rfl (fun hg w' aA=>(Q0 _ (Mem.keeps aA)))<|dP rfl rfl inferInstance (fun hg bA=>(bT (.of rfl) cW ak (by rfl))) rfl<|dP rfl rfl inferInstance (fun hg bA=>(au (.of rfl) ae)) rfl<|dP rfl rfl inferInstance (fun hg bA=>(ag (.bI hg rfl) (At.lit .here rfl))) rfl<|sQ rfl rfl (fun hg=>(aZ (.of rfl) (.cons (.bI hg rfl) (.cons (.bI hg rfl) .nil)) inferInstance ez)) rfl (fun hg w' aA=>(Q0 _ (Mem.keeps aA)))<|dP rfl rfl inferInstance (fun hg bA=>(mf (.bI hg rfl) (.bI hg rfl))) rfl<|bn rfl rfl inferInstance (fun hg bA=>(iw hg (.bI hg rfl) rfl)) rfl<|aF (a7 (.of rfl) rfl) rfl ?_)
   with_reducible refine dI ?_
   (refine Jn<|pt rfl (fun az=>?_) fun az=>?_;refine Jr<|Ja rfl<|Jn<|Je<|Jm<|Jh<|Jh<|Jm<|Jh<|JT ?_;rotate_left;refine Jw<|Jj<|Jt<|Jg<|Jv rfl<|JB rfl (by omega)<|Ja rfl<|Jn ?_;rotate_right)
   ·have UK:0<k∧(x.lv<y.lv∨x.lv=y.lv∧dX r x.ou≤dX r y.ou):=⟨Ly,az⟩
    have e:=VV 11 (by rw [jv,if_pos UK]) (by decide)
    rw [e]
   ·apply aK (k+1) ⟨(show k+1≤r.po.length from aM),j9 (by rw [jv,if_neg (fun q=>q.2.elim az.1 fun z=>az.2.elim (fun z2=>z2 z.1) fun z2=>z2 z.2)])⟩ (show r.po.length-(k+1)<r.po.length-k by omega)
    case hs1=>exact cg
    case ht=>(try simp only [Ze,Zf,Za]);exact .cons cW .nil
  ·rename_i b4 wA hE
   have hE:Ln r x=0:=Zo.1 hE
   apply aK (k+1) ⟨(show k+1≤r.po.length from aM),j9 (by rw [jv,if_neg (not_not_intro hE),if_neg (fun q=>az (by omega))])⟩ (show r.po.length-(k+1)<r.po.length-k by omega)
   case hs1=>exact cg
   case ht=>(try simp only [Ze,Zf,Za]);exact .cons bL .nil
 obtain rfl:k=r.po.length:=by omega
 have Vw:jE (Gf r) r.po.length=0:=dS.2 hz
 have hqs:zC r=Tm r:=by unfold zC;rw [Vw];rfl
 rw [hqs,MH]
 clear hk aM hz
 (refine Jq<|Jr<|Jv rfl<|bS rfl rfl ae<|JL rfl .here rfl<|JI rfl<|JA rfl<|Jn<|Jc rfl fun az=>Jp<|Jl<|Jo<|Jt<|Jq<|Jr<|Ja rfl<|Jn<|J0 ?_)
 refine aW (ι:=Nat) (fun v=>v≤r.lv.toNat∧∀ u,u<v→∀ (i:Nat) (hi:i<r.ti.length),GO r (u:Nat) r.ti[i]=false) (fun v=>[(7,.int .i64 (v:Nat)),(1,.pointer (some ⟨b1,0,none⟩))]) (fun _=>[JQ b1 r s d (.slice a3 r.ti.length ee) (.slice a4 r.po.length gi)]) (fun v=>r.lv.toNat-v) ?_ ?_
 ·apply aI (0:Nat) ⟨Zi _,fun i h=>absurd h (ZP _)⟩
  case hs1=>exact cg
  case ht=>(try simp only [Ze,Zf,Za]);exact .cons .here .nil
 rintro v ⟨hv,hz⟩
 by_cases QH:v<r.lv.toNat
 ·have I3:((v:Nat):Int)<r.lv:=by omega
  (refine Jq<|Jr<|Jv rfl<|bS rfl rfl ae<|JL rfl .here rfl<|JA rfl<|Jn<|Jd rfl fun az=>Jk<|Jq<|J0<|Jr<|Ja rfl<|Jn<|J0 ?_)
  refine aW (ι:=Nat) (fun i=>i≤r.ti.length∧∀ (j:Nat) (hj:j<r.ti.length),j<i→GO r (v:Nat) r.ti[j]=false) (fun i=>[(8,.int .i64 (i:Nat)),(7,.int .i64 (v:Nat)),(1,.pointer (some ⟨b1,0,none⟩))]) (fun _=>[JQ b1 r s d (.slice a3 r.ti.length ee) (.slice a4 r.po.length gi)]) (fun i=>r.ti.length-i) ?_ ?_
  ·apply aI (0:Nat) ⟨Zi _,fun j _ h=>absurd h (ZP _)⟩
   case hs1=>exact cg
   case ht=>(try simp only [Ze,Zf,Za]);exact .cons .here .nil
  rintro i ⟨hi,hy⟩
  by_cases gU:i<r.ti.length
  ·have cG:=tM (fw gU)
   have c0:w.cell? ⟨KU,Ik+i*3,none⟩=some (.string r.ti[i].nm):=(ql i _ (eE gU)).2 0 _ rfl
   have QV:∀ b,GO r (v:Nat) r.ti[i]=b→GO r (v:Nat) r.ti[i]=b:=fun _ h=>h
   unfold GO at QV
   have j9:GO r (v:Nat) r.ti[i]=false→∀ (j:Nat) (hj:j<r.ti.length),j<i+1→GO r (v:Nat) r.ti[j]=false:=fun e j hj nC=>by
    by_cases e2:j=i
    ·subst e2;exact e
    ·exact hy j hj (by omega)
   have Rk:GO r (v:Nat) r.ti[i]=true→jV r (fun v=>r.ti.any (GO r v))=true:=CF I3 gU
   generalize WN:r.ti[i].nm=x at c0
   (refine Jq<|Jr<|Jv rfl<|bS rfl rfl ae<|JL rfl .here rfl<|JI rfl<|JA rfl<|Jn<|Jd rfl fun az=>Jk<|Jq<|J0<|Jq ?_)
   have Uv:=X9 (v:Nat) x
   have SE:=FF r.po (v:Nat) 8 x
   have Uu:GO r (v:Nat) r.ti[i]=decide ((tC r.po (v:Nat) 8 x).length=8):=by unfold GO;rw [WN]
   generalize tC r.po (v:Nat) 8 x=C at Uv SE Uu
   with_reducible refine dL 9 (by kernel_rfl) ?_
   (refine an (fun β=>(bT (.of rfl) .here ak (by rfl))) bz rfl<|an (fun β=>(aN (.of rfl))) bz rfl<|an (fun β=>(au (.of rfl) ae)) bz rfl<|an (fun β=>(ag (.of rfl) (At.lit .here rfl))) bz rfl<|an (fun β=>(aN (.of rfl))) bz rfl<|an (fun β=>(ar (.of rfl) (.of rfl) cG (by omega) az bb)) bz rfl<|an (fun β=>(au (.of rfl) ae)) bz rfl<|an (fun β=>(ag (.of rfl) (At.base c0 rfl))) bz rfl ?_)
   dsimp only [Nat.zero_add,Nat.reduceAdd]
   with_reducible apply dp (ι:=Option Addr×Nat) (Φ:=fun _=>True) (val:=fun z=>.slice z.1 C.length z.2) (own:=fun z=>[row 9 1 (.slice z.1 C.length z.2) C.length (aL C)]) (g:=RJ) (B:=[]) (args:=fun _=>[.agg #[.int .i64 r.lv,.int .i64 r.ma,s,d,.slice a3 r.ti.length ee,.slice a4 r.po.length gi],.int .i64 (v:Nat),.string x,.int .i64 8])
   case hg=>exact DZ
   case hB=>rfl
   case hr=>exact fun β=>aZ (.of rfl) (.cons (.of rfl) (.cons (.of rfl) (.cons (.of rfl) (.cons (.of rfl) .nil)))) inferInstance rfl
   case hd=>rfl
   case hc=>exact fun β w' hb=>Uv w' hb.mem.keeps
   dsimp only [Nat.reduceAdd]
   refine fh fun β=>?_
   dsimp only [ei,Za,Zb,List.append_eq,Nat.reduceAdd]
   generalize RJ (β 8)=y
   obtain ⟨ya,yc⟩:=y
   clear β
   dsimp only
   refine cC (rs:=[9]) (by kernel_rfl) (by simp) (ZA.2 ⟨?_,fun _ h=>absurd h Zp⟩)
   refine cQ rfl ?_
   refine JI rfl<|Jn ?_
   refine cC (rs:=[10]) (by kernel_rfl) (by simp) (ZA.2 ⟨?_,fun _ h=>absurd h Zp⟩)
   refine cQ rfl ?_
   refine JC rfl<|Jn ?_
   with_reducible refine cH (by kernel_rfl) ?_
   (refine Jt<|gm rfl (fun az=>?_) fun az=>?_;refine Jr<|Ja rfl<|Jn<|Je<|Jm<|Jh<|Jh<|Jm<|Jm<|Jh<|Jh<|Jm<|Jh<|JT ?_;rotate_left;refine Jw<|Jj<|Jt<|Jg<|Jv rfl<|JB rfl (by omega)<|Ja rfl<|Jn ?_;rotate_right)
   ·rw [if_pos (Rk (by rw [Uu];exact decide_eq_true (by omega)))]
   apply aK (i+1) ⟨(show i+1≤r.ti.length from gU),j9 (by rw [Uu];exact decide_eq_false (by omega))⟩ (show r.ti.length-(i+1)<r.ti.length-i by omega)
   case hs1=>exact cg
   case ht=>(try simp only [Ze,Zf,Za]);exact .cons (.there .here) .nil
  obtain rfl:i=r.ti.length:=by omega
  clear hi gU
  (refine Jq<|Jr<|Jv rfl<|bS rfl rfl ae<|JL rfl .here rfl<|JI rfl<|JA rfl<|Jn<|Jc rfl fun az=>Jp<|Jl<|Jo<|Jj<|Jt<|Jg<|Jv rfl<|JB rfl (by omega)<|Ja rfl<|Jn ?_)
  apply aK (v+1) ⟨(show v+1≤r.lv.toNat from QH),fun u hu j hj=>by
   by_cases e2:u=v
   ·subst e2;exact hy j hj hj
   ·exact hz u (by omega) j hj⟩ (show r.lv.toNat-(v+1)<r.lv.toNat-v by omega)
  case hs1=>exact cg
  case ht=>(try simp only [Ze,Zf,Za]);exact .cons .here .nil
 obtain rfl:v=r.lv.toNat:=by omega
 have aR:jV r (fun v=>r.ti.any (GO r v))=false:=yP hz
 clear hv QH hz
 (refine Jq<|Jr<|Jv rfl<|bS rfl rfl ae<|JL rfl .here rfl<|JA rfl<|Jn<|Jc rfl fun az=>Jp<|Jl<|Jo<|Jt<|Jq<|Jr<|Ja rfl<|Jn<|J0 ?_)
 rw [if_neg (by rw [aR];decide)]
 refine aW (ι:=Nat) (fun v=>v≤r.lv.toNat∧∀ u,u<v→∀ (i:Nat) (hi:i<r.ti.length),EW r (u:Nat) r.ti[i]=false) (fun v=>[(9,.int .i64 (v:Nat)),(1,.pointer (some ⟨b1,0,none⟩))]) (fun _=>[JQ b1 r s d (.slice a3 r.ti.length ee) (.slice a4 r.po.length gi)]) (fun v=>r.lv.toNat-v) ?_ ?_
 ·apply aI (0:Nat) ⟨Zi _,fun i h=>absurd h (ZP _)⟩
  case hs1=>exact cg
  case ht=>(try simp only [Ze,Zf,Za]);exact .cons .here .nil
 rintro v ⟨hv,hz⟩
 by_cases QH:v<r.lv.toNat
 ·have I3:((v:Nat):Int)<r.lv:=by omega
  (refine Jq<|Jr<|Jv rfl<|bS rfl rfl ae<|JL rfl .here rfl<|JA rfl<|Jn<|Jd rfl fun az=>Jk<|Jq<|J0<|Jr<|Ja rfl<|Jn<|J0 ?_)
  refine aW (ι:=Nat) (fun i=>i≤r.ti.length∧∀ (j:Nat) (hj:j<r.ti.length),j<i→EW r (v:Nat) r.ti[j]=false) (fun i=>[(10,.int .i64 (i:Nat)),(9,.int .i64 (v:Nat)),(1,.pointer (some ⟨b1,0,none⟩))]) (fun _=>[JQ b1 r s d (.slice a3 r.ti.length ee) (.slice a4 r.po.length gi)]) (fun i=>r.ti.length-i) ?_ ?_
  ·apply aI (0:Nat) ⟨Zi _,fun j _ h=>absurd h (ZP _)⟩
   case hs1=>exact cg
   case ht=>(try simp only [Ze,Zf,Za]);exact .cons .here .nil
  rintro i ⟨hi,hy⟩
  by_cases gU:i<r.ti.length
  ·have cG:=tM (fw gU)
   have c0:w.cell? ⟨KU,Ik+i*3,none⟩=some (.string r.ti[i].nm):=(ql i _ (eE gU)).2 0 _ rfl
   have QV:∀ b,EW r (v:Nat) r.ti[i]=b→EW r (v:Nat) r.ti[i]=b:=fun _ h=>h
   unfold EW at QV
   have j9:EW r (v:Nat) r.ti[i]=false→∀ (j:Nat) (hj:j<r.ti.length),j<i+1→EW r (v:Nat) r.ti[j]=false:=fun e j hj nC=>by
    by_cases e2:j=i
    ·subst e2;exact e
    ·exact hy j hj (by omega)
   have Rk:EW r (v:Nat) r.ti[i]=true→jV r (fun v=>r.ti.any (EW r v))=true:=CF I3 gU
   generalize WN:r.ti[i].nm=x at c0
   (refine Jq<|Jr<|Jv rfl<|bS rfl rfl ae<|JL rfl .here rfl<|JI rfl<|JA rfl<|Jn<|Jd rfl fun az=>Jk<|Jq<|J0<|Jr<|bS rfl rfl ae<|JL rfl .here rfl<|Jv rfl<|ab (fM cG az) rfl<|bS rfl rfl ae<|ab (ag (.of rfl) (At.base c0 rfl)) rfl<|Ja rfl<|Jn<|Jq ?_)
   have Xl:EW r (v:Nat) r.ti[i]=(nH r.po (v:Nat) x != !decide ((ek r.po (v:Nat) x).getD ⟨#[]⟩=⟨#[]⟩)):=by unfold EW;rw [WN]
   have T6:EW r (v:Nat) r.ti[i]=(nH r.po (v:Nat) x != decide ((ek r.po (v:Nat) x).getD ⟨#[]⟩≠⟨#[]⟩)):=by rw [Xl,decide_not]
   with_reducible refine dE 9 (by kernel_rfl) ?_
   (refine aF (cR .here) rfl<|ju rfl rfl<|ju rfl rfl<|fI eM rfl (fun w' aA=>(WQ _ x (Mem.keeps aA)))<|aF (cR .here) rfl<|ju rfl rfl<|ju rfl rfl<|fI eM rfl (fun w' aA=>(Ny _ x (Mem.keeps aA)))<|aF (eZ (.of rfl) (.of rfl)) rfl ?_)
   with_reducible refine dI ?_
   skip
   refine ab (Bw (.of rfl) (.of rfl)) rfl ?_
   (refine Jn<|pt rfl (fun az=>?_) fun az=>?_;refine Jr<|Ja rfl<|Jn<|Je<|Jm<|Jh<|Jh<|Jm<|Jm<|Jh<|Jh<|Jm<|Jh<|JT ?_;rotate_left;refine Jw<|Jj<|Jt<|Jg<|Jv rfl<|JB rfl (by omega)<|Ja rfl<|Jn ?_;rotate_right)
   ·rw [if_pos (Rk (by rw [T6];exact az))]
   apply aK (i+1) ⟨(show i+1≤r.ti.length from gU),j9 (by rw [T6];exact az)⟩ (show r.ti.length-(i+1)<r.ti.length-i by omega)
   case hs1=>exact cg
   case ht=>(try simp only [Ze,Zf,Za]);exact .cons .here .nil
  obtain rfl:i=r.ti.length:=by omega
  clear hi gU
  (refine Jq<|Jr<|Jv rfl<|bS rfl rfl ae<|JL rfl .here rfl<|JI rfl<|JA rfl<|Jn<|Jc rfl fun az=>Jp<|Jl<|Jo<|Jj<|Jt<|Jg<|Jv rfl<|JB rfl (by omega)<|Ja rfl<|Jn ?_)
  apply aK (v+1) ⟨(show v+1≤r.lv.toNat from QH),fun u hu j hj=>by
   by_cases e2:u=v
   ·subst e2;exact hy j hj hj
   ·exact hz u (by omega) j hj⟩ (show r.lv.toNat-(v+1)<r.lv.toNat-v by omega)
  case hs1=>exact cg
  case ht=>(try simp only [Ze,Zf,Za]);exact .cons .here .nil
 obtain rfl:v=r.lv.toNat:=by omega
 have ml:jV r (fun v=>r.ti.any (EW r v))=false:=yP hz
 clear hv QH hz
 (refine Jq<|Jr<|Jv rfl<|bS rfl rfl ae<|JL rfl .here rfl<|JA rfl<|Jn<|Jc rfl fun az=>Jp<|Jl<|Jo<|Jt<|Jr<|Ja rfl<|Jn<|Je<|JT ?_)
 rw [if_neg (by rw [ml];decide)]
theorem pQ {r:Ro} {s d t p:Value} {w:World} (h:RR w r s d t p) (hf:mn r):aj Tryz.prog 25 [RA r s d t p] w (.int .i64 (fX r)):=by
 have h1:=Rd.one h.sr
 have h2:=Rd.one h.de
 have h3:=Rd.one h.ti
 have h4:=Rd.one h.po
 have hcp:∀ {w'},aJ [] w w'→aj Tryz.prog 127 [.agg #[.int .i64 r.lv,.int .i64 r.ma,s,d,t,p]] w' (.int .i64 (jQ r)):=fun hk=>Ao (h.keeps hk) hf
 have X4:nj r=0→∀ {w'},aJ [] w w'→aj Tryz.prog 128 [.agg #[.int .i64 r.lv,.int .i64 r.ma,s,d,t,p]] w' (.int .i64 (zC r)):=fun e _ hk=>xk (h.keeps hk) hf ⟨(vh e).1,(vh e).2.1⟩
 rw [← R5]
 unfold RA YF
 refine ah Tryz.func25 rfl rfl ?_
 refine Jr<|Jy rfl rfl fun _ _=>Ja rfl<|Jn<|Jq<|Jq ?_
 with_reducible refine cZ 7 (by kernel_rfl) ?_
 (refine ao kZ rfl<|ao (gT .here) rfl<|aY eM rfl (fun w' aA=>(zA _ 1 3 w'))<|ao kZ rfl<|ao (gT .here) rfl<|aY eM rfl (fun w' aA=>(zA _ 1 4 w'))<|eB (aC (.cons (.of rfl) (.cons (.of rfl) .nil)) rfl rfl rfl rfl) rfl rfl ?_)
 with_reducible refine dB rfl fun bq nq=>?_
 refine ai bN rfl (fun w' aA=>lq (Mem.dw aA .here rfl rfl) (bY.cons (bY.cons bY.nil))) ?_
 have hlE:nj r=aX [gp r.lv 1 3,gp r.ma 1 4]:=rfl
 rw [← hlE]
 (refine Ja rfl<|Ji<|Jv rfl<|JD rfl<|Jn<|gm rfl (fun az=>?_) fun az=>?_;refine Jr<|Jv rfl<|Ja rfl<|Jn<|Ju<|JT ?_;rotate_left;refine Jk<|Jq<|Jr<|ab (cR (.there .here)) rfl ?_;rotate_right)
 ·rw [if_pos az]
 have hl:nj r=0:=Zo.1 az
 have SI:=fun {w'}=>X4 hl (w':=w')
 rw [if_neg (not_not_intro hl)]
 (refine ai bN rfl (fun w' aA=>(hcp (Mem.keeps aA)))<|Ja rfl<|Ji<|Jv rfl<|JD rfl<|Jn<|gm rfl (fun az=>?_) fun az=>?_;refine Jr<|Jv rfl<|Ja rfl<|Jn<|Ju<|JT ?_;rotate_left;refine Jk<|Jr<|ab (cR (.there .here)) rfl<|ai bN rfl (fun w' aA=>(SI (Mem.keeps aA)))<|Ja rfl<|Jn<|Je<|JT ?_;rotate_right)
 ·rw [if_pos az]
 rw [if_neg az]
def tI (l:List ByteArray):Bool:=l.all fun s=>decide (s.size≤40)
theorem Bi {lv:Value} {l:List ByteArray} {w:World} (h:Rd w lv 1 (im l)):aj Tryz.prog 69 [lv] w (.bool (tI l)):=by
 obtain ⟨a,cp,b,o',rfl,dj,bV,ha,hc⟩:=h
 rw [bW] at *
 unfold maxLen at bV
 refine ah Tryz.func69 rfl rfl ?_
 refine Jr<|Ja rfl<|Jn<|Jq<|Jr<|Ja rfl<|Jn<|J0 ?_
 refine aW (ι:=Nat) (fun k=>k≤l.length∧∀ j (hj:j<l.length),j<k→l[j].size≤40) (fun k=>[(3,.int .i64 (k:Nat)),(0,.slice a l.length cp)]) (fun _=>[]) (fun k=>l.length-k) ?_ ?_
 ·apply aI (0:Nat) ⟨Zi _,fun j _ hj=>absurd hj (ZP _)⟩
  case hs1=>exact cg
  case ht=>(try simp only [Ze,Zf,Za]);exact .nil
 rintro k ⟨hk,hf⟩
 by_cases aM:k<l.length
 ·have cG:=ha (lf aM)
  have c0:w.cell? ⟨b,o'+k*1,none⟩=some (.string l[k]):=(hc k _ (ji aM)).2 0 _ rfl
  have hm:=Zj aM
  have wy:l[k].size≤40→∀ j (hj:j<l.length),j<k+1→l[j].size≤40:=fun q j hj LA=>by
   by_cases e:j=k
   ·subst e;exact q
   ·exact hf j hj (by omega)
  generalize l[k]=x at c0 hm wy
  (refine Jq<|Jr<|Jv rfl<|Jv rfl<|JI rfl<|JA rfl<|Jn<|Jd rfl fun az=>Jk<|Jq<|J0<|Jr<|Jv rfl<|Jv rfl<|ab (fM cG az) rfl<|ab (ag (.of rfl) (At.base c0 rfl)) rfl<|ab (fK (.of rfl)) rfl<|JE rfl<|Jn<|gm rfl (fun az=>?_) fun az=>?_;refine Jr<|Ja rfl<|Jn<|Je<|Jm<|Jh<|Jh<|Jm<|Jh<|JT ?_;rotate_left;refine Jw<|Jj<|Jt<|Jg<|Jv rfl<|JB rfl (by omega)<|Ja rfl<|Jn ?_;rotate_right)
  ·have tr:(40:Int)<(x.size:Nat):=az
   have e:tI l=false:=List.all_eq_false.2 ⟨x,hm,by simp;omega⟩
   rw [e]
  ·have tr:¬ (40:Int)<(x.size:Nat):=az
   apply aK (k+1) ⟨(show k+1≤l.length from aM),wy (by omega)⟩ (show l.length-(k+1)<l.length-k by omega)
   case hs1=>exact cg
   case ht=>(try simp only [Ze,Zf,Za]);exact .nil
 ·have e:tI l=true:=Zaa.2 fun x hx=>by
   obtain ⟨j,hj,rfl⟩:=Zu hx
   exact decide_eq_true (hf j hj (by omega))
  obtain rfl:k=l.length:=by omega
  rw [e]
  refine Jq<|Jr<|Jv rfl<|Jv rfl<|JI rfl<|JA rfl<|Jn<|Jc rfl fun az=>Jp<|Jl<|Jo<|Jt<|Jr<|Ja rfl<|Jn<|Je<|JT ?_
  rfl
def poN (p:Po):List ByteArray:=[p.ou,p.ip]
def Bk (r:Ro) (k:Nat):List ByteArray:=ef r++((r.po.take k).map poN).flatten
def wM (r:Ro):Bool:=decide (r.sr.length≤10)&&decide (r.de.length≤10)&&decide (r.ti.length≤10)&&decide (r.po.length≤48)
def r5 (r:Ro):Bool:=wM r&&tI (Bk r r.po.length)
theorem xT {r:Ro} {k:Nat} (h:k<r.po.length):Bk r (k+1)=Bk r k++[r.po[k].ou,r.po[k].ip]:=by
 unfold Bk
 rw [Zn h,Zs,Zac,Zh]
 rfl
theorem qV {r:Ro} (h:wM r=true):r.sr.length≤10∧r.de.length≤10∧r.ti.length≤10∧r.po.length≤48:=by
 unfold wM at h
 simp only [Zm,decide_eq_true_eq] at h
 exact ⟨h.1.1.1,h.1.1.2,h.1.2,h.2⟩
theorem uN {r:Ro} (h:wM r=true):mn r:=by
 have:=qV h
 exact ⟨by omega,by omega,by omega,by omega⟩
theorem HM {r:Ro} (h:wM r=true):lD r:=by
 have:=qV h
 exact ⟨by omega,by omega,by omega⟩
theorem Bj (r:Ro):∀ k,k≤r.po.length→(Bk r k).length=(ef r).length+2*k
 | 0,_=>by unfold Bk;simp
 | k+1,h=>by rw [xT (by omega),Zg,Bj r k (by omega)];simp;omega
theorem Mo {r:Ro} {s d t p:Value} {w:World} (h:RR w r s d t p):aj Tryz.prog 18 [RA r s d t p] w (.bool (r5 r)):=by
 have h1:=Rd.one h.sr
 have h2:=Rd.one h.de
 have h3:=Rd.one h.ti
 have h4:=Rd.one h.po
 have Xp:wM r=true→∀ w',aJ [] w w'→bu Tryz.prog 77 [.agg #[.int .i64 r.lv,.int .i64 r.ma,s,d,t,p]] w' [] (fun _:Value=>True) id (fun x=>[row 9 1 x (ef r).length (aL (ef r))]):=fun e w' hk=>EZ (h.keeps hk) (uN e)
 have Gv:=h.sr
 have GD:=h.de
 have JM:=h.po
 have B0:=h.ti
 obtain ⟨a1,er,Pt,OG,rfl,pM,jf,lW,kF⟩:=Gv
 obtain ⟨a2,dA,Ps,OF,rfl,kE,fk,jD,jS⟩:=GD
 obtain ⟨a3,ee,KU,Ik,rfl,nD,gG,tM,ql⟩:=B0
 obtain ⟨a4,gi,Vd,Qk,rfl,yD,mG,G4,Ac⟩:=JM
 rw [cO] at *
 rw [cn] at *
 rw [cd] at *
 rw [c6] at *
 unfold maxLen at jf fk gG mG
 unfold RA
 refine ah Tryz.func18 rfl rfl ?_
 (refine Jr<|Jy rfl rfl fun _ _=>Ja rfl<|Jn<|Jq<|Jr<|bS rfl rfl ae<|JL rfl .here rfl<|JI rfl<|JE rfl<|Jv rfl<|aD rfl rfl inferInstance (fun hg bA=>(au (.of rfl) ae)) rfl<|aD rfl rfl inferInstance (fun hg bA=>(ag (.bI hg rfl) (At.lit .here rfl))) rfl<|aD rfl rfl inferInstance (fun hg bA=>(bJ (.bI hg rfl))) rfl<|aD rfl rfl inferInstance (fun hg bA=>(km (.bI hg rfl) (.of rfl))) rfl<|ab (a7 (.of rfl) rfl) rfl<|Jv rfl<|aD rfl rfl inferInstance (fun hg bA=>(au (.of rfl) ae)) rfl<|aD rfl rfl inferInstance (fun hg bA=>(ag (.bI hg rfl) (At.lit .here rfl))) rfl<|aD rfl rfl inferInstance (fun hg bA=>(bJ (.bI hg rfl))) rfl<|aD rfl rfl inferInstance (fun hg bA=>(km (.bI hg rfl) (.of rfl))) rfl<|ab (a7 (.of rfl) rfl) rfl<|Jv rfl<|aD rfl rfl inferInstance (fun hg bA=>(au (.of rfl) ae)) rfl<|aD rfl rfl inferInstance (fun hg bA=>(ag (.bI hg rfl) (At.lit .here rfl))) rfl<|aD rfl rfl inferInstance (fun hg bA=>(bJ (.bI hg rfl))) rfl<|aD rfl rfl inferInstance (fun hg bA=>(km (.bI hg rfl) (.of rfl))) rfl<|ab (a7 (.of rfl) rfl) rfl<|Jn<|pt rfl (fun az=>?_) fun az=>?_;refine Jr<|Ja rfl<|Jn<|Ju<|JT ?_;rotate_left;refine Jk<|Jr<|ab (cR .here) rfl ?_;rotate_right)
 ·have e:r5 r=false:=by
   unfold r5
   have e2:wM r=false:=by
    rw [← Zau]
    intro q
    have:=qV q
    omega
   rw [e2];rfl
  rw [e]
 have hA:wM r=true:=by
  unfold wM
  simp only [Zm,decide_eq_true_eq]
  omega
 obtain ⟨f1,f2,f3,f4⟩:=qV hA
 have CP:=Xp hA
 clear az
 rename_i b1 tw
 have DR:(ef r).length≤30:=by
  unfold ef cF cq cM
  simp only [Zg,Zd]
  omega
 refine JN bN rfl (fun w1 aR=>CP w1 aR.keeps) ?_
 intro x _
 dsimp only [id_eq,Zb,Za]
 refine Ja rfl<|Jn<|Jq<|Jr<|Ja rfl<|Jn<|J0 ?_
 refine aW (ι:=Nat×Value×List ByteArray) (fun y=>y.1≤r.po.length∧y.2.2=Bk r y.1) (fun y=>[(4,.int .i64 (y.1:Nat)),(3,y.2.1),(1,.pointer (some ⟨b1,0,none⟩))]) (fun y=>[row 9 1 y.2.1 y.2.2.length (aL y.2.2),JQ b1 r (.slice a1 r.sr.length er) (.slice a2 r.de.length dA) (.slice a3 r.ti.length ee) (.slice a4 r.po.length gi)]) (fun y=>r.po.length-y.1) ?_ ?_
 ·apply aI (0,x,ef r) ⟨Zi _,by unfold Bk;simp⟩
  case hs1=>exact cg
  case ht=>
   exact .cons .here (.cons .here .nil)
 rintro ⟨k,v',L⟩ ⟨hk,hL⟩
 dsimp only at hk hL ⊢
 have Fi:L.length=(ef r).length+2*k:=by rw [hL,Bj r k hk]
 have hlen:(aL L).length=L.length*1:=by rw [c7];omega
 by_cases aM:k<r.po.length
 ·have cG:=G4 (ko aM)
  obtain ⟨gR,aB⟩:=Ac k _ (iy aM)
  unfold Po.cells at aB
  have c1:=aB 1 _ rfl
  have c2:=aB 2 _ rfl
  have j9:=xT (r:=r) aM
  rw [← hL] at j9
  generalize r.po[k]=q at aB c1 c2 j9
  (refine Jq<|Jr<|Jv rfl<|bS rfl rfl ae<|JL rfl (.there .here) rfl<|JI rfl<|JA rfl<|Jn<|Jd rfl fun az=>Jk<|Jq<|J0 ?_)
  with_reducible refine cZ 14 (by kernel_rfl) ?_
  (refine ao l7 rfl<|ao kZ rfl<|ao (gT (.there .here)) rfl<|ao l7 rfl<|ao (fM cG az) rfl<|ao kZ rfl<|ao (ag (.of rfl) (At.base c1 rfl)) rfl<|ao kZ rfl<|ao (gT (.there .here)) rfl<|ao l7 rfl<|ao (fM cG az) rfl<|ao kZ rfl<|ao (ag (.of rfl) (At.base c2 rfl)) rfl<|eB (aC (.cons (.of rfl) (.cons (.of rfl) .nil)) rfl rfl rfl rfl) rfl rfl ?_)
  with_reducible refine dB rfl fun bq nq=>?_
  refine bF (.of rfl) (.of rfl) (.there .here) .here ak (by rfl) (fY rfl rfl) (by rfl) (by rfl) (by rfl) eC (by rfl) ?_
  intro z
  refine Ja rfl<|Jx<|Jj<|Jt<|Jg<|Jv rfl<|JB rfl (by omega)<|Ja rfl<|Jn ?_
  apply aK (k+1,z,L++[q.ou,q.ip]) ⟨(show k+1≤r.po.length from aM),j9.symm⟩ (by show r.po.length-(k+1)<r.po.length-k;omega)
  case hs1=>exact cg
  case ht=>
   show bD _ [row 9 1 z (L++[q.ou,q.ip]).length (aL (L++[q.ou,q.ip])),JQ b1 r (.slice a1 r.sr.length er) (.slice a2 r.de.length dA) (.slice a3 r.ti.length ee) (.slice a4 r.po.length gi)] _
   rw [show aL (L++[q.ou,q.ip])=aL L++[.string q.ou,.string q.ip] from eU _ _,Zg,show [q.ou,q.ip].length=2 from rfl]
   exact .cons .here (.cons (.there .here) .nil)
 obtain rfl:k=r.po.length:=by omega
 clear hk aM
 have e:r5 r=tI L:=by unfold r5;rw [hA,← hL];rfl
 rw [e]
 (refine Jq<|Jr<|Jv rfl<|bS rfl rfl ae<|JL rfl (.there .here) rfl<|JI rfl<|JA rfl<|Jn<|Jc rfl fun az=>Jp<|Jl<|Jo<|Jt<|Jr<|Jv rfl ?_)
 refine ai bN rfl (fun w' aA=>Bi (dM aA (by exact .here) rfl)) ?_
 refine Ja rfl<|Jn<|Je<|JT ?_
 rfl
theorem jT {l:List Int}:aX (0::l)=aX l:=by
 conv=>lhs;unfold aX
 rw [if_neg (by decide)]
theorem D7 (a:Int):aX [a]=a:=by
 unfold aX
 split
 ·rfl
 ·rename_i q;rw [Zo] at q;rw [q];rfl
theorem D5 {a:Int} {l:List Int} (h:a≠0):aX (a::l)=a:=by unfold aX;rw [if_pos h]












theorem vi {α:Type} (L:List α) (x:α):L.length+1=(L++[x]).length:=by simp

end Go.Proofs.A1
namespace Go.SL
open Go
section
variable {P:Program} {c:Cx} {D:List Nat} {sl:aH} {hs:List bd} {X:Act→World→Prop}
end
end Go.SL
namespace Go.Proofs.A1
open Go Go.SL

theorem rW (l:List fu) {i:Nat} (h:i<l.length):(iF l)[i]? = some [.string l[i].tk.de,l[i].v]:=jy h
noncomputable def Yy {ι:Type} (f:ι→Value) (d:ι) (v:Value):ι:=open Classical in if h:∃ x,f x=v then h.choose else d
theorem RN {ι:Type} {f:ι→Value} (hi:∀ x y,f x=f y→x=y) (d x:ι):∃ v,Yy f d v=x:=⟨f x,by
 have h:∃ y,f y=f x:=⟨x,rfl⟩
 unfold Yy
 rw [dif_pos h]
 exact hi _ _ h.choose_spec⟩

theorem S5 {r:Ro} {l:List Tk} {k:Nat} (h:k<l.length) (e:ph r l[k].de≠0):wJ r l k=ph r l[k].de:=by rw [pU h,D5 e]
theorem S4 {r:Ro} {l:List Tk} {k:Nat} (h:k<l.length) (e:ph r l[k].de=0) {j:Nat} (hj:j<k) (e2:(l[j]'(by omega)).de=l[k].de):wJ r l k=9:=by
 rw [pU h,e,jT]
 have:((l.take k).any fun y=>decide (y.de=l[k].de))=true:=ZM.2 ⟨l[j]'(by omega),List.mem_take_iff_getElem.2 ⟨j,by omega,rfl⟩,decide_eq_true e2⟩
 rw [this]
 exact D5 (by decide)
theorem C9 {l:List Tk} {k:Nat} {de:ByteArray} (hk:k≤l.length) (h:∀ j (hj:j<k),(l[j]'(by omega)).de≠de):((l.take k).any fun y=>decide (y.de=de))=false:=by
 rw [Z9]
 intro y hy
 obtain ⟨j,hj,rfl⟩:=List.mem_take_iff_getElem.1 hy
 simpa using h j (by omega)
theorem S3 {r:Ro} {l:List Tk} {k:Nat} (h:k<l.length) (e:ph r l[k].de=0) (e2:∀ j (hj:j<k),(l[j]'(by omega)).de≠l[k].de) (e3:(l[k].so.length:Int)≠r.lv):wJ r l k=2:=by
 rw [pU h,e,jT,C9 (by omega) e2]
 show aX (0::_)=2
 rw [jT,decide_eq_true e3]
 exact D5 (by decide)
theorem S2 {r:Ro} {l:List Tk} {k:Nat} (h:k<l.length) (e:ph r l[k].de=0) (e2:∀ j (hj:j<k),(l[j]'(by omega)).de≠l[k].de) (e3:(l[k].so.length:Int)=r.lv) {j:Nat} (hj:j<l[k].so.length) (e4:jd r l[k].so[j]=true):wJ r l k=10:=by
 rw [pU h,e,jT,C9 (by omega) e2]
 show aX (0::_)=10
 rw [jT,decide_eq_false (not_not_intro e3)]
 show aX (0::_)=10
 rw [jT,ZM.2 ⟨_,Zj hj,e4⟩]
 rfl
theorem S1 {r:Ro} {l:List Tk} {k:Nat} (h:k<l.length) (e:ph r l[k].de=0) (e2:∀ j (hj:j<k),(l[j]'(by omega)).de≠l[k].de) (e3:(l[k].so.length:Int)=r.lv) (e4:∀ j (hj:j<l[k].so.length),jd r l[k].so[j]=false):wJ r l k=0:=by
 rw [pU h,e,jT,C9 (by omega) e2]
 show aX (0::_)=0
 rw [jT,decide_eq_false (not_not_intro e3)]
 show aX (0::_)=0
 rw [jT]
 have:l[k].so.any (jd r)=false:=by
  rw [Z9]
  intro y hy
  obtain ⟨j,hj,rfl⟩:=Zu hy
  rw [e4 j hj];decide
 rw [this];rfl
set_option maxHeartbeats 2000000 in
theorem An {r:Ro} {s d t p kv:Value} {l:List fu} {w:World} (h:RR w r s d t p) (hw:Rd w kv 2 (iF l)) (hM:sR w l):aj Tryz.prog 49 [RA r s d t p,kv] w (.int .i64 (tH r (cr l))):=by
 have h1:=Rd.one h.sr
 have h2:=Rd.one h.de
 have h3:=Rd.one h.ti
 have h4:=Rd.one h.po
 obtain ⟨a,cp,b,o,rfl,dj,bV,ha,hc⟩:=hw
 rw [du] at *
 unfold maxLen at bV
 have qh:(cr l).length=l.length:=Zd _
 have Yb:∀ (o:ByteArray) {w'},aJ [] w w'→aj Tryz.prog 26 [.agg #[.int .i64 r.lv,.int .i64 r.ma,s,d,t,p],.string o] w' (.int .i64 (ph r o)):=fun o _ hk=>Ee o (h.keeps hk)
 have Uq:∀ (o:ByteArray) {w'},aJ [] w w'→aj Tryz.prog 130 [.agg #[.int .i64 r.lv,.int .i64 r.ma,s,d,t,p],.string o] w' (.int .i64 (bE (cF r) o)):=fun o _ hk=>Fw o (h.keeps hk)
 unfold RA
 refine ah Tryz.func49 rfl rfl ?_
 (refine Jr<|Jy rfl rfl fun _ _=>Ja rfl<|Jn<|Jq<|Jr<|Jv rfl<|JI rfl<|JC rfl<|ai bj rfl (fun w' aA=>(k6 _ 12 w'))<|Jv rfl<|JI rfl<|JE rfl<|ai bj rfl (fun w' aA=>(k6 _ 5 w'))<|br (aC (.cons (.of rfl) (.cons (.of rfl) .nil)) rfl rfl rfl rfl) rfl fun _ _=>ai bN rfl (fun w' aA=>(lq (Mem.dw aA .here rfl rfl) (bY.cons (bY.cons bY.nil))))<|Ja rfl<|Ji<|Jv rfl<|JD rfl<|Jn<|gm rfl (fun az=>?_) fun az=>?_;refine Jr<|Jv rfl<|Ja rfl<|Jn<|Ju<|JT ?_;rotate_left;refine Jk<|Jq<|Jr<|Ja rfl<|Jn<|J0 ?_;rotate_right)
 ·have e1:tH r (cr l)=Db (cr l):=if_pos (by unfold Db;rw [qh];exact az)
  rw [e1];unfold Db;rw [qh]
 have Kl:Db (cr l)=0:=by unfold Db;rw [qh];exact Zo.1 az
 have hX:tH r (cr l)=jE (wJ r (cr l)) l.length:=by unfold tH;rw [if_neg (by rw [Kl];decide),qh]
 clear az
 rename_i b2 tL bq nq
 refine aW (fun k:Nat=>k≤l.length∧∀ i,i<k→wJ r (cr l) i=0) (fun k=>[(6,.int .i64 (k:Nat)),(1,.slice a l.length cp),(2,.pointer (some ⟨b2,0,none⟩))])
  (fun k=>[JQ b2 r s d t p]) (fun k=>l.length-k) ?_ ?_
 ·with_reducible apply aI (0:Nat) ⟨Zi _,fun i hi=>absurd hi (ZP _)⟩
  case hs1=>exact cg
  case ht=>exact l6
 rintro k ⟨hk,hf⟩
 by_cases aM:k<l.length
 ·have cG:=ha (jk aM)
  have aB:=(hc k _ (rW l aM)).2
  have nn:k<(cr l).length:=by omega
  have Rl:∀ j (hj:j<l.length),(cr l)[j]'(by omega)=l[j].tk:=fun j hj=>Z1 _
  have g1:=S5 (r:=r) nn
  have g2:=S4 (r:=r) nn
  have g3:=S3 (r:=r) nn
  have g4:=S2 (r:=r) nn
  have g5:=S1 (r:=r) nn
  have hB:wJ r (cr l) k≠0→tH r (cr l)=wJ r (cr l) k:=fun e=>hX.trans (eW hf aM e)
  have j9:wJ r (cr l) k=0→∀ i,i<k+1→wJ r (cr l) i=0:=fun e i hi=>by
   by_cases e2:i=k
   ·rw [e2];exact e
   ·exact hf i (by omega)
  have Ce:=hM _ (Zj aM)
  have XZ:∀ j (hj:j<k),w.cell? ⟨b,o+j*2,none⟩=some (.string ((cr l)[j]'(by omega)).de):=fun j hj=>by
   rw [Rl j (by omega)]
   exact (hc j _ (rW l (by omega))).2 0 _ rfl
  rw [Rl k aM] at g1 g2 g3 g4 g5
  generalize l[k]=x at aB Ce g1 g2 g3 g4 g5
  obtain ⟨⟨xd,xs⟩,xv⟩:=x
  dsimp only at aB Ce g1 g2 g3 g4 g5
  obtain ⟨ax,cx,bx,ox,rfl,O3,B1,Yl,X2⟩:=Ce
  rw [bW] at *
  unfold maxLen at B1
  have c0:w.cell? ⟨b,o+k*2,none⟩=some (.string xd):=aB 0 _ rfl
  have c1:w.cell? ⟨b,o+k*2+1,none⟩=some (.slice ax xs.length cx):=aB 1 _ rfl
  have Ya:=fun {w'}=>Yb xd (w':=w')
  refine Jq<|Jr<|Jv rfl<|Jv rfl<|JI rfl<|JA rfl<|Jn<|Jd rfl fun az=>Jk<|Jq<|J0<|Jq<|Jq ?_
  with_reducible refine dE 8 (by kernel_rfl) ?_
  (refine aF (cR .here) rfl<|ju rfl rfl<|ju rfl rfl<|aF (fM cG az) rfl<|nF rfl rfl ae<|aF (ag (.of rfl) (At.base c0 rfl)) rfl<|fI bj rfl (fun w' aA=>(Ya (Mem.keeps aA)))<|aF (cB (.of rfl)) rfl ?_)
  with_reducible refine dI ?_
  (refine Ji<|Jv rfl<|JD rfl<|Jn<|gm rfl (fun az=>?_) fun az=>?_;refine Jr<|Jv rfl<|Ja rfl<|Jn<|Ju<|Jm<|Jh<|Jh<|Jm<|Jh<|JT ?_;rotate_left;refine Jk<|Jq<|Jr<|Ja rfl<|Jn<|J0 ?_;rotate_right)
  ·rw [hB (by rw [g1 az];exact az),g1 az]
  have e0:ph r xd=0:=Zo.1 az
  clear az
  refine aW (fun j:Nat=>j≤k∧∀ i (hi:i<k),i<j→((cr l)[i]'(by omega)).de≠xd) (fun j=>[(8,.int .i64 (j:Nat)),(6,.int .i64 (k:Nat)),(1,.slice a l.length cp),(2,.pointer (some ⟨b2,0,none⟩))])
   (fun _=>[JQ b2 r s d t p]) (fun j=>k-j) ?_ ?_
  ·with_reducible apply aI (0:Nat) ⟨Zi _,fun i _ hi=>absurd hi (ZP _)⟩
   case hs1=>exact cg
   case ht=>exact l6
  rintro j ⟨hj,qM⟩
  by_cases LA:j<k
  ·have cj:=XZ j LA
   have Kd:=g2 e0 LA
   have sx:((cr l)[j]'(by omega)).de≠xd→∀ i (hi:i<k),i<j+1→((cr l)[i]'(by omega)).de≠xd:=fun q i hi wY=>by
    by_cases e:i=j
    ·subst e;exact q
    ·exact qM i hi (by omega)
   generalize ((cr l)[j]'(by omega)).de=yd at cj Kd sx
   refine Jq<|Jr<|Jv rfl<|Jv rfl<|JA rfl<|Jn<|Jd rfl fun az=>Jk<|Jq<|J0<|Jq ?_
   with_reducible refine dE 11 (by kernel_rfl) ?_
   (refine ju rfl rfl<|ju rfl rfl<|aF (ar (.of rfl) (.of rfl) cG (by omega) (by omega) bb) rfl<|nF rfl rfl ae<|aF (ag (.of rfl) (At.base cj rfl)) rfl<|ju rfl rfl<|ju rfl rfl<|aF (ar (.of rfl) (.of rfl) cG (by omega) (by assumption) bb) rfl<|nF rfl rfl ae<|aF (ag (.of rfl) (At.base c0 rfl)) rfl<|aF (dG (.of rfl) (.of rfl)) rfl ?_)
   with_reducible refine dI ?_
   (refine Jn<|gm rfl (fun az=>?_) fun az=>?_;refine Jr<|Ja rfl<|Jn<|Je<|Jm<|Jh<|Jh<|Jm<|Jh<|Jm<|Jh<|Jh<|Jm<|Jh<|JT ?_;rotate_left;refine Jw<|Jj<|Jt<|Jg<|Jv rfl<|JB rfl (by omega)<|Ja rfl<|Jn ?_;rotate_right)
   ·have e9:=Kd az
    rw [hB (by rw [e9];decide),e9]
   with_reducible apply aK (j+1) ⟨Zax LA,sx az⟩ (show k-(j+1)<k-j by omega)
   case hs1=>exact cg
   case ht=>exact l6
  have ejk:j=k:=by omega
  subst ejk
  have Q7:∀ i (hi:i<j),((cr l)[i]'(by omega)).de≠xd:=fun i hi=>qM i hi hi
  clear qM LA hj
  refine Jq<|Jr<|Jv rfl<|Jv rfl<|JA rfl<|Jn<|Jc rfl fun az=>Jp<|Jl<|Jo<|Jt<|Jq<|Jq ?_
  with_reducible refine dE 9 (by kernel_rfl) ?_
  (refine ju rfl rfl<|ju rfl rfl<|aF (ar (.of rfl) (.of rfl) cG (by omega) (by assumption) bb) rfl<|nF rfl rfl ae<|aF (ag (.of rfl) (At.base c1 rfl)) rfl<|aF (bJ (.of rfl)) rfl<|nF rfl rfl ae<|aF (gT .here) rfl<|aF (fa (.of rfl) (.of rfl)) rfl ?_)
  with_reducible refine dI ?_
  (refine Jn<|gm rfl (fun az=>?_) fun az=>?_;refine Jr<|Ja rfl<|Jn<|Ju<|Jm<|Jh<|Jh<|Jm<|Jh<|JT ?_;rotate_left;refine Jk<|Jr<|Ja rfl<|Jn<|J0 ?_;rotate_right)
  ·have e2:=g3 e0 Q7 az
   rw [hB (by rw [e2];decide),e2]
  have elv:(xs.length:Int)=r.lv:=Zo.1 az
  clear az
  refine aW (fun i:Nat=>i≤xs.length∧∀ q (hq:q<xs.length),q<i→jd r xs[q]=false) (fun i=>[(9,.int .i64 (i:Nat)),(6,.int .i64 (j:Nat)),(1,.slice a l.length cp),(2,.pointer (some ⟨b2,0,none⟩))])
   (fun _=>[JQ b2 r s d t p]) (fun i=>xs.length-i) ?_ ?_
  ·with_reducible apply aI (0:Nat) ⟨Zi _,fun i _ hi=>absurd hi (ZP _)⟩
   case hs1=>exact cg
   case ht=>exact l6
  rintro i ⟨hi,qM⟩
  by_cases gU:i<xs.length
  ·have Yk:=Yl (lf gU)
   have cx0:w.cell? ⟨bx,ox+i*1,none⟩=some (.string xs[i]):=(X2 i _ (ji gU)).2 0 _ rfl
   have Kd:=g4 e0 Q7 elv gU
   have sx:jd r xs[i]=false→∀ q (hq:q<xs.length),q<i+1→jd r xs[q]=false:=fun e q hq OR=>by
    by_cases e2:q=i
    ·subst e2;exact e
    ·exact qM q hq (by omega)
   have VM:jd r xs[i]=(decide (xs[i]≠⟨#[]⟩)&&decide (xs[i]≠⟨#[45]⟩)&&decide (bE (cF r) xs[i]<0)):=rfl
   generalize jd r xs[i]=lb at Kd sx VM
   generalize xs[i]=y at cx0 VM
   (refine Jq<|Jr<|Jv rfl<|Jv rfl<|Jv rfl<|ab (ar (.of rfl) (.of rfl) cG (by omega) (by assumption) bb) rfl<|bS rfl rfl ae<|ab (ag (.of rfl) (At.base c1 rfl)) rfl<|JI rfl<|JA rfl<|Jn<|Jd rfl fun az=>Jk<|Jq<|J0<|Jr<|Jv rfl<|Jv rfl<|ab (ar (.of rfl) (.of rfl) cG (by omega) (by assumption) bb) rfl<|bS rfl rfl ae<|ab (ag (.of rfl) (At.base c1 rfl)) rfl<|Jv rfl<|ab (ar (.of rfl) (.of rfl) Yk (by omega) az bb) rfl<|ab (ag (.of rfl) (At.base cx0 rfl)) rfl<|Ja rfl<|Ji<|Jv rfl<|ab (eZ (.of rfl) (.of rfl)) rfl<|Jv rfl<|il rfl rfl rfl rfl<|aD rfl rfl inferInstance (fun hg bA=>(eZ (.bI hg rfl) (.of rfl))) rfl<|ab (cD (.of rfl) rfl) rfl<|Jv rfl<|aD rfl rfl inferInstance (fun hg bA=>(bT (.of rfl) .here ak (by rfl))) rfl<|il rfl rfl rfl rfl<|dW rfl rfl (fun hg=>(aZ (.of rfl) (.cons (.bI hg rfl) (.cons (.bI hg rfl) .nil)) inferInstance ez)) rfl (fun hg w' aA=>(Uq y (Mem.keeps aA)))<|aD rfl rfl inferInstance (fun hg bA=>(lg (.bI hg rfl) (.of rfl))) rfl<|ab (cD (.of rfl) rfl) rfl<|Jn<|pt rfl (fun az=>?_) fun az=>?_;refine Jr<|Ja rfl<|Jn<|Je<|Jm<|Jh<|Jh<|Jm<|Jm<|Jh<|Jh<|Jm<|Jh<|JT ?_;rotate_left;refine Jw<|Jj<|Jt<|Jg<|Jv rfl<|JB rfl (by omega)<|Ja rfl<|Jn ?_;rotate_right)
   ·have e4:=Kd (by rw [VM,decide_eq_true az.1.1,decide_eq_true az.1.2,decide_eq_true az.2];rfl)
    rw [hB (by rw [e4];decide),e4]
   have e5:lb=false:=by
    rw [VM]
    rcases az with (q | q) | q
    ·rw [decide_eq_false q];rfl
    ·rw [decide_eq_false q];simp
    ·rw [decide_eq_false q];simp
   with_reducible apply aK (i+1) ⟨Zax gU,sx e5⟩ (show xs.length-(i+1)<xs.length-i by omega)
   case hs1=>exact cg
   case ht=>exact l6
  have e5:=j9 (g5 e0 Q7 elv fun q hq=>qM q hq (by omega))
  (refine Jq<|Jr<|Jv rfl<|Jv rfl<|Jv rfl<|ab (ar (.of rfl) (.of rfl) cG (by omega) (by assumption) bb) rfl<|bS rfl rfl ae<|ab (ag (.of rfl) (At.base c1 rfl)) rfl<|JI rfl<|JA rfl<|Jn<|Jc rfl fun az=>Jp<|Jl<|Jo<|Jj<|Jt<|Jg<|Jv rfl<|JB rfl (by omega)<|Ja rfl<|Jn ?_)
  with_reducible apply aK (j+1) ⟨Zax aM,e5⟩ (show l.length-(j+1)<l.length-j by omega)
  case hs1=>exact cg
  case ht=>exact l6
 ·obtain rfl:k=l.length:=by omega
  rw [hX,dS.2 hf]
  refine Jq<|Jr<|Jv rfl<|Jv rfl<|JI rfl<|JA rfl<|Jn<|Jc rfl fun az=>Jp<|Jl<|Jo<|Jt<|Jr<|Ja rfl<|Jn<|Je<|JT ?_
  rfl
def zj (l:List Tk):Bool:=(l.all fun t=>decide (t.de.size≤40)&&decide (t.so.length≤4)&&tI t.so)&&decide (l.length≤9)
set_option maxHeartbeats 1000000 in
theorem zk {kv:Value} {l:List fu} {w:World} (hw:Rd w kv 2 (iF l)) (hM:sR w l):aj Tryz.prog 44 [kv] w (.bool (zj (cr l))):=by
 obtain ⟨a,cp,b,o,rfl,dj,bV,ha,hc⟩:=hw
 rw [du] at *
 unfold maxLen at bV
 have qh:(cr l).length=l.length:=Zd _
 refine ah Tryz.func44 rfl rfl ?_
 refine Jr<|Ja rfl<|Jn<|Jq<|Jr<|Ja rfl<|Jn<|J0 ?_
 refine aW (ι:=Nat) (fun k=>k≤l.length∧∀ j (hj:j<l.length),j<k→(decide (l[j].tk.de.size≤40)&&decide (l[j].tk.so.length≤4)&&tI l[j].tk.so)=true) (fun k=>[(3,.int .i64 (k:Nat)),(0,.slice a l.length cp)]) (fun _=>[]) (fun k=>l.length-k) ?_ ?_
 ·with_reducible apply aI (0:Nat) ⟨Zi _,fun j _ hj=>absurd hj (ZP _)⟩
  case hs1=>exact cg
  case ht=>exact .nil
 rintro k ⟨hk,hf⟩
 by_cases aM:k<l.length
 ·have cG:=ha (jk aM)
  have aB:=(hc k _ (rW l aM)).2
  have gJ:=Zj aM
  have Ce:=hM _ gJ
  have Xu:l[k].tk∈cr l:=Z3 gJ
  have wy:(decide (l[k].tk.de.size≤40)&&decide (l[k].tk.so.length≤4)&&tI l[k].tk.so)=true→∀ j (hj:j<l.length),j<k+1→(decide (l[j].tk.de.size≤40)&&decide (l[j].tk.so.length≤4)&&tI l[j].tk.so)=true:=fun q j hj LA=>by
   by_cases e:j=k
   ·subst e;exact q
   ·exact hf j hj (by omega)
  generalize l[k]=x at aB Ce Xu wy
  obtain ⟨⟨xd,xs⟩,xv⟩:=x
  dsimp only at aB Ce Xu wy
  have VE:∀ {w'},aJ [] w w'→aj Tryz.prog 69 [xv] w' (.bool (tI xs)):=fun hk=>Bi (Rd.keeps Ce hk)
  obtain ⟨ax,cx,bx,ox,rfl,O3,B1,Yl,X2⟩:=Ce
  rw [bW] at *
  unfold maxLen at B1
  have WY:=fun {w'}=>VE (w':=w')
  have c0:w.cell? ⟨b,o+k*2,none⟩=some (.string xd):=aB 0 _ rfl
  have c1:w.cell? ⟨b,o+k*2+1,none⟩=some (.slice ax xs.length cx):=aB 1 _ rfl
  generalize TS:tI xs=sb at *
  (refine Jq<|Jr<|Jv rfl<|Jv rfl<|JI rfl<|JA rfl<|Jn<|Jd rfl fun az=>Jk<|Jq<|J0<|Jr<|Jv rfl<|Jv rfl<|ab (fM cG az) rfl<|bS rfl rfl ae<|ab (ag (.of rfl) (At.base c0 rfl)) rfl<|ab (fK (.of rfl)) rfl<|JE rfl<|Jv rfl<|il rfl rfl rfl rfl<|il rfl rfl rfl rfl<|aD rfl rfl inferInstance (fun hg bA=>(ar (.bI hg rfl) (.bI hg rfl) cG (by omega) az bb)) rfl<|aD rfl rfl inferInstance (fun hg bA=>(au (.bI hg rfl) ae)) rfl<|aD rfl rfl inferInstance (fun hg bA=>(ag (.bI hg rfl) (At.base c1 rfl))) rfl<|aD rfl rfl inferInstance (fun hg bA=>(bJ (.bI hg rfl))) rfl<|aD rfl rfl inferInstance (fun hg bA=>(km (.bI hg rfl) (.of rfl))) rfl<|ab (a7 (.of rfl) rfl) rfl<|Jv rfl<|il rfl rfl rfl rfl<|il rfl rfl rfl rfl<|aD rfl rfl inferInstance (fun hg bA=>(ar (.bI hg rfl) (.bI hg rfl) cG (by omega) az bb)) rfl<|aD rfl rfl inferInstance (fun hg bA=>(au (.bI hg rfl) ae)) rfl<|aD rfl rfl inferInstance (fun hg bA=>(ag (.bI hg rfl) (At.base c1 rfl))) rfl<|dW rfl rfl (fun hg=>(aZ (.of rfl) (.cons (.bI hg rfl) .nil) inferInstance ez)) rfl (fun hg w' aA=>(WY (Mem.keeps aA)))<|aD rfl rfl inferInstance (fun hg bA=>(dU (.bI hg rfl))) rfl<|ab (a7 (.of rfl) rfl) rfl<|Jn<|pt rfl (fun az=>?_) fun az=>?_;refine Jr<|Ja rfl<|Jn<|Je<|Jm<|Jh<|Jh<|Jm<|Jh<|JT ?_;rotate_left;refine Jw<|Jj<|Jt<|Jg<|Jv rfl<|JB rfl (by omega)<|Ja rfl<|Jn ?_;rotate_right)
  ·have e:zj (cr l)=false:=by
    unfold zj
    rw [List.all_eq_false.2 ⟨_,Xu,?_⟩]
    ·rfl
    ·dsimp only
     rw [TS]
     rcases az with (q | q) | q
     ·rw [decide_eq_false (show ¬ xd.size≤40 by omega)];simp
     ·rw [decide_eq_false (show ¬ xs.length≤4 by omega)];simp
     ·rw [q];simp
   rw [e]
  ·have e:(decide (xd.size≤40)&&decide (xs.length≤4)&&sb)=true:=by
    rw [decide_eq_true (show xd.size≤40 by have:=az.1.1;omega),decide_eq_true (show xs.length≤4 by have:=az.1.2;omega),az.2];rfl
   with_reducible apply aK (k+1) ⟨Zax aM,wy e⟩ (show l.length-(k+1)<l.length-k by omega)
   case hs1=>exact cg
   case ht=>exact .nil
 ·obtain rfl:k=l.length:=by omega
  have e:((cr l).all fun t=>decide (t.de.size≤40)&&decide (t.so.length≤4)&&tI t.so)=true:=Zaa.2 fun x hx=>by
   unfold cr at hx
   obtain ⟨y,hy,rfl⟩:=Zt.1 hx
   obtain ⟨j,hj,rfl⟩:=Zu hy
   exact hf j hj hj
  have e2:zj (cr l)=decide ((l.length:Int)≤9):=by
   unfold zj
   rw [e,qh,ZaA]
   exact decide_eq_decide.2 (by omega)
  rw [e2]
  refine Jq<|Jr<|Jv rfl<|Jv rfl<|JI rfl<|JA rfl<|Jn<|Jc rfl fun az=>Jp<|Jl<|Jo<|Jt<|Jr<|Jv rfl<|JI rfl<|JF rfl<|Ja rfl<|Jn<|Je<|JT ?_
  rfl
theorem rY (L:List ByteArray) (x:ByteArray):aL (L++[x])=aL L++[.string x]:=eU _ _
theorem Mn {l:List fu} (h:zj (cr l)=true):l.length≤9∧∀ x∈l,x.tk.so.length≤4:=by
 unfold zj at h
 rw [Zm,decide_eq_true_iff,Zaa] at h
 refine ⟨by have:=h.2;unfold cr at this;rwa [Zd] at this,fun x hx=>?_⟩
 have:=h.1 x.tk (Z3 hx)
 simp only [Zm,decide_eq_true_eq] at this
 exact this.1.2
theorem Wk {c:Cx} {hs hs':List bd} {w:World} (hm:Mem c hs w) {b:Nat} {x y:Value} {E:TypeId} {fz:Nat×Nat} (ht:Take hs (bH b (.cells #[x,y] E fz)) hs'):Rd w (.slice (some ⟨b,0,none⟩) 1 1) 2 [[x,y]]:=by
 refine ⟨_,1,b,0,rfl,Zz _,by unfold maxLen;decide,fun _=>rfl,fun i r hr=>?_⟩
 cases i with
 | succ i=>simp at hr
 | zero =>
  obtain rfl:[x,y]=r:=by simpa using hr
  refine ⟨rfl,fun j u hu=>?_⟩
  rw [cell_of_block (hm.bH ht)]
  match j,hu with
  | 0,hu=>simpa using hu
  | 1,hu=>simpa using hu
theorem Km {gb:Nat} {xd:ByteArray} {xs:List ByteArray} {xv:Value} {w:World} (h:Rd w (.slice (some ⟨gb,0,none⟩) 1 1) 2 (iF [⟨⟨xd,xs⟩,xv⟩])) (hM:Rd w xv 1 (im xs)) (hs:xs.length≤1000) :
  bu Tryz.prog 46 [.slice (some ⟨gb,0,none⟩) 1 1] w [] (fun _:Nat×Nat×Value=>True) (fun x=>.slice (some ⟨x.1,0,none⟩) 1 x.2.1) (fun x=>[row 78 2 (.slice (some ⟨x.1,0,none⟩) 1 x.2.1) 1 [.string xd,x.2.2],row 9 1 x.2.2 xs.length (aL xs)]):=by
 have hg:=Fj h (fun x hx=>by rw [ZB.1 hx];exact hM) (Nat.succ_le_succ (Zi _)) (fun x hx=>by rw [ZB.1 hx];exact hs)
 refine Calls.mono hg fun e w' ⟨⟨v,W⟩,he,hx,hk,fp,hn,hs',hf⟩=>?_
 obtain ⟨y,rfl⟩:∃ y,W=[y]:=by
  have:=congrArg List.length hx
  unfold cr at this
  simp only [Zd,ZaE] at this
  match W,this with
  | [y],_=>exact ⟨y,rfl⟩
 obtain ⟨⟨yd,ys⟩,yv⟩:=y
 obtain ⟨rfl,rfl⟩:yd=xd∧ys=xs:=by
  unfold cr at hx
  simp only [Z8,Zf,List.cons.injEq,and_true,Tk.mk.injEq] at hx
  exact hx
 obtain ⟨f1,f2,rfl,⟨e1,e2,e3⟩,⟨f3,f4,rfl,⟨f5,f6,rfl,h5,h6⟩,h4⟩⟩:=hs'
 obtain rfl:f6=[]:=h6
 obtain rfl:f4=[]:=h4
 rcases e3 with ⟨_,e4⟩ | ⟨g,cap,cur,e3,r⟩
 ·cases e4
 dsimp only at e3
 subst e3
 refine ⟨(g,cap,yv),he,trivial,hk,f1++((f5++[])++[]),hn,⟨f1,(f5++[])++[],rfl,⟨e1,e2,.inr ⟨g,cap,cur,rfl,r⟩⟩,⟨f5,[],by simp,?_,rfl⟩⟩,hf⟩
 rw [c7] at h5
 exact h5
noncomputable def RM:Value→Nat×Nat×Value:=Yy (fun x:Nat×Nat×Value=>.agg #[.int .i64 x.1,.int .i64 x.2.1,x.2.2]) (0,0,.bool false)
theorem RL (x:Nat×Nat×Value):∃ v,RM v=x:=RN (fun a b h=>by
 obtain ⟨a1,a2,a3⟩:=a
 obtain ⟨b1,b2,b3⟩:=b
 injection h with h
 have h:=congrArg Array.toList h
 simp only [List.cons.injEq,Value.int.injEq,true_and,and_true,Int.natCast_inj] at h
 rw [h.1,h.2.1,h.2.2]) _ x
theorem ew.Wj {c:Cx} {hs hs':List bd} {E:TypeId} {g cap:Nat} {u v:Value} (ht:Take hs (row E 2 (.slice (some ⟨g,0,none⟩) 1 cap) 1 [u,v]) hs'):ew c hs g 0 [u,v]:=ew.si fun j x hx w hm=>by
 have h:Rd w (.slice (some ⟨g,0,none⟩) 1 cap) 2 [[u,v]]:=hm.om ht rfl (fun r hr=>by rw [ZB.1 hr];rfl) rfl
 obtain ⟨a,gL,b,o',e,_,_,ha,hc⟩:=h
 injection e with e1 e2 e3
 rw [ha (by simp)] at e1
 injection e1 with e1
 injection e1 with e4 e5
 have:=(hc 0 _ rfl).2 j x hx
 rw [← e4,← e5] at this
 simpa using this
theorem Mb {r q:Ro} {k:Tk} {i e_:Int} {s d t p v:Value} {w:World} (e:gI r [k]=(q,i,e_)) (h:RR w r s d t p) (hf:lD r) (hv:Rd w v 1 (im k.so)):bu Tryz.prog 48 [.agg #[.int .i64 r.lv,.int .i64 r.ma,s,d,t,p],.agg #[.string k.de,v]] w [] (fun _:Value×Value×Value×Value=>True) (fun y=>.tuple #[.agg #[.int .i64 q.lv,.int .i64 q.ma,y.1,y.2.1,y.2.2.1,y.2.2.2],.int .i64 e_]) (fun y=>nS q y):=by
 have:=FL (x:=⟨k,v⟩) h hf hv
 rw [show (fu.mk k v).tk=k from rfl,e] at this
 exact this
set_option maxRecDepth 20000 in
theorem LQ {r:Ro} {s d t p:Value} {w:World} (h:RR w r s d t p):aj Tryz.prog 55 [RA r s d t p] w (.bool (r5 r&&decide (fX r=0))):=by
 have h1:=Rd.one h.sr
 have h2:=Rd.one h.de
 have h3:=Rd.one h.ti
 have h4:=Rd.one h.po
 have WZ:∀ {w'},aJ [] w w'→aj Tryz.prog 18 [.agg #[.int .i64 r.lv,.int .i64 r.ma,s,d,t,p]] w' (.bool (r5 r)):=fun hk=>Mo (h.keeps hk)
 have X8:∀ {w'},(r5 r==true)=true→aJ [] w w'→aj Tryz.prog 25 [.agg #[.int .i64 r.lv,.int .i64 r.ma,s,d,t,p]] w' (.int .i64 (fX r)):=fun e hk=>by
  have hb:r5 r=true:=by simpa using e
  unfold r5 at hb
  exact pQ (h.keeps hk) (uN (Zm _ _ ▸ hb).1)
 unfold RA
 refine ah Tryz.func55 rfl rfl ?_
 (refine Jr<|Jy rfl rfl fun _ _=>Ja rfl<|Ji<|ab (cR .here) rfl<|ai bN rfl (fun w' aA=>(WZ (Mem.keeps aA)))<|Jv rfl<|aD rfl rfl inferInstance (fun hg bA=>(bT (.of rfl) .here ak (by rfl))) rfl<|dW rfl rfl (fun hg=>(aZ (.of rfl) (.cons (.bI hg rfl) .nil) inferInstance ez)) rfl (fun hg w' aA=>(X8 hg (Mem.keeps aA)))<|aD rfl rfl inferInstance (fun hg bA=>(mX (.bI hg rfl) (.of rfl))) rfl<|ab (cD (.of rfl) rfl) rfl<|Ja rfl<|Jn<|Je<|JT ?_)
 rfl
def u0 (r:Ro) (t:Tk):Bool:=(r.de.getD (bE (cq r) t.de).toNat ⟨⟨#[]⟩,0,false⟩).pr
theorem yw {α:Type} {p:α→Bool} {l:List α} (h:0≤fT p l):∃ i,∃ hi:i<l.length,fT p l=(i:Nat)∧p l[i]=true:=by
 unfold fT at h ⊢
 cases e:(List.range l.length).find? fun i=>(l[i]?.map p).getD false with
 | none=>rw [e] at h;exact absurd h (by decide)
 | some i =>
  have h1:=ZQ.1 (ZaR e)
  have h2:=List.find?_some e
  refine ⟨i,h1,rfl,?_⟩
  simpa [h1] using h2
theorem Mt {r:Ro} {L:List Tk} {Q:Ro} {I E:Int} (hne:L≠[]) (hX:hP r L=(Q,I,E)) (hE:E≠0):∃ i,∃ hi:i<L.length,I=(i:Nat)∧(E=31∧u0 r L[i]=true∨E=18∧u0 r L[i]=false):=by
 have h:=Bl (r:=r) (l:=L)
 rw [hX] at h
 dsimp only at h
 rcases h with e | ⟨e1,c,_,e3⟩ | ⟨e1,c,_,e3,_⟩
 ·exact absurd e hE
 ·obtain ⟨i,hi,e4,e5⟩:=yw c
  exact ⟨i,hi,e3.trans e4,.inl ⟨e1,e5⟩⟩
 ·have aM:zx r L (qy r L)<L.length:=by
   unfold zx
   cases e:(List.range L.length).find? fun i=>(iO r L (qy r L) (i+1)).isNone with
   | none=>exact List.length_pos_iff.2 hne
   | some i=>exact ZQ.1 (ZaR e)
  refine ⟨_,aM,e3,.inr ⟨e1,?_⟩⟩
  have:=je (u0 r) L
  rw [decide_eq_false (show ¬ 0≤fT (u0 r) L from c)] at this
  have:=Z9.1 this.symm L[zx r L (qy r L)] (Zj aM)
  simpa using this
theorem M5 {r:Ro} {L:List Tk} (c:¬ 0≤lU r L) {t:Tk} (ht:t∈L):u0 r t=false:=by
 have:=je (u0 r) L
 rw [decide_eq_false (show ¬ 0≤fT (u0 r) L from c)] at this
 simpa using Z9.1 this.symm t ht
theorem MI {r:Ro} {t:Tk} (h:t.de∈cq r):∃ j,∃ hj:j<r.de.length,bE (cq r) t.de=(j:Nat)∧u0 r t=r.de[j].pr:=by
 have h0:¬ bE (cq r) t.de<0:=fun c=>cm.1 c h
 have hl:(bE (cq r) t.de).toNat<r.de.length:=by
  obtain ⟨this,_⟩:=fq (l:=cq r) (s:=t.de) (by omega)
  unfold cq at this ⊢
  rwa [Zd] at this
 refine ⟨_,hl,by omega,?_⟩
 unfold u0
 rw [Zk,Zc hl];rfl
def CX (r:Ro) (t:Tk) (k:Nat):ByteArray:=if t.at k=⟨#[]⟩ then jG r (k:Nat) t.de else if t.at k=dash then ⟨#[]⟩ else t.at k
def CY (r:Ro) (t:Tk) (k:Nat):List ByteArray:=(List.range k).map (CX r t)
theorem FO (r:Ro) (t:Tk) (k:Nat):CY r t (k+1)=CY r t k++[CX r t k]:=by unfold CY;rw [Zby,Zs];rfl
theorem Hb (r:Ro) (t:Tk) (k:Nat):(CY r t k).length=k:=by unfold CY;simp
theorem PJ (r:Ro) (t:Tk):yV r t=CY r t r.lv.toNat:=rfl
def LN (r:Ro) (L:List Tk) (y:ByteArray):Nat→List ByteArray
 | 0=>bo r y
 | j+1=>if (L.getD j Tk.zero).de=y then yV r (L.getD j Tk.zero) else LN r L y j
theorem AZ {r:Ro} {L:List Tk} {y:ByteArray} {j:Nat} (hj:j<L.length):LN r L y (j+1)=if L[j].de=y then yV r L[j] else LN r L y j:=by
 rw [LN,Zk,Zc hj];rfl
theorem jR (r:Ro) (y:ByteArray):(bo r y).length=r.lv.toNat:=by unfold bo;simp
theorem LM {r:Ro} (eQ:fX r=0) {L:List Tk} (hl:AV r L) {q:List Po} (h0:iO r L (qy r L) L.length=some q) {y:ByteArray} (hy:y∈cq r):LN r L y L.length=bo (r.wp q) y:=by
 obtain ⟨_,k2,k3⟩:=od eQ hl h0
 have key:∀ j,j≤L.length→((∃ i,∃ hi:i<L.length,i<j∧L[i].de=y)→LN r L y j=bo (r.wp q) y)∧((∀ i (hi:i<L.length),i<j→L[i].de≠y)→LN r L y j=bo r y):=by
  intro j
  induction j with
  | zero=>exact fun _=>⟨fun ⟨_,_,h,_⟩=>absurd h (ZP _),fun _=>rfl⟩
  | succ j ih =>
   intro hj
   have ih:=ih (Nat.le_of_succ_le hj)
   rw [AZ hj]
   by_cases c:L[j].de=y
   ·rw [if_pos c]
    refine ⟨fun _=>?_,fun h=>absurd c (h j hj (Nat.lt_succ_self j))⟩
    rw [← c,k2 _ (Zj hj)]
   ·rw [if_neg c]
    refine ⟨fun ⟨i,hi,h1,h2⟩=>ih.1 ⟨i,hi,?_,h2⟩,fun h=>ih.2 fun i hi h1=>h i hi (Nat.lt_succ_of_lt h1)⟩
    rcases Nat.lt_succ_iff_lt_or_eq.1 h1 with h1 | rfl
    ·exact h1
    ·exact absurd h2 c
 by_cases c:y∈L.map Tk.de
 ·obtain ⟨t,ht,e⟩:=Zt.1 c
  obtain ⟨i,hi,rfl⟩:=Zu ht
  exact (key _ (Zz _)).1 ⟨i,hi,hi,e⟩
 ·rw [k3 y hy c]
  exact (key _ (Zz _)).2 fun i hi _ e=>c (Zt.2 ⟨_,Zj hi,e⟩)
theorem BS {r:Ro} (z7:r.lv≤1000) {k:Nat} (hk:(k:Int)<r.lv):CN r (k:Nat)=0:=by
 unfold CN
 rw [Ox (by omega) (by omega),gn]
 omega
theorem Cn {r:Ro} {y:ByteArray} (hy:y∈cq r):ph r y=0:=by
 unfold ph
 rw [bO (by decide)]
 exact decide_eq_false fun c=>cm.1 c hy
theorem J5 {r:Ro} (eQ:fX r=0) {y:ByteArray} (hy:y∈cq r):B4 r y=0∧DS r y=bo r y:=by
 have e:B4 r y=0:=by unfold B4;rw [eQ,jT,D7,Cn hy]
 exact ⟨e,if_neg (not_not_intro e)⟩
theorem Hm {r:Ro} (eQ:fX r=0) {k:Nat} (hk:(k:Int)<r.lv) {y:ByteArray} (hy:y∈cq r):A2 r (k:Nat) y=0∧C2 r (k:Nat) y=kH r (k:Nat) y:=by
 have hl:=(CM eQ).lim
 have e:A2 r (k:Nat) y=0:=by unfold A2;rw [eQ,jT,BS (by omega) hk,jT,D7,Cn hy]
 exact ⟨e,if_neg (not_not_intro e)⟩
theorem KS {r:Ro} (eQ:fX r=0) {k:Nat} (hk:(k:Int)<r.lv):Cz r (k:Nat)=0∧Eg r (k:Nat)=(cM r).filter (gV r.po (k:Nat)):=by
 have hl:=(CM eQ).lim
 have e:Cz r (k:Nat)=0:=by unfold Cz;rw [eQ,jT,D7,BS (by omega) hk]
 exact ⟨e,if_neg (not_not_intro e)⟩
theorem HC {r:Ro} (eQ:fX r=0) {L:List Tk} (hl:AV r L) (tu:¬ 0≤lU r L) {j:Nat} (hj:j<L.length) {q:List Po} (h:l5 r L j q) {Q:Ro} {I E:Int} (hX:gI (r.wp q) [L[j]]=(Q,I,E)) :
  E=18∧Q=Ro.nil∨E=0∧∃ q',Q=r.wp q'∧l5 r L (j+1) q':=by
 have hm:=Zj hj
 have jS:=vV eQ h.val
 have ht2:tH (r.wp q) [L[j]]=0:=qR.2 ⟨List.cons_ne_nil _ _,(hl.one hm).wp q⟩
 have hs:hP (r.wp q) [L[j]]=(Q,I,E):=by
  unfold gI at hX
  rwa [if_neg (not_not_intro jS),if_neg (not_not_intro ht2)] at hX
 have he:=Bl (r:=r.wp q) (l:=[L[j]])
 rw [hs] at he
 dsimp only at he
 rcases he with e | ⟨e1,c,_,e3⟩ | ⟨e1,c,e2,e3,_⟩
 ·refine .inr ⟨e,?_⟩
  obtain ⟨q',hq⟩:=h.next eQ hl hj (by rw [hs];exact e)
  refine ⟨q',?_,hq⟩
  have:=hq.eq
  rw [EJ,h.eq,Zk,Zc hj,Zab,hs] at this
  exact this
 ·obtain ⟨i,hi,e4,e5⟩:=yw c
  obtain rfl:i=0:=by simpa using hi
  have e6:u0 (r.wp q) L[j]=true:=e5
  have e7:u0 r L[j]=false:=M5 tu hm
  exact absurd (e7.symm.trans e6) (by decide)
 ·exact .inl ⟨e1,e2⟩
end Go.Proofs.A1
