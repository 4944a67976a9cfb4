/- Parts of the proof: LZ MA MB MC PS P6d MD ME MF PC MG MH MI P6f P6g ML MM MN MO P6h GkPoolK MJ MK MP PW MQ MR MS PV MT P6i WH NA NB P6k. -/
import Derived.Test.YteonnodafmegaaaGreatDoorNM13
import Derived.Test.YteonnodafmegaaaGreatDoorNM04
import Derived.Test.YteonnodafmegaaaGreatDoorNM12
import Derived.Test.YteonnodafmegaaaGreatDoorNM06
import Derived.Test.YteonnodafmegaaaGreatDoorNM09
import Derived.Test.YteonnodafmegaaaGreatDoorNM03
import Derived.Test.YteonnodafmegaaaGreatDoorNM10
import Derived.Test.YteonnodafmegaaaGreatDoorNM08
import Derived.Test.YteonnodafmegaaaGreatDoorNM11
set_option linter.unusedSectionVars false
set_option linter.unusedVariables false
set_option linter.unusedSimpArgs false
namespace Go.Proofs.A1
open Go Go.SL
theorem Qt {c:Cx} {hs hs':List a8} {w:World} (hm:Mem c hs w) {g gc:Nat} {L:List ByteArray} {cur:List Value} {E:TypeId} {fz:Nat×Nat} (ht:Take hs (bG g (.cells (aM L++cur).toArray E fz)) hs') (hc:L.length≤gc) (hx:gc≤maxLen):Rd w (.slice (some ⟨g,0,none⟩) L.length gc) 1 (iI L):=by
 refine ⟨_,gc,g,0,by rw [bV],by rw [bV];exact hc,hx,fun _=>rfl,fun i r hr=>?_⟩
 have hi:=(Zl.1 hr).1
 rw [bV] at hi
 rw [jb hi] at hr
 obtain rfl:=Option.some.inj hr
 refine ⟨rfl,fun j u hu=>?_⟩
 cases j with
 | zero =>
  simp only [Zax,Option.some.injEq] at hu
  subst hu
  rw [cell_of_block (hm.bG ht)]
  simp [aM,ZI,hi]
 | succ j=>simp at hu
theorem Ic {c:Cx} {hs hs':List a8} {w:World} (hm:Mem c hs w) {g gc:Nat} {L:List ByteArray} {cur:List Value} {E:TypeId} {fz:Nat×Nat} (ht:Take hs (bG g (.cells (aM L++cur).toArray E fz)) hs') (hc:L.length≤gc) (hx:gc≤maxLen) {k:Nat} (hk:k≤L.length):Rd w (Go.sliced (some ⟨g,0,none⟩) 0 (k:Int).toNat gc 1) 1 (iI (L.take k)):=by
 have:=(Qt hm ht hc hx).sliced (l:=0) (m:=k) (Zi _) hk
 rw [ZG]
 rwa [List.drop_zero,show (iI L).take k=iI (L.take k) by unfold iI;rw [ZaT]] at this
theorem K0 {r:Ro} {s d t p:Value} (m:Int) {w w1:World} (h:RR w1 r s d t p):aj Tryz.prog 162 [RA r s d t p,.int .i64 m] w (.int .i64 (eV r m)):=by
 have h1:=Rd.one h.sr
 have h2:=Rd.one h.de
 have h3:=Rd.one h.ti
 have h4:=Rd.one h.po
 unfold RA
 refine ah Tryz.func162 rfl rfl ?_
 (refine Jr<|Jy rfl rfl fun _ _=>Ja rfl<|Ji<|Jv rfl<|JA rfl<|Jv rfl<|gr rfl rfl rfl rfl<|aA rfl rfl inferInstance (fun hg bB=>(ao (.of rfl) ae)) rfl<|aA rfl rfl inferInstance (fun hg bB=>(ag (.bI hg rfl) (At.lit .here rfl))) rfl<|aA rfl rfl inferInstance (fun hg bB=>(zh (.bI hg rfl) (.bI hg rfl))) rfl<|ab (aZ (.of rfl) rfl) rfl<|ai bd rfl (fun w' aB=>(kb _ 10 w'))<|Ja rfl<|Jn<|Je<|JT ?_)
 rfl
theorem Cm {r:Ro} {s d t p:Value} (k:Nat) {w:World} (h:RR w r s d t p) (hf:me r) (hk:k<(ef r).length):aj Tryz.prog 229 [RA r s d t p,.int .i64 (k:Nat)] w (.int .i64 (zl r k)):=by
 have h1:=Rd.one h.sr
 have h2:=Rd.one h.de
 have h3:=Rd.one h.ti
 have h4:=Rd.one h.po
 have CJ:∀ w',aH [] w w'→bh Tryz.prog 77 [.agg #[.int .i64 r.lv,.int .i64 r.ma,s,d,t,p]] w' [] (fun _:Value=>True) id (fun x=>[row 9 1 x (ef r).length (aM (ef r))]):=fun w' hk=>EU (h.keeps hk) hf
 rw [MS hk]
 have DM:(ef r).length≤3000000:=by
  obtain ⟨f1,f2,f3,f4⟩:=hf
  unfold ef cC cy cU
  simp only [Zg,Zd]
  omega
 generalize ef r=L at CJ hk DM ⊢
 have X8:k≤L.length:=by omega
 unfold RA
 refine ah Tryz.func229 rfl rfl ?_
 refine Jr<|Jy rfl rfl fun _ _=>Ja rfl<|Ji<|ab (cL .here) rfl ?_
 refine JN bL rfl (fun w1 aR=>CJ w1 aR.keeps) ?_
 intro x _
 dsimp only [id_eq,Zb,Za]
 refine dd (E:=9) (sz:=1) (v:=x) (by exact .here) (by omega) ?_
 rintro g gc cur e c7 zQ _ _
 subst e
 have jd:(aM L++cur)[k*1]? = some (.string L[k]):=uz L cur hk
 refine Ja rfl<|Jn<|Jq ?_
 with_reducible refine cQ 15 (by kernel_rfl) ?_
 (refine an kA rfl ?_;refine an kA rfl ?_;refine an (az (.of rfl) (.of rfl) rfl (by omega) (by omega) bj) rfl ?_;refine an (ag (.of rfl) (At.mF .here jd)) rfl ?_;refine aT bL rfl (fun w' aB=>(W9 _ w')) ?_;refine an kA rfl ?_;refine an kA rfl ?_;refine an (gY (.of rfl) (.of rfl) (by omega) (by omega)) rfl ?_;refine an kA rfl ?_;refine an kA rfl ?_;refine an (az (.of rfl) (.of rfl) rfl (by omega) (by omega) bj) rfl ?_;refine an (ag (.of rfl) (At.mF .here jd)) rfl ?_;refine aT bd rfl (fun w' aB=>(RY _ (Ic aB .here c7 zQ X8))) ?_;refine aT bd rfl (fun w' aB=>(kb _ 9 w')) ?_;refine ek (aD (.cons (.of rfl) (.cons (.of rfl) .nil)) rfl rfl rfl rfl) rfl rfl ?_)
 with_reducible refine dp rfl fun bq mN=>?_
 (refine ai bL rfl (fun w' aB=>(j8 (Mem.dh aB .here rfl rfl) (bU.cons (bU.cons bU.nil))))<|Ja rfl<|Jn<|Je<|JT ?_)
 rfl
set_option maxHeartbeats 1000000 in
theorem Ai {r:Ro} {s d t p:Value} {w:World} (h:RR w r s d t p) (hf:me r):aj Tryz.prog 127 [RA r s d t p] w (.int .i64 (jK r)):=by
 have h1:=Rd.one h.sr
 have h2:=Rd.one h.de
 have h3:=Rd.one h.ti
 have h4:=Rd.one h.po
 have Rl:∀ k,k<(ef r).length→∀ w',aH [] w w'→aj Tryz.prog 229 [.agg #[.int .i64 r.lv,.int .i64 r.ma,s,d,t,p],.int .i64 (k:Nat)] w' (.int .i64 (zl r k)):=fun k hk w' X8=>Cm k (h.keeps X8) hf hk
 have fK:∀ (m:Int) {w'},aH [] w w'→aj Tryz.prog 162 [.agg #[.int .i64 r.lv,.int .i64 r.ma,s,d,t,p],.int .i64 m] w' (.int .i64 (eV r m)):=fun m _ hk=>K0 m (h.keeps hk)
 have dT:=Ll r
 have Gu:=h.sr
 have GG:=h.de
 have BO:=h.ti
 obtain ⟨a1,er,PH,OS,rfl,pJ,iW,lR,kz⟩:=Gu
 obtain ⟨a2,dB,PG,OR,rfl,ku,fb,jz,j6⟩:=GG
 obtain ⟨a3,ee,K9,Iw,rfl,nr,gB,tw,qk⟩:=BO
 rw [cE] at *
 rw [cg] at *
 rw [bY] at *
 unfold maxLen at iW fb gB
 obtain ⟨f1,f2,f3,f4⟩:=hf
 unfold RA
 refine ah Tryz.func127 rfl rfl ?_
 (refine Jr<|Jy rfl rfl fun _ _=>Ja rfl<|Ji<|Ja rfl<|Jn<|Jq<|Jr<|bP rfl rfl ae<|JL rfl .here rfl<|JI rfl<|JE rfl<|Jn<|fP rfl (fun ar=>?_) fun ar=>?_;refine Jr<|Ja rfl<|Jn<|Ju<|JT ?_;rotate_left;refine Jk<|Jq<|Jr<|Ja rfl<|Jn<|J0 ?_;rotate_right)
 ·skip
  have e:eS 8 [] Sr.nm (fun x=>eV r x.mx) r.sr=5:=by unfold eS;rw [if_pos (show (8:Int)<(r.sr.length:Int) by omega)]
  rw [W0 (by rw [e];decide),e]
 rename_i b1 sX
 refine aX (ι:=Nat) (fun x=>x≤r.sr.length∧∀ i,i<x→wB [] Sr.nm (fun x=>eV r x.mx) r.sr i=0) (fun x=>[(4,.int .i64 (x:Nat)),(3,.int .i64 ((x:Nat):Int)),(1,.pointer (some ⟨b1,0,none⟩))]) (fun x=>[JQ b1 r (.slice a1 r.sr.length er) (.slice a2 r.de.length dB) (.slice a3 r.ti.length ee) p]) (fun x=>r.sr.length-x) ?_ ?_
 ·apply aI (0:Nat) ⟨Zi _,fun i h=>absurd h (ZO _)⟩
  case hs1=>exact cd
  case ht=>(try simp only [Ze,Zf,Za]);exact .cons .here .nil
 rintro k ⟨hk,hz⟩
 by_cases aK:k<r.sr.length
 ·have cB:=lR (iJ aK)
  obtain ⟨fa,aC⟩:=kz k _ (fQ aK)
  unfold Sr.cells at aC
  have cc0:=aC 0 _ rfl
  have WK:=aC 1 _ rfl
  have Rm:=Rl (k) (by omega)
  have hq:=TL (r:=r) aK
  (refine Jq<|Jr<|Jv rfl<|bP rfl rfl ae<|JL rfl .here rfl<|JI rfl<|JA rfl<|Jn<|Jd rfl fun ar=>Jk<|Jq<|J0<|Jq<|Jq ?_)
  with_reducible refine cQ 12 (by kernel_rfl) ?_
  (refine an (cL .here) rfl<|an kA rfl<|aT bd rfl (fun w' aB=>(Rm w' (Mem.keeps aB)))<|an (cL .here) rfl<|an kB rfl<|an (gT .here) rfl<|an kA rfl<|an (fG cB ar) rfl<|an kB rfl<|an (ag (.of rfl) (At.base WK rfl)) rfl<|aT bd rfl (fun w' aB=>(fK _ (Mem.keeps aB)))<|ek (aD (.cons (.of rfl) (.cons (.of rfl) .nil)) rfl rfl rfl rfl) rfl rfl ?_)
  with_reducible refine dp rfl fun bq mN=>?_
  (refine ai bL rfl (fun w' aB=>(j8 (Mem.dh aB .here rfl rfl) (bU.cons (bU.cons bU.nil))))<|Ja rfl<|Ji<|Jv rfl<|JD rfl<|Jn<|fP rfl (fun ar=>?_) fun ar=>?_;refine Jr<|Jv rfl<|Ja rfl<|Jn<|Ju<|Jm<|Jh<|Jh<|Jm<|Jh<|JT ?_;rotate_left;refine Jk<|Jg<|Jv rfl<|JB rfl (by omega)<|Ja rfl<|Jx<|Jj<|Jt<|Jg<|Jv rfl<|JB rfl (by omega)<|Ja rfl<|Jn ?_;rotate_right)
  ·rw [hq] at ar ⊢
   have hb:eS 8 [] Sr.nm (fun x=>eV r x.mx) r.sr=wB [] Sr.nm (fun x=>eV r x.mx) r.sr k:=by unfold eS;rw [if_neg (by omega)];exact ep hz aK ar
   rw [W0 (by rw [hb];exact ar),hb]
  have JU:wB [] Sr.nm (fun x=>eV r x.mx) r.sr k=0:=by rw [← hq];exact Zo.1 ar
  apply aJ (k+1) ⟨(show k+1≤r.sr.length from aK),fun i hi=>by
   by_cases e:i=k
   ·rw [e];exact JU
   ·exact hz i (by omega)⟩ (show r.sr.length-(k+1)<r.sr.length-k by omega)
  case hs1=>exact cd
  case ht=>(try simp only [Ze,Zf,Za]);exact .cons (.there .here) .nil
 obtain rfl:k=r.sr.length:=by omega
 have z1:eS 8 [] Sr.nm (fun x=>eV r x.mx) r.sr=0:=by unfold eS;rw [if_neg (by omega)];exact dj.2 hz
 clear hk aK hz
 (refine Jq<|Jr<|Jv rfl<|bP rfl rfl ae<|JL rfl .here rfl<|JI rfl<|JA rfl<|Jn<|Jc rfl fun ar=>Jp<|Jl<|Jo<|Jt<|Jq<|Jr<|bP rfl rfl ae<|JL rfl .here rfl<|JI rfl<|JE rfl<|Jn<|fP rfl (fun ar=>?_) fun ar=>?_;refine Jr<|Ja rfl<|Jn<|Ju<|JT ?_;rotate_left;refine Jk<|Jq<|Jr<|Ja rfl<|Jn<|J0 ?_;rotate_right)
 ·have e:eS 8 (cC r) De.nm (fun x=>eV r x.mx) r.de=5:=by unfold eS;rw [if_pos (show (8:Int)<(r.de.length:Int) by omega)]
  rw [WZ z1 (by rw [e];decide),e]
 refine aX (ι:=Nat) (fun x=>x≤r.de.length∧∀ i,i<x→wB (cC r) De.nm (fun x=>eV r x.mx) r.de i=0) (fun x=>[(6,.int .i64 (x:Nat)),(3,.int .i64 ((r.sr.length+x:Nat):Int)),(1,.pointer (some ⟨b1,0,none⟩))]) (fun x=>[JQ b1 r (.slice a1 r.sr.length er) (.slice a2 r.de.length dB) (.slice a3 r.ti.length ee) p]) (fun x=>r.de.length-x) ?_ ?_
 ·apply aI (0:Nat) ⟨Zi _,fun i h=>absurd h (ZO _)⟩
  case hs1=>exact cd
  case ht=>(try simp only [Ze,Zf,Za]);exact .cons .here .nil
 rintro k ⟨hk,hz⟩
 by_cases aK:k<r.de.length
 ·have cB:=jz (gJ aK)
  obtain ⟨fa,aC⟩:=j6 k _ (fj aK)
  unfold De.cells at aC
  have cc0:=aC 0 _ rfl
  have WK:=aC 1 _ rfl
  have Rm:=Rl (r.sr.length+k) (by omega)
  have hq:=TM (r:=r) aK
  (refine Jq<|Jr<|Jv rfl<|bP rfl rfl ae<|JL rfl .here rfl<|JI rfl<|JA rfl<|Jn<|Jd rfl fun ar=>Jk<|Jq<|J0<|Jq<|Jq ?_)
  with_reducible refine cQ 12 (by kernel_rfl) ?_
  (refine an (cL .here) rfl<|an kA rfl<|aT bd rfl (fun w' aB=>(Rm w' (Mem.keeps aB)))<|an (cL .here) rfl<|an kB rfl<|an (gT .here) rfl<|an kA rfl<|an (fG cB ar) rfl<|an kB rfl<|an (ag (.of rfl) (At.base WK rfl)) rfl<|aT bd rfl (fun w' aB=>(fK _ (Mem.keeps aB)))<|ek (aD (.cons (.of rfl) (.cons (.of rfl) .nil)) rfl rfl rfl rfl) rfl rfl ?_)
  with_reducible refine dp rfl fun bq mN=>?_
  (refine ai bL rfl (fun w' aB=>(j8 (Mem.dh aB .here rfl rfl) (bU.cons (bU.cons bU.nil))))<|Ja rfl<|Ji<|Jv rfl<|JD rfl<|Jn<|fP rfl (fun ar=>?_) fun ar=>?_;refine Jr<|Jv rfl<|Ja rfl<|Jn<|Ju<|Jm<|Jh<|Jh<|Jm<|Jh<|JT ?_;rotate_left;refine Jk<|Jg<|Jv rfl<|JB rfl (by omega)<|Ja rfl<|Jx<|Jj<|Jt<|Jg<|Jv rfl<|JB rfl (by omega)<|Ja rfl<|Jn ?_;rotate_right)
  ·rw [hq] at ar ⊢
   have hb:eS 8 (cC r) De.nm (fun x=>eV r x.mx) r.de=wB (cC r) De.nm (fun x=>eV r x.mx) r.de k:=by unfold eS;rw [if_neg (by omega)];exact ep hz aK ar
   rw [WZ z1 (by rw [hb];exact ar),hb]
  have JU:wB (cC r) De.nm (fun x=>eV r x.mx) r.de k=0:=by rw [← hq];exact Zo.1 ar
  apply aJ (k+1) ⟨(show k+1≤r.de.length from aK),fun i hi=>by
   by_cases e:i=k
   ·rw [e];exact JU
   ·exact hz i (by omega)⟩ (show r.de.length-(k+1)<r.de.length-k by omega)
  case hs1=>exact cd
  case ht=>(try simp only [Ze,Zf,Za]);exact .cons (.there .here) .nil
 obtain rfl:k=r.de.length:=by omega
 have z2:eS 8 (cC r) De.nm (fun x=>eV r x.mx) r.de=0:=by unfold eS;rw [if_neg (by omega)];exact dj.2 hz
 clear hk aK hz
 (refine Jq<|Jr<|Jv rfl<|bP rfl rfl ae<|JL rfl .here rfl<|JI rfl<|JA rfl<|Jn<|Jc rfl fun ar=>Jp<|Jl<|Jo<|Jt<|Jq<|Jr<|bP rfl rfl ae<|JL rfl .here rfl<|JI rfl<|JE rfl<|Jn<|fP rfl (fun ar=>?_) fun ar=>?_;refine Jr<|Ja rfl<|Jn<|Ju<|JT ?_;rotate_left;refine Jk<|Jq<|Jr<|Ja rfl<|Jn<|J0 ?_;rotate_right)
 ·have e:eS 6 (cC r++cy r) Ti.nm (nA r) r.ti=5:=by unfold eS;rw [if_pos (show (6:Int)<(r.ti.length:Int) by omega)]
  rw [Du z1 z2,e]
 refine aX (ι:=Nat) (fun x=>x≤r.ti.length∧∀ i,i<x→wB (cC r++cy r) Ti.nm (nA r) r.ti i=0) (fun x=>[(8,.int .i64 (x:Nat)),(3,.int .i64 (((r.sr.length+r.de.length)+x:Nat):Int)),(1,.pointer (some ⟨b1,0,none⟩))]) (fun x=>[JQ b1 r (.slice a1 r.sr.length er) (.slice a2 r.de.length dB) (.slice a3 r.ti.length ee) p]) (fun x=>r.ti.length-x) ?_ ?_
 ·apply aI (0:Nat) ⟨Zi _,fun i h=>absurd h (ZO _)⟩
  case hs1=>exact cd
  case ht=>(try simp only [Ze,Zf,Za]);exact .cons .here .nil
 rintro k ⟨hk,hz⟩
 by_cases aK:k<r.ti.length
 ·have cB:=tw (fq aK)
  obtain ⟨fa,aC⟩:=qk k _ (eB aK)
  unfold Ti.cells at aC
  have cc0:=aC 0 _ rfl
  have WK:=aC 1 _ rfl
  have Rm:=Rl ((r.sr.length+r.de.length)+k) (by omega)
  have hq:=TK (r:=r) aK
  (refine Jq<|Jr<|Jv rfl<|bP rfl rfl ae<|JL rfl .here rfl<|JI rfl<|JA rfl<|Jn<|Jd rfl fun ar=>Jk<|Jq<|J0<|Jr<|bP rfl rfl ae<|JL rfl .here rfl<|Jv rfl<|ab (fG cB ar) rfl<|ab (gS (eF.base aC rfl)) rfl<|Jz rfl rfl fun _ _=>aq (.of rfl) (.of rfl) .here rfl rfl (fo rfl rfl rfl) (bF rfl) ak<|Jn<|Jq<|Jq ?_)
  with_reducible refine cQ 18 (by kernel_rfl) ?_
  (refine an (cL (.there .here)) rfl<|an kA rfl<|aT bd rfl (fun w' aB=>(Rm w' (Mem.keeps aB)))<|an (cL (.there .here)) rfl<|an kB rfl<|an (gT .here) rfl<|aT bd rfl (fun w' aB=>(fK _ (Mem.keeps aB)))<|an (cL (.there .here)) rfl<|an kB rfl<|an (gT .here) rfl<|aT bd rfl (fun w' aB=>(fK _ (Mem.keeps aB)))<|an kB rfl<|an (gT .here) rfl<|an kB rfl<|an (gT .here) rfl<|an (lY (.of rfl) (.of rfl)) rfl<|aT bd rfl (fun w' aB=>(kb _ 24 w'))<|ek (aD (.cons (.of rfl) (.cons (.of rfl) (.cons (.of rfl) (.cons (.of rfl) .nil)))) rfl rfl rfl rfl) rfl rfl ?_)
  with_reducible refine dp rfl fun bq mN=>?_
  (refine ai bL rfl (fun w' aB=>(j8 (Mem.dh aB .here rfl rfl) (bU.cons (bU.cons (bU.cons (bU.cons bU.nil))))))<|Ja rfl<|Ji<|Jv rfl<|JD rfl<|Jn<|fP rfl (fun ar=>?_) fun ar=>?_;refine Jr<|Jv rfl<|Ja rfl<|Jn<|Ju<|Jm<|Jh<|Jh<|Jm<|Jh<|JT ?_;rotate_left;refine Jk<|Jg<|Jv rfl<|JB rfl (by omega)<|Ja rfl<|Jx<|Jj<|Jt<|Jg<|Jv rfl<|JB rfl (by omega)<|Ja rfl<|Jn ?_;rotate_right)
  ·rw [hq] at ar ⊢
   have hb:eS 6 (cC r++cy r) Ti.nm (nA r) r.ti=wB (cC r++cy r) Ti.nm (nA r) r.ti k:=by unfold eS;rw [if_neg (by omega)];exact ep hz aK ar
   rw [Du z1 z2,hb]
  have JU:wB (cC r++cy r) Ti.nm (nA r) r.ti k=0:=by rw [← hq];exact Zo.1 ar
  apply aJ (k+1) ⟨(show k+1≤r.ti.length from aK),fun i hi=>by
   by_cases e:i=k
   ·rw [e];exact JU
   ·exact hz i (by omega)⟩ (show r.ti.length-(k+1)<r.ti.length-k by omega)
  case hs1=>exact cd
  case ht=>(try simp only [Ze,Zf,Za]);exact .cons bT .nil
 obtain rfl:k=r.ti.length:=by omega
 have z3:eS 6 (cC r++cy r) Ti.nm (nA r) r.ti=0:=by unfold eS;rw [if_neg (by omega)];exact dj.2 hz
 clear hk aK hz
 (refine Jq<|Jr<|Jv rfl<|bP rfl rfl ae<|JL rfl .here rfl<|JI rfl<|JA rfl<|Jn<|Jc rfl fun ar=>Jp<|Jl<|Jo<|Jt<|Jr<|Ja rfl<|Jn<|Je<|JT ?_)
 rw [Du z1 z2,z3]
theorem Qw {r:Ro} {k:Nat} (h:k<r.po.length):Gb r k=if LB r r.po[k]≠0 then LB r r.po[k] else if 0<k∧(r.po[k].lv<((r.po[k-1]?).getD r.po[k]).lv∨r.po[k].lv=((r.po[k-1]?).getD r.po[k]).lv∧dW r r.po[k].ou≤dW r ((r.po[k-1]?).getD r.po[k]).ou) then 11 else 0:=by
 unfold Gb;rw [Zc h];rfl
def GS (r:Ro) (v:Int) (x:Ti):Bool:=decide ((tg r.po v 8 x.nm).length=8)
def EP (r:Ro) (v:Int) (x:Ti):Bool:=ny r.po v x.nm != !decide ((ez r.po v x.nm).getD ⟨#[]⟩=⟨#[]⟩)
theorem MU (r:Ro):TN r=if jN r (fun v=>r.ti.any (GS r v)) then 33 else if jN r (fun v=>r.ti.any (EP r v)) then 32 else 0:=rfl
theorem Cv {r:Ro} {q:Int→Ti→Bool} {v i:Nat} (hv:(v:Int)<r.lv) (hi:i<r.ti.length) (h:q v r.ti[i]=true):jN r (fun v=>r.ti.any (q v))=true:=by
 unfold jN
 exact ZM.2 ⟨v,ZT.2 (by omega),ZM.2 ⟨_,Zj hi,h⟩⟩
theorem yx {r:Ro} {q:Int→Ti→Bool} (h:∀ v:Nat,v<r.lv.toNat→∀ (i:Nat) (hi:i<r.ti.length),q v r.ti[i]=false):jN r (fun v=>r.ti.any (q v))=false:=by
 refine lr.2 fun v h0 h1=>Zal.2 fun x hx=>?_
 obtain ⟨i,hi,rfl⟩:=Zs hx
 have:=h v.toNat (by omega) i hi
 rw [show ((v.toNat:Nat):Int)=v by omega] at this
 rw [this];decide
set_option maxHeartbeats 2000000 in
theorem wN {r:Ro} {s d t p:Value} {w:World} (h:RR w r s d t p) (hf:me r) (aeP:1≤r.lv∧r.lv≤3):aj Tryz.prog 128 [RA r s d t p] w (.int .i64 (zm r)):=by
 have h1:=Rd.one h.sr
 have h2:=Rd.one h.de
 have h3:=Rd.one h.ti
 have h4:=Rd.one h.po
 have Rq:∀ (o:ByteArray) {w'},aH [] w w'→aj Tryz.prog 230 [.agg #[.int .i64 r.lv,.int .i64 r.ma,s,d,t,p],.string o] w' (.int .i64 (dW r o)):=fun o _ hk=>M4 o (h.keeps hk) hf
 have UQ:∀ (o:ByteArray) {w'},aH [] w w'→aj Tryz.prog 231 [.agg #[.int .i64 r.lv,.int .i64 r.ma,s,d,t,p],.string o] w' (.int .i64 (jZ r o)):=fun o _ hk=>Nr o (h.keeps hk)
 have XN:∀ (o:ByteArray) {w'},aH [] w w'→aj Tryz.prog 232 [.agg #[.int .i64 r.lv,.int .i64 r.ma,s,d,t,p],.string o] w' (.int .i64 (kq r o)):=fun o _ hk=>It o (h.keeps hk)
 have Xn:∀ (v:Int) (o:ByteArray) {w'},aH [] w w'→aj Tryz.prog 233 [.agg #[.int .i64 r.lv,.int .i64 r.ma,s,d,t,p],.int .i64 v,.string o] w' (.bool (ny r.po v o)):=fun v o _ hk=>P1 v o (h.keeps hk)
 have NJ:∀ (v:Int) (o:ByteArray) {w'},aH [] w w'→aj Tryz.prog 133 [.agg #[.int .i64 r.lv,.int .i64 r.ma,s,d,t,p],.int .i64 v,.string o] w' (.string ((ez r.po v o).getD ⟨#[]⟩)):=fun v o _ hk=>E3 v o (h.keeps hk)
 have YA:∀ (v:Int) (o:ByteArray) w',aH [] w w'→bh Tryz.prog 132 [.agg #[.int .i64 r.lv,.int .i64 r.ma,s,d,t,p],.int .i64 v,.string o,.int .i64 8] w' [] (fun _:Option Addr×Nat=>True) (fun z=>.slice z.1 (tg r.po v 8 o).length z.2) (fun z=>[row 9 1 (.slice z.1 (tg r.po v 8 o).length z.2) (tg r.po v 8 o).length (aM (tg r.po v 8 o))]):=fun v o w' hk=>bh.Dg (val:=id) (Oq v o 8 (by decide) (h.keeps hk))
 have J7:=h.po
 have BO:=h.ti
 obtain ⟨a4,gi,VO,QE,rfl,yi,mz,Hd,zV⟩:=J7
 obtain ⟨a3,ee,K9,Iw,rfl,nr,gB,tw,qk⟩:=BO
 rw [cT] at *
 rw [bY] at *
 unfold maxLen at gB mz
 obtain ⟨f1,f2,f3,f4⟩:=hf
 unfold RA
 refine ah Tryz.func128 rfl rfl ?_
 refine Jr<|Jy rfl rfl fun _ _=>Ja rfl<|Jn<|Jq<|Jr<|Ja rfl<|Jn<|J0 ?_
 rename_i b1 sX
 refine aX (ι:=Nat) (fun x=>x≤r.po.length∧∀ i,i<x→Gb r i=0) (fun x=>[(3,.int .i64 (x:Nat)),(1,.pointer (some ⟨b1,0,none⟩))]) (fun x=>[JQ b1 r s d (.slice a3 r.ti.length ee) (.slice a4 r.po.length gi)]) (fun x=>r.po.length-x) ?_ ?_
 ·apply aI (0:Nat) ⟨Zi _,fun i h=>absurd h (ZO _)⟩
  case hs1=>exact cd
  case ht=>(try simp only [Ze,Zf,Za]);exact .cons .here .nil
 rintro k ⟨hk,hz⟩
 by_cases aK:k<r.po.length
 ·have cB:=Hd (kg aK)
  obtain ⟨fa,aC⟩:=zV k _ (iq aK)
  unfold Po.cells at aC
  have jd:=Qw (r:=r) aK
  have S2:∀ e:Int,Gb r k=e→e≠0→zm r=e:=fun e he hne=>by
   have hb:iy (Gb r) r.po.length=e:=by rw [← he];exact ep hz aK (by rw [he];exact hne)
   unfold zm
   rw [hb,if_pos hne]
  have jE:Gb r k=0→∀ i,i<k+1→Gb r i=0:=fun e i hi=>by
   by_cases e2:i=k
   ·rw [e2];exact e
   ·exact hz i (by omega)
  generalize hx:r.po[k]=x at aC jd
  (refine Jq<|Jr<|Jv rfl<|bP rfl rfl ae<|JL rfl .here rfl<|JI rfl<|JA rfl<|Jn<|Jd rfl fun ar=>Jk<|Jq<|J0<|Jr<|bP rfl rfl ae<|JL rfl .here rfl<|Jv rfl<|ab (fG cB ar) rfl<|ab (gS (eF.base aC rfl)) rfl<|Jz rfl rfl fun _ _=>aq (.of rfl) (.of rfl) .here rfl rfl (fo rfl rfl rfl) (bF rfl) ak<|Jn<|Jq<|Jq ?_)
  with_reducible refine cQ 29 (by kernel_rfl) ?_
  (refine an kB rfl<|an (gT .here) rfl<|an kB rfl<|an (gT (.there .here)) rfl<|an (rR (.of rfl) (.of rfl) (QV (by omega))) rfl<|aT eK rfl (fun w' aB=>(tQ _ 0 _ w'))<|an (cL (.there .here)) rfl<|an kB rfl<|an (gT .here) rfl<|aT bd rfl (fun w' aB=>(Rq _ (Mem.keeps aB)))<|an (k8 (.of rfl) (.of rfl)) rfl<|aT bd rfl (fun w' aB=>(kb _ 10 w'))<|an (cL (.there .here)) rfl<|an kB rfl<|an (gT .here) rfl<|aT bd rfl (fun w' aB=>(UQ _ (Mem.keeps aB)))<|an (k8 (.of rfl) (.of rfl)) rfl<|aT bd rfl (fun w' aB=>(kb _ 10 w'))<|an (cL (.there .here)) rfl<|an kB rfl<|an (gT .here) rfl<|aT bd rfl (fun w' aB=>(XN _ (Mem.keeps aB)))<|an (cL (.there .here)) rfl<|an kB rfl<|an (gT .here) rfl<|aT bd rfl (fun w' aB=>(UQ _ (Mem.keeps aB)))<|an (gl (.of rfl) (.of rfl)) rfl<|aT bd rfl (fun w' aB=>(kb _ 24 w'))<|ek (aD (.cons (.of rfl) (.cons (.of rfl) (.cons (.of rfl) (.cons (.of rfl) .nil)))) rfl rfl rfl rfl) rfl rfl ?_)
  with_reducible refine dp rfl fun bq mN=>?_
  (refine ai bL rfl (fun w' aB=>(j8 (Mem.dh aB .here rfl rfl) (bU.cons (bU.cons (bU.cons (bU.cons bU.nil))))))<|Ja rfl<|Ji<|Jv rfl<|JD rfl<|Jn<|fP rfl (fun ar=>?_) fun ar=>?_;refine Jr<|Jv rfl<|Ja rfl<|Jn<|Ju<|Jm<|Jh<|Jh<|Jm<|Jh<|JT ?_;rotate_left;refine Jk<|Jr<|Jv rfl<|JE rfl<|Jn<|fP rfl (fun ar=>?_) fun ar=>?_;refine Jr<|bP rfl rfl ae<|JL rfl bT rfl<|Jv rfl<|JS rfl (by omega)<|ab (az (.of rfl) (.of rfl) cB (by omega) (by omega) bj) rfl ?_;rotate_left;refine Jw<|Jj<|Jt<|Jg<|Jv rfl<|JB rfl (by omega)<|Ja rfl<|Jn ?_;rotate_right;rotate_right)
  ·have e:=S2 (LB r x) (by rw [jd,if_pos (show LB r x≠0 from ar)]) ar
   rw [e];rfl
  ·rename_i b4 wb hE
   have hE:LB r x=0:=Zo.1 hE
   have LN:0<k:=by omega
   have NI:k-1<r.po.length:=by omega
   obtain ⟨aaF,dZ⟩:=zV (k-1) _ (iq NI)
   unfold Po.cells at dZ
   rw [show QE+(k-1)*3=QE+((k:Int)-1).toNat*3 by rw [show ((k:Int)-1).toNat=k-1 by omega]] at dZ
   rw [if_neg (not_not_intro hE),Zc NI,Zaj] at jd
   generalize r.po[k-1]=y at dZ jd
   (refine ab (gS (eF.base dZ rfl)) rfl<|Jz rfl rfl fun _ _=>aq (.of rfl) (.of rfl) .here rfl rfl (fo rfl rfl rfl) (bF rfl) ak<|Jn<|Jq ?_)
   with_reducible refine en 23 (by kernel_rfl) ?_
   (refine oO rfl rfl ae<|aL (gT bT) rfl<|oO rfl rfl ae<|aL (gT .here) rfl<|aL (k8 (.of rfl) (.of rfl)) rfl<|ly rfl rfl<|dF rfl rfl inferInstance (fun hg bB=>(ao (.of rfl) ae)) rfl<|dF rfl rfl inferInstance (fun hg bB=>(ag (.bI hg rfl) (At.lit bT rfl))) rfl<|dF rfl rfl inferInstance (fun hg bB=>(ao (.of rfl) ae)) rfl<|dF rfl rfl inferInstance (fun hg bB=>(ag (.bI hg rfl) (At.lit .here rfl))) rfl<|dF rfl rfl inferInstance (fun hg bB=>(lY (.bI hg rfl) (.bI hg rfl))) rfl<|dF rfl rfl inferInstance (fun hg bB=>(a7 (.bI hg rfl))) rfl<|qA rfl rfl inferInstance (fun hg bB=>(bS (.of rfl) c6 ak (by rfl))) rfl<|qA rfl rfl inferInstance (fun hg bB=>(ao (.of rfl) ae)) rfl<|qA rfl rfl inferInstance (fun hg bB=>(ag (.bI hg rfl) (At.lit bT rfl))) rfl<|su rfl rfl (fun hg=>(aY (.of rfl) (.cons (.bI hg rfl) (.cons (.bI hg rfl) .nil)) inferInstance dX)) rfl (fun hg w' aB=>(Rq _ (Mem.keeps aB)))<|qA rfl rfl inferInstance (fun hg bB=>(bS (.of rfl) c6 ak (by rfl))) rfl<|qA rfl rfl inferInstance (fun hg bB=>(ao (.of rfl) ae)) rfl<|qA rfl rfl inferInstance (fun hg bB=>(ag (.bI hg rfl) (At.lit .here rfl))) rfl<|su rfl rfl (fun hg=>(aY (.of rfl) (.cons (.bI hg rfl) (.cons (.bI hg rfl) .nil)) inferInstance dX)) rfl (fun hg w' aB=>(Rq _ (Mem.keeps aB)))<|qA rfl rfl inferInstance (fun hg bB=>(k9 (.bI hg rfl) (.bI hg rfl))) rfl<|dF rfl rfl inferInstance (fun hg bB=>(kG hg (.bI hg rfl) rfl)) rfl<|aL (aZ (.of rfl) rfl) rfl ?_)
   with_reducible refine eo ?_
   (refine Jn<|nF rfl (fun ar=>?_) fun ar=>?_;refine Jr<|Ja rfl<|Jn<|Je<|Jm<|Jh<|Jh<|Jm<|Jh<|JT ?_;rotate_left;refine Jw<|Jj<|Jt<|Jg<|Jv rfl<|JB rfl (by omega)<|Ja rfl<|Jn ?_;rotate_right)
   ·have YY:0<k∧(x.lv<y.lv∨x.lv=y.lv∧dW r x.ou≤dW r y.ou):=⟨LN,ar⟩
    have e:=S2 11 (by rw [jd,if_pos YY]) (by decide)
    rw [e]
   ·apply aJ (k+1) ⟨(show k+1≤r.po.length from aK),jE (by rw [jd,if_neg (fun q=>q.2.elim ar.1 fun z=>ar.2.elim (fun z2=>z2 z.1) fun z2=>z2 z.2)])⟩ (show r.po.length-(k+1)<r.po.length-k by omega)
    case hs1=>exact cd
    case ht=>(try simp only [Ze,Zf,Za]);exact .cons c6 .nil
  ·rename_i b4 wb hE
   have hE:LB r x=0:=Zo.1 hE
   apply aJ (k+1) ⟨(show k+1≤r.po.length from aK),jE (by rw [jd,if_neg (not_not_intro hE),if_neg (fun q=>ar (by omega))])⟩ (show r.po.length-(k+1)<r.po.length-k by omega)
   case hs1=>exact cd
   case ht=>(try simp only [Ze,Zf,Za]);exact .cons bT .nil
 obtain rfl:k=r.po.length:=by omega
 have Wa:iy (Gb r) r.po.length=0:=dj.2 hz
 have hqs:zm r=TN r:=by unfold zm;rw [Wa];rfl
 rw [hqs,MU]
 clear hk aK hz
 (refine Jq<|Jr<|Jv rfl<|bP rfl rfl ae<|JL rfl .here rfl<|JI rfl<|JA rfl<|Jn<|Jc rfl fun ar=>Jp<|Jl<|Jo<|Jt<|Jq<|Jr<|Ja rfl<|Jn<|J0 ?_)
 refine aX (ι:=Nat) (fun v=>v≤r.lv.toNat∧∀ u,u<v→∀ (i:Nat) (hi:i<r.ti.length),GS r (u:Nat) r.ti[i]=false) (fun v=>[(7,.int .i64 (v:Nat)),(1,.pointer (some ⟨b1,0,none⟩))]) (fun _=>[JQ b1 r s d (.slice a3 r.ti.length ee) (.slice a4 r.po.length gi)]) (fun v=>r.lv.toNat-v) ?_ ?_
 ·apply aI (0:Nat) ⟨Zi _,fun i h=>absurd h (ZO _)⟩
  case hs1=>exact cd
  case ht=>(try simp only [Ze,Zf,Za]);exact .cons .here .nil
 rintro v ⟨hv,hz⟩
 by_cases Q3:v<r.lv.toNat
 ·have LH:((v:Nat):Int)<r.lv:=by omega
  (refine Jq<|Jr<|Jv rfl<|bP rfl rfl ae<|JL rfl .here rfl<|JA rfl<|Jn<|Jd rfl fun ar=>Jk<|Jq<|J0<|Jr<|Ja rfl<|Jn<|J0 ?_)
  refine aX (ι:=Nat) (fun i=>i≤r.ti.length∧∀ (j:Nat) (hj:j<r.ti.length),j<i→GS r (v:Nat) r.ti[j]=false) (fun i=>[(8,.int .i64 (i:Nat)),(7,.int .i64 (v:Nat)),(1,.pointer (some ⟨b1,0,none⟩))]) (fun _=>[JQ b1 r s d (.slice a3 r.ti.length ee) (.slice a4 r.po.length gi)]) (fun i=>r.ti.length-i) ?_ ?_
  ·apply aI (0:Nat) ⟨Zi _,fun j _ h=>absurd h (ZO _)⟩
   case hs1=>exact cd
   case ht=>(try simp only [Ze,Zf,Za]);exact .cons .here .nil
  rintro i ⟨hi,hy⟩
  by_cases iw:i<r.ti.length
  ·have cB:=tw (fq iw)
   have c0:w.cell? ⟨K9,Iw+i*3,none⟩=some (.string r.ti[i].nm):=(qk i _ (eB iw)).2 0 _ rfl
   have XE:∀ b,GS r (v:Nat) r.ti[i]=b→GS r (v:Nat) r.ti[i]=b:=fun _ h=>h
   unfold GS at XE
   have jE:GS r (v:Nat) r.ti[i]=false→∀ (j:Nat) (hj:j<r.ti.length),j<i+1→GS r (v:Nat) r.ti[j]=false:=fun e j hj nq=>by
    by_cases e2:j=i
    ·subst e2;exact e
    ·exact hy j hj (by omega)
   have RG:GS r (v:Nat) r.ti[i]=true→jN r (fun v=>r.ti.any (GS r v))=true:=Cv LH iw
   generalize Xl:r.ti[i].nm=x at c0
   (refine Jq<|Jr<|Jv rfl<|bP rfl rfl ae<|JL rfl .here rfl<|JI rfl<|JA rfl<|Jn<|Jd rfl fun ar=>Jk<|Jq<|J0<|Jq ?_)
   have U3:=YA (v:Nat) x
   have SU:=Fx r.po (v:Nat) 8 x
   have U1:GS r (v:Nat) r.ti[i]=decide ((tg r.po (v:Nat) 8 x).length=8):=by unfold GS;rw [Xl]
   generalize tg r.po (v:Nat) 8 x=C at U3 SU U1
   with_reducible refine dK 9 (by kernel_rfl) ?_
   (refine au (fun β=>(bS (.of rfl) .here ak (by rfl))) bC rfl<|au (fun β=>(a7 (.of rfl))) bC rfl<|au (fun β=>(ao (.of rfl) ae)) bC rfl<|au (fun β=>(ag (.of rfl) (At.lit .here rfl))) bC rfl<|au (fun β=>(a7 (.of rfl))) bC rfl<|au (fun β=>(az (.of rfl) (.of rfl) cB (by omega) ar bj)) bC rfl<|au (fun β=>(ao (.of rfl) ae)) bC rfl<|au (fun β=>(ag (.of rfl) (At.base c0 rfl))) bC rfl ?_)
   dsimp only [Nat.zero_add,Nat.reduceAdd]
   with_reducible apply dH (ι:=Option Addr×Nat) (Φ:=fun _=>True) (val:=fun z=>.slice z.1 C.length z.2) (own:=fun z=>[row 9 1 (.slice z.1 C.length z.2) C.length (aM C)]) (g:=R7) (B:=[]) (args:=fun _=>[.agg #[.int .i64 r.lv,.int .i64 r.ma,s,d,.slice a3 r.ti.length ee,.slice a4 r.po.length gi],.int .i64 (v:Nat),.string x,.int .i64 8])
   case hg=>exact DS
   case hB=>rfl
   case hr=>exact fun β=>aY (.of rfl) (.cons (.of rfl) (.cons (.of rfl) (.cons (.of rfl) (.cons (.of rfl) .nil)))) inferInstance rfl
   case hd=>rfl
   case hc=>exact fun β w' hb=>U3 w' hb.mem.keeps
   dsimp only [Nat.reduceAdd]
   refine fh fun β=>?_
   dsimp only [eu,Za,Zb,List.append_eq,Nat.reduceAdd]
   generalize R7 (β 8)=y
   obtain ⟨ya,yc⟩:=y
   clear β
   dsimp only
   refine cu (rs:=[9]) (by kernel_rfl) (by simp) (ZA.2 ⟨?_,fun _ h=>absurd h Zq⟩)
   refine cG rfl ?_
   refine JI rfl<|Jn ?_
   refine cu (rs:=[10]) (by kernel_rfl) (by simp) (ZA.2 ⟨?_,fun _ h=>absurd h Zq⟩)
   refine cG rfl ?_
   refine JC rfl<|Jn ?_
   with_reducible refine cH (by kernel_rfl) ?_
   (refine Jt<|fP rfl (fun ar=>?_) fun ar=>?_;refine Jr<|Ja rfl<|Jn<|Je<|Jm<|Jh<|Jh<|Jm<|Jm<|Jh<|Jh<|Jm<|Jh<|JT ?_;rotate_left;refine Jw<|Jj<|Jt<|Jg<|Jv rfl<|JB rfl (by omega)<|Ja rfl<|Jn ?_;rotate_right)
   ·rw [if_pos (RG (by rw [U1];exact decide_eq_true (by omega)))]
   apply aJ (i+1) ⟨(show i+1≤r.ti.length from iw),jE (by rw [U1];exact decide_eq_false (by omega))⟩ (show r.ti.length-(i+1)<r.ti.length-i by omega)
   case hs1=>exact cd
   case ht=>(try simp only [Ze,Zf,Za]);exact .cons (.there .here) .nil
  obtain rfl:i=r.ti.length:=by omega
  clear hi iw
  (refine Jq<|Jr<|Jv rfl<|bP rfl rfl ae<|JL rfl .here rfl<|JI rfl<|JA rfl<|Jn<|Jc rfl fun ar=>Jp<|Jl<|Jo<|Jj<|Jt<|Jg<|Jv rfl<|JB rfl (by omega)<|Ja rfl<|Jn ?_)
  apply aJ (v+1) ⟨(show v+1≤r.lv.toNat from Q3),fun u hu j hj=>by
   by_cases e2:u=v
   ·subst e2;exact hy j hj hj
   ·exact hz u (by omega) j hj⟩ (show r.lv.toNat-(v+1)<r.lv.toNat-v by omega)
  case hs1=>exact cd
  case ht=>(try simp only [Ze,Zf,Za]);exact .cons .here .nil
 obtain rfl:v=r.lv.toNat:=by omega
 have aR:jN r (fun v=>r.ti.any (GS r v))=false:=yx hz
 clear hv Q3 hz
 (refine Jq<|Jr<|Jv rfl<|bP rfl rfl ae<|JL rfl .here rfl<|JA rfl<|Jn<|Jc rfl fun ar=>Jp<|Jl<|Jo<|Jt<|Jq<|Jr<|Ja rfl<|Jn<|J0 ?_)
 rw [if_neg (by rw [aR];decide)]
 refine aX (ι:=Nat) (fun v=>v≤r.lv.toNat∧∀ u,u<v→∀ (i:Nat) (hi:i<r.ti.length),EP r (u:Nat) r.ti[i]=false) (fun v=>[(9,.int .i64 (v:Nat)),(1,.pointer (some ⟨b1,0,none⟩))]) (fun _=>[JQ b1 r s d (.slice a3 r.ti.length ee) (.slice a4 r.po.length gi)]) (fun v=>r.lv.toNat-v) ?_ ?_
 ·apply aI (0:Nat) ⟨Zi _,fun i h=>absurd h (ZO _)⟩
  case hs1=>exact cd
  case ht=>(try simp only [Ze,Zf,Za]);exact .cons .here .nil
 rintro v ⟨hv,hz⟩
 by_cases Q3:v<r.lv.toNat
 ·have LH:((v:Nat):Int)<r.lv:=by omega
  (refine Jq<|Jr<|Jv rfl<|bP rfl rfl ae<|JL rfl .here rfl<|JA rfl<|Jn<|Jd rfl fun ar=>Jk<|Jq<|J0<|Jr<|Ja rfl<|Jn<|J0 ?_)
  refine aX (ι:=Nat) (fun i=>i≤r.ti.length∧∀ (j:Nat) (hj:j<r.ti.length),j<i→EP r (v:Nat) r.ti[j]=false) (fun i=>[(10,.int .i64 (i:Nat)),(9,.int .i64 (v:Nat)),(1,.pointer (some ⟨b1,0,none⟩))]) (fun _=>[JQ b1 r s d (.slice a3 r.ti.length ee) (.slice a4 r.po.length gi)]) (fun i=>r.ti.length-i) ?_ ?_
  ·apply aI (0:Nat) ⟨Zi _,fun j _ h=>absurd h (ZO _)⟩
   case hs1=>exact cd
   case ht=>(try simp only [Ze,Zf,Za]);exact .cons .here .nil
  rintro i ⟨hi,hy⟩
  by_cases iw:i<r.ti.length
  ·have cB:=tw (fq iw)
   have c0:w.cell? ⟨K9,Iw+i*3,none⟩=some (.string r.ti[i].nm):=(qk i _ (eB iw)).2 0 _ rfl
   have XE:∀ b,EP r (v:Nat) r.ti[i]=b→EP r (v:Nat) r.ti[i]=b:=fun _ h=>h
   unfold EP at XE
   have jE:EP r (v:Nat) r.ti[i]=false→∀ (j:Nat) (hj:j<r.ti.length),j<i+1→EP r (v:Nat) r.ti[j]=false:=fun e j hj nq=>by
    by_cases e2:j=i
    ·subst e2;exact e
    ·exact hy j hj (by omega)
   have RG:EP r (v:Nat) r.ti[i]=true→jN r (fun v=>r.ti.any (EP r v))=true:=Cv LH iw
   generalize Xl:r.ti[i].nm=x at c0
   (refine Jq<|Jr<|Jv rfl<|bP rfl rfl ae<|JL rfl .here rfl<|JI rfl<|JA rfl<|Jn<|Jd rfl fun ar=>Jk<|Jq<|J0<|Jr<|bP rfl rfl ae<|JL rfl .here rfl<|Jv rfl<|ab (fG cB ar) rfl<|bP rfl rfl ae<|ab (ag (.of rfl) (At.base c0 rfl)) rfl<|Ja rfl<|Jn<|Jq ?_)
   have XO:EP r (v:Nat) r.ti[i]=(ny r.po (v:Nat) x != !decide ((ez r.po (v:Nat) x).getD ⟨#[]⟩=⟨#[]⟩)):=by unfold EP;rw [Xl]
   have Uy:EP r (v:Nat) r.ti[i]=(ny r.po (v:Nat) x != decide ((ez r.po (v:Nat) x).getD ⟨#[]⟩≠⟨#[]⟩)):=by rw [XO,decide_not]
   with_reducible refine en 9 (by kernel_rfl) ?_
   (refine aL (cL .here) rfl<|ly rfl rfl<|ly rfl rfl<|gD eK rfl (fun w' aB=>(Xn _ x (Mem.keeps aB)))<|aL (cL .here) rfl<|ly rfl rfl<|ly rfl rfl<|gD eK rfl (fun w' aB=>(NJ _ x (Mem.keeps aB)))<|aL (fR (.of rfl) (.of rfl)) rfl ?_)
   with_reducible refine eo ?_
   skip
   refine ab (Bp (.of rfl) (.of rfl)) rfl ?_
   (refine Jn<|nF rfl (fun ar=>?_) fun ar=>?_;refine Jr<|Ja rfl<|Jn<|Je<|Jm<|Jh<|Jh<|Jm<|Jm<|Jh<|Jh<|Jm<|Jh<|JT ?_;rotate_left;refine Jw<|Jj<|Jt<|Jg<|Jv rfl<|JB rfl (by omega)<|Ja rfl<|Jn ?_;rotate_right)
   ·rw [if_pos (RG (by rw [Uy];exact ar))]
   apply aJ (i+1) ⟨(show i+1≤r.ti.length from iw),jE (by rw [Uy];exact ar)⟩ (show r.ti.length-(i+1)<r.ti.length-i by omega)
   case hs1=>exact cd
   case ht=>(try simp only [Ze,Zf,Za]);exact .cons .here .nil
  obtain rfl:i=r.ti.length:=by omega
  clear hi iw
  (refine Jq<|Jr<|Jv rfl<|bP rfl rfl ae<|JL rfl .here rfl<|JI rfl<|JA rfl<|Jn<|Jc rfl fun ar=>Jp<|Jl<|Jo<|Jj<|Jt<|Jg<|Jv rfl<|JB rfl (by omega)<|Ja rfl<|Jn ?_)
  apply aJ (v+1) ⟨(show v+1≤r.lv.toNat from Q3),fun u hu j hj=>by
   by_cases e2:u=v
   ·subst e2;exact hy j hj hj
   ·exact hz u (by omega) j hj⟩ (show r.lv.toNat-(v+1)<r.lv.toNat-v by omega)
  case hs1=>exact cd
  case ht=>(try simp only [Ze,Zf,Za]);exact .cons .here .nil
 obtain rfl:v=r.lv.toNat:=by omega
 have l7:jN r (fun v=>r.ti.any (EP r v))=false:=yx hz
 clear hv Q3 hz
 (refine Jq<|Jr<|Jv rfl<|bP rfl rfl ae<|JL rfl .here rfl<|JA rfl<|Jn<|Jc rfl fun ar=>Jp<|Jl<|Jo<|Jt<|Jr<|Ja rfl<|Jn<|Je<|JT ?_)
 rw [if_neg (by rw [l7];decide)]
theorem pN {r:Ro} {s d t p:Value} {w:World} (h:RR w r s d t p) (hf:me r):aj Tryz.prog 25 [RA r s d t p] w (.int .i64 (gC r)):=by
 have h1:=Rd.one h.sr
 have h2:=Rd.one h.de
 have h3:=Rd.one h.ti
 have h4:=Rd.one h.po
 have hcp:∀ {w'},aH [] w w'→aj Tryz.prog 127 [.agg #[.int .i64 r.lv,.int .i64 r.ma,s,d,t,p]] w' (.int .i64 (jK r)):=fun hk=>Ai (h.keeps hk) hf
 have Yw:mY r=0→∀ {w'},aH [] w w'→aj Tryz.prog 128 [.agg #[.int .i64 r.lv,.int .i64 r.ma,s,d,t,p]] w' (.int .i64 (zm r)):=fun e _ hk=>wN (h.keeps hk) hf ⟨(uZ e).1,(uZ e).2.1⟩
 rw [← Sq]
 unfold RA ckQ
 refine ah Tryz.func25 rfl rfl ?_
 refine Jr<|Jy rfl rfl fun _ _=>Ja rfl<|Jn<|Jq<|Jq ?_
 with_reducible refine cQ 7 (by kernel_rfl) ?_
 (refine an kB rfl<|an (gT .here) rfl<|aT eK rfl (fun w' aB=>(tQ _ 1 3 w'))<|an kB rfl<|an (gT .here) rfl<|aT eK rfl (fun w' aB=>(tQ _ 1 4 w'))<|ek (aD (.cons (.of rfl) (.cons (.of rfl) .nil)) rfl rfl rfl rfl) rfl rfl ?_)
 with_reducible refine dp rfl fun bq mN=>?_
 refine ai bL rfl (fun w' aB=>j8 (Mem.dh aB .here rfl rfl) (bU.cons (bU.cons bU.nil))) ?_
 have hlE:mY r=aV [fy r.lv 1 3,fy r.ma 1 4]:=rfl
 rw [← hlE]
 (refine Ja rfl<|Ji<|Jv rfl<|JD rfl<|Jn<|fP rfl (fun ar=>?_) fun ar=>?_;refine Jr<|Jv rfl<|Ja rfl<|Jn<|Ju<|JT ?_;rotate_left;refine Jk<|Jq<|Jr<|ab (cL (.there .here)) rfl ?_;rotate_right)
 ·rw [if_pos ar]
 have hl:mY r=0:=Zo.1 ar
 have S1:=fun {w'}=>Yw hl (w':=w')
 rw [if_neg (not_not_intro hl)]
 (refine ai bL rfl (fun w' aB=>(hcp (Mem.keeps aB)))<|Ja rfl<|Ji<|Jv rfl<|JD rfl<|Jn<|fP rfl (fun ar=>?_) fun ar=>?_;refine Jr<|Jv rfl<|Ja rfl<|Jn<|Ju<|JT ?_;rotate_left;refine Jk<|Jr<|ab (cL (.there .here)) rfl<|ai bL rfl (fun w' aB=>(S1 (Mem.keeps aB)))<|Ja rfl<|Jn<|Je<|JT ?_;rotate_right)
 ·rw [if_pos ar]
 rw [if_neg ar]
def tt (l:List ByteArray):Bool:=l.all fun s=>decide (s.size≤40)
theorem Bb {lv:Value} {l:List ByteArray} {w:World} (h:Rd w lv 1 (iI l)):aj Tryz.prog 69 [lv] w (.bool (tt l)):=by
 obtain ⟨a,cp,b,o',rfl,c7,bQ,ha,hc⟩:=h
 rw [bV] at *
 unfold maxLen at bQ
 refine ah Tryz.func69 rfl rfl ?_
 refine Jr<|Ja rfl<|Jn<|Jq<|Jr<|Ja rfl<|Jn<|J0 ?_
 refine aX (ι:=Nat) (fun k=>k≤l.length∧∀ j (hj:j<l.length),j<k→l[j].size≤40) (fun k=>[(3,.int .i64 (k:Nat)),(0,.slice a l.length cp)]) (fun _=>[]) (fun k=>l.length-k) ?_ ?_
 ·apply aI (0:Nat) ⟨Zi _,fun j _ hj=>absurd hj (ZO _)⟩
  case hs1=>exact cd
  case ht=>(try simp only [Ze,Zf,Za]);exact .nil
 rintro k ⟨hk,hf⟩
 by_cases aK:k<l.length
 ·have cB:=ha (k6 aK)
  have c0:w.cell? ⟨b,o'+k*1,none⟩=some (.string l[k]):=(hc k _ (jb aK)).2 0 _ rfl
  have hm:=Zj aK
  have sV:l[k].size≤40→∀ j (hj:j<l.length),j<k+1→l[j].size≤40:=fun q j hj Kg=>by
   by_cases e:j=k
   ·subst e;exact q
   ·exact hf j hj (by omega)
  generalize l[k]=x at c0 hm sV
  (refine Jq<|Jr<|Jv rfl<|Jv rfl<|JI rfl<|JA rfl<|Jn<|Jd rfl fun ar=>Jk<|Jq<|J0<|Jr<|Jv rfl<|Jv rfl<|ab (fG cB ar) rfl<|ab (ag (.of rfl) (At.base c0 rfl)) rfl<|ab (fJ (.of rfl)) rfl<|JE rfl<|Jn<|fP rfl (fun ar=>?_) fun ar=>?_;refine Jr<|Ja rfl<|Jn<|Je<|Jm<|Jh<|Jh<|Jm<|Jh<|JT ?_;rotate_left;refine Jw<|Jj<|Jt<|Jg<|Jv rfl<|JB rfl (by omega)<|Ja rfl<|Jn ?_;rotate_right)
  ·have sT:(40:Int)<(x.size:Nat):=ar
   have e:tt l=false:=List.all_eq_false.2 ⟨x,hm,by simp;omega⟩
   rw [e]
  ·have sT:¬ (40:Int)<(x.size:Nat):=ar
   apply aJ (k+1) ⟨(show k+1≤l.length from aK),sV (by omega)⟩ (show l.length-(k+1)<l.length-k by omega)
   case hs1=>exact cd
   case ht=>(try simp only [Ze,Zf,Za]);exact .nil
 ·have e:tt l=true:=Z3.2 fun x hx=>by
   obtain ⟨j,hj,rfl⟩:=Zs hx
   exact decide_eq_true (hf j hj (by omega))
  obtain rfl:k=l.length:=by omega
  rw [e]
  refine Jq<|Jr<|Jv rfl<|Jv rfl<|JI rfl<|JA rfl<|Jn<|Jc rfl fun ar=>Jp<|Jl<|Jo<|Jt<|Jr<|Ja rfl<|Jn<|Je<|JT ?_
  rfl
def poN (p:Po):List ByteArray:=[p.ou,p.ip]
def Be (r:Ro) (k:Nat):List ByteArray:=ef r++((r.po.take k).map poN).flatten
def wx (r:Ro):Bool:=decide (r.sr.length≤10)&&decide (r.de.length≤10)&&decide (r.ti.length≤10)&&decide (r.po.length≤48)
def rN (r:Ro):Bool:=wx r&&tt (Be r r.po.length)
theorem xD {r:Ro} {k:Nat} (h:k<r.po.length):Be r (k+1)=Be r k++[r.po[k].ou,r.po[k].ip]:=by
 unfold Be
 rw [Zn h,Zr,Zab,Zh]
 rfl
theorem qN {r:Ro} (h:wx r=true):r.sr.length≤10∧r.de.length≤10∧r.ti.length≤10∧r.po.length≤48:=by
 unfold wx at h
 simp only [Zm,decide_eq_true_eq] at h
 exact ⟨h.1.1.1,h.1.1.2,h.1.2,h.2⟩
theorem uE {r:Ro} (h:wx r=true):me r:=by
 have:=qN h
 exact ⟨by omega,by omega,by omega,by omega⟩
theorem HR {r:Ro} (h:wx r=true):lz r:=by
 have:=qN h
 exact ⟨by omega,by omega,by omega⟩
theorem Bd (r:Ro):∀ k,k≤r.po.length→(Be r k).length=(ef r).length+2*k
 | 0,_=>by unfold Be;simp
 | k+1,h=>by rw [xD (by omega),Zg,Bd r k (by omega)];simp;omega
theorem Mz {r:Ro} {s d t p:Value} {w:World} (h:RR w r s d t p):aj Tryz.prog 18 [RA r s d t p] w (.bool (rN r)):=by
 have h1:=Rd.one h.sr
 have h2:=Rd.one h.de
 have h3:=Rd.one h.ti
 have h4:=Rd.one h.po
 have XW:wx r=true→∀ w',aH [] w w'→bh Tryz.prog 77 [.agg #[.int .i64 r.lv,.int .i64 r.ma,s,d,t,p]] w' [] (fun _:Value=>True) id (fun x=>[row 9 1 x (ef r).length (aM (ef r))]):=fun e w' hk=>EU (h.keeps hk) (uE e)
 have Gu:=h.sr
 have GG:=h.de
 have J7:=h.po
 have BO:=h.ti
 obtain ⟨a1,er,PH,OS,rfl,pJ,iW,lR,kz⟩:=Gu
 obtain ⟨a2,dB,PG,OR,rfl,ku,fb,jz,j6⟩:=GG
 obtain ⟨a3,ee,K9,Iw,rfl,nr,gB,tw,qk⟩:=BO
 obtain ⟨a4,gi,VO,QE,rfl,yi,mz,Hd,zV⟩:=J7
 rw [cE] at *
 rw [cg] at *
 rw [bY] at *
 rw [cT] at *
 unfold maxLen at iW fb gB mz
 unfold RA
 refine ah Tryz.func18 rfl rfl ?_
 (refine Jr<|Jy rfl rfl fun _ _=>Ja rfl<|Jn<|Jq<|Jr<|bP rfl rfl ae<|JL rfl .here rfl<|JI rfl<|JE rfl<|Jv rfl<|aA rfl rfl inferInstance (fun hg bB=>(ao (.of rfl) ae)) rfl<|aA rfl rfl inferInstance (fun hg bB=>(ag (.bI hg rfl) (At.lit .here rfl))) rfl<|aA rfl rfl inferInstance (fun hg bB=>(bD (.bI hg rfl))) rfl<|aA rfl rfl inferInstance (fun hg bB=>(iK (.bI hg rfl) (.of rfl))) rfl<|ab (aZ (.of rfl) rfl) rfl<|Jv rfl<|aA rfl rfl inferInstance (fun hg bB=>(ao (.of rfl) ae)) rfl<|aA rfl rfl inferInstance (fun hg bB=>(ag (.bI hg rfl) (At.lit .here rfl))) rfl<|aA rfl rfl inferInstance (fun hg bB=>(bD (.bI hg rfl))) rfl<|aA rfl rfl inferInstance (fun hg bB=>(iK (.bI hg rfl) (.of rfl))) rfl<|ab (aZ (.of rfl) rfl) rfl<|Jv rfl<|aA rfl rfl inferInstance (fun hg bB=>(ao (.of rfl) ae)) rfl<|aA rfl rfl inferInstance (fun hg bB=>(ag (.bI hg rfl) (At.lit .here rfl))) rfl<|aA rfl rfl inferInstance (fun hg bB=>(bD (.bI hg rfl))) rfl<|aA rfl rfl inferInstance (fun hg bB=>(iK (.bI hg rfl) (.of rfl))) rfl<|ab (aZ (.of rfl) rfl) rfl<|Jn<|nF rfl (fun ar=>?_) fun ar=>?_;refine Jr<|Ja rfl<|Jn<|Ju<|JT ?_;rotate_left;refine Jk<|Jr<|ab (cL .here) rfl ?_;rotate_right)
 ·have e:rN r=false:=by
   unfold rN
   have e2:wx r=false:=by
    rw [← Zau]
    intro q
    have:=qN q
    omega
   rw [e2];rfl
  rw [e]
 have hA:wx r=true:=by
  unfold wx
  simp only [Zm,decide_eq_true_eq]
  omega
 obtain ⟨f1,f2,f3,f4⟩:=qN hA
 have CJ:=XW hA
 clear ar
 rename_i b1 sX
 have DM:(ef r).length≤30:=by
  unfold ef cC cy cU
  simp only [Zg,Zd]
  omega
 refine JN bL rfl (fun w1 aR=>CJ w1 aR.keeps) ?_
 intro x _
 dsimp only [id_eq,Zb,Za]
 refine Ja rfl<|Jn<|Jq<|Jr<|Ja rfl<|Jn<|J0 ?_
 refine aX (ι:=Nat×Value×List ByteArray) (fun y=>y.1≤r.po.length∧y.2.2=Be r y.1) (fun y=>[(4,.int .i64 (y.1:Nat)),(3,y.2.1),(1,.pointer (some ⟨b1,0,none⟩))]) (fun y=>[row 9 1 y.2.1 y.2.2.length (aM y.2.2),JQ b1 r (.slice a1 r.sr.length er) (.slice a2 r.de.length dB) (.slice a3 r.ti.length ee) (.slice a4 r.po.length gi)]) (fun y=>r.po.length-y.1) ?_ ?_
 ·apply aI (0,x,ef r) ⟨Zi _,by unfold Be;simp⟩
  case hs1=>exact cd
  case ht=>
   exact .cons .here (.cons .here .nil)
 rintro ⟨k,v',L⟩ ⟨hk,hL⟩
 dsimp only at hk hL ⊢
 have GJ:L.length=(ef r).length+2*k:=by rw [hL,Bd r k hk]
 have hlen:(aM L).length=L.length*1:=by rw [df];omega
 by_cases aK:k<r.po.length
 ·have cB:=Hd (kg aK)
  obtain ⟨fa,aC⟩:=zV k _ (iq aK)
  unfold Po.cells at aC
  have c1:=aC 1 _ rfl
  have c2:=aC 2 _ rfl
  have jE:=xD (r:=r) aK
  rw [← hL] at jE
  generalize r.po[k]=q at aC c1 c2 jE
  (refine Jq<|Jr<|Jv rfl<|bP rfl rfl ae<|JL rfl (.there .here) rfl<|JI rfl<|JA rfl<|Jn<|Jd rfl fun ar=>Jk<|Jq<|J0 ?_)
  with_reducible refine cQ 14 (by kernel_rfl) ?_
  (refine an kA rfl<|an kB rfl<|an (gT (.there .here)) rfl<|an kA rfl<|an (fG cB ar) rfl<|an kB rfl<|an (ag (.of rfl) (At.base c1 rfl)) rfl<|an kB rfl<|an (gT (.there .here)) rfl<|an kA rfl<|an (fG cB ar) rfl<|an kB rfl<|an (ag (.of rfl) (At.base c2 rfl)) rfl<|ek (aD (.cons (.of rfl) (.cons (.of rfl) .nil)) rfl rfl rfl rfl) rfl rfl ?_)
  with_reducible refine dp rfl fun bq mN=>?_
  refine bH (.of rfl) (.of rfl) (.there .here) .here ak (by rfl) (fN rfl rfl) (by rfl) (by rfl) (by rfl) eN (by rfl) ?_
  intro z
  refine Ja rfl<|Jx<|Jj<|Jt<|Jg<|Jv rfl<|JB rfl (by omega)<|Ja rfl<|Jn ?_
  apply aJ (k+1,z,L++[q.ou,q.ip]) ⟨(show k+1≤r.po.length from aK),jE.symm⟩ (by show r.po.length-(k+1)<r.po.length-k;omega)
  case hs1=>exact cd
  case ht=>
   show bz _ [row 9 1 z (L++[q.ou,q.ip]).length (aM (L++[q.ou,q.ip])),JQ b1 r (.slice a1 r.sr.length er) (.slice a2 r.de.length dB) (.slice a3 r.ti.length ee) (.slice a4 r.po.length gi)] _
   rw [show aM (L++[q.ou,q.ip])=aM L++[.string q.ou,.string q.ip] from eX _ _,Zg,show [q.ou,q.ip].length=2 from rfl]
   exact .cons .here (.cons (.there .here) .nil)
 obtain rfl:k=r.po.length:=by omega
 clear hk aK
 have e:rN r=tt L:=by unfold rN;rw [hA,← hL];rfl
 rw [e]
 (refine Jq<|Jr<|Jv rfl<|bP rfl rfl ae<|JL rfl (.there .here) rfl<|JI rfl<|JA rfl<|Jn<|Jc rfl fun ar=>Jp<|Jl<|Jo<|Jt<|Jr<|Jv rfl ?_)
 refine ai bL rfl (fun w' aB=>Bb (dL aB (by exact .here) rfl)) ?_
 refine Ja rfl<|Jn<|Je<|JT ?_
 rfl
theorem ll {l:List Int}:aV (0::l)=aV l:=by
 conv=>lhs;unfold aV
 rw [if_neg (by decide)]
theorem KB (a:Int):aV [a]=a:=by
 unfold aV
 split
 ·rfl
 ·rename_i q;rw [Zo] at q;rw [q];rfl
theorem vt {a:Int} {l:List Int} (h:a≠0):aV (a::l)=a:=by unfold aV;rw [if_pos h]














theorem bh.sub {P:Program} {f:FuncId} {args:List Value} {w:World} {fp:List Nat} {ι:Type} {Φ:ι→Prop} {val:ι→Value} {own:ι→List a8} (h:bh P f args w fp Φ val own):bh P f args w fp (fun _:{x:ι // Φ x}=>True) (fun x=>val x.1) (fun x=>own x.1):=
 Calls.mono h fun e w' ⟨x,he,hx,r⟩=>⟨⟨x,hx⟩,he,trivial,r⟩
end Go.Proofs.A1
namespace Go.SL
open Go
section
variable {P:Program} {c:Cx} {D:List Nat} {sl:aG} {hs:List a8} {X:Act→World→Prop}
end
end Go.SL
namespace Go.Proofs.A1
open Go Go.SL

theorem yR (l:List eL) {i:Nat} (h:i<l.length):(gN l)[i]? = some [.string l[i].tk.de,l[i].v]:=js h
noncomputable def WG {ι:Type} (f:ι→Value) (d:ι) (v:Value):ι:=open Classical in if h:∃ x,f x=v then h.choose else d
theorem Kw {ι:Type} {f:ι→Value} (hi:∀ x y,f x=f y→x=y) (d x:ι):∃ v,WG f d v=x:=⟨f x,by
 have h:∃ y,f y=f x:=⟨x,rfl⟩
 unfold WG
 rw [dif_pos h]
 exact hi _ _ h.choose_spec⟩

theorem Tv {r:Ro} {l:List Tk} {k:Nat} (h:k<l.length) (e:pb r l[k].de≠0):wm r l k=pb r l[k].de:=by rw [pR h,vt e]
theorem Tu {r:Ro} {l:List Tk} {k:Nat} (h:k<l.length) (e:pb r l[k].de=0) {j:Nat} (hj:j<k) (e2:(l[j]'(by omega)).de=l[k].de):wm r l k=9:=by
 rw [pR h,e,ll]
 have:((l.take k).any fun y=>decide (y.de=l[k].de))=true:=ZM.2 ⟨l[j]'(by omega),List.mem_take_iff_getElem.2 ⟨j,by omega,rfl⟩,decide_eq_true e2⟩
 rw [this]
 exact vt (by decide)
theorem C3 {l:List Tk} {k:Nat} {de:ByteArray} (hk:k≤l.length) (h:∀ j (hj:j<k),(l[j]'(by omega)).de≠de):((l.take k).any fun y=>decide (y.de=de))=false:=by
 rw [Zal]
 intro y hy
 obtain ⟨j,hj,rfl⟩:=List.mem_take_iff_getElem.1 hy
 simpa using h j (by omega)
theorem Tt {r:Ro} {l:List Tk} {k:Nat} (h:k<l.length) (e:pb r l[k].de=0) (e2:∀ j (hj:j<k),(l[j]'(by omega)).de≠l[k].de) (e3:(l[k].so.length:Int)≠r.lv):wm r l k=2:=by
 rw [pR h,e,ll,C3 (by omega) e2]
 show aV (0::_)=2
 rw [ll,decide_eq_true e3]
 exact vt (by decide)
theorem Ts {r:Ro} {l:List Tk} {k:Nat} (h:k<l.length) (e:pb r l[k].de=0) (e2:∀ j (hj:j<k),(l[j]'(by omega)).de≠l[k].de) (e3:(l[k].so.length:Int)=r.lv) {j:Nat} (hj:j<l[k].so.length) (e4:iV r l[k].so[j]=true):wm r l k=10:=by
 rw [pR h,e,ll,C3 (by omega) e2]
 show aV (0::_)=10
 rw [ll,decide_eq_false (not_not_intro e3)]
 show aV (0::_)=10
 rw [ll,ZM.2 ⟨_,Zj hj,e4⟩]
 rfl
theorem Tq {r:Ro} {l:List Tk} {k:Nat} (h:k<l.length) (e:pb r l[k].de=0) (e2:∀ j (hj:j<k),(l[j]'(by omega)).de≠l[k].de) (e3:(l[k].so.length:Int)=r.lv) (e4:∀ j (hj:j<l[k].so.length),iV r l[k].so[j]=false):wm r l k=0:=by
 rw [pR h,e,ll,C3 (by omega) e2]
 show aV (0::_)=0
 rw [ll,decide_eq_false (not_not_intro e3)]
 show aV (0::_)=0
 rw [ll]
 have:l[k].so.any (iV r)=false:=by
  rw [Zal]
  intro y hy
  obtain ⟨j,hj,rfl⟩:=Zs hy
  rw [e4 j hj];decide
 rw [this];rfl
set_option maxHeartbeats 2000000 in
theorem Ah {r:Ro} {s d t p kv:Value} {l:List eL} {w:World} (h:RR w r s d t p) (hw:Rd w kv 2 (gN l)) (hM:sx w l):aj Tryz.prog 49 [RA r s d t p,kv] w (.int .i64 (tr r (bZ l))):=by
 have h1:=Rd.one h.sr
 have h2:=Rd.one h.de
 have h3:=Rd.one h.ti
 have h4:=Rd.one h.po
 obtain ⟨a,cp,b,o,rfl,c7,bQ,ha,hc⟩:=hw
 rw [dw] at *
 unfold maxLen at bQ
 have nD:(bZ l).length=l.length:=Zd _
 have YC:∀ (o:ByteArray) {w'},aH [] w w'→aj Tryz.prog 26 [.agg #[.int .i64 r.lv,.int .i64 r.ma,s,d,t,p],.string o] w' (.int .i64 (pb r o)):=fun o _ hk=>Ea o (h.keeps hk)
 have UW:∀ (o:ByteArray) {w'},aH [] w w'→aj Tryz.prog 130 [.agg #[.int .i64 r.lv,.int .i64 r.ma,s,d,t,p],.string o] w' (.int .i64 (bE (cC r) o)):=fun o _ hk=>Fo o (h.keeps hk)
 unfold RA
 refine ah Tryz.func49 rfl rfl ?_
 (refine Jr<|Jy rfl rfl fun _ _=>Ja rfl<|Jn<|Jq<|Jr<|Jv rfl<|JI rfl<|JC rfl<|ai bd rfl (fun w' aB=>(kb _ 12 w'))<|Jv rfl<|JI rfl<|JE rfl<|ai bd rfl (fun w' aB=>(kb _ 5 w'))<|bo (aD (.cons (.of rfl) (.cons (.of rfl) .nil)) rfl rfl rfl rfl) rfl fun _ _=>ai bL rfl (fun w' aB=>(j8 (Mem.dh aB .here rfl rfl) (bU.cons (bU.cons bU.nil))))<|Ja rfl<|Ji<|Jv rfl<|JD rfl<|Jn<|fP rfl (fun ar=>?_) fun ar=>?_;refine Jr<|Jv rfl<|Ja rfl<|Jn<|Ju<|JT ?_;rotate_left;refine Jk<|Jq<|Jr<|Ja rfl<|Jn<|J0 ?_;rotate_right)
 ·have e1:tr r (bZ l)=C4 (bZ l):=if_pos (by unfold C4;rw [nD];exact ar)
  rw [e1];unfold C4;rw [nD]
 have Fb:C4 (bZ l)=0:=by unfold C4;rw [nD];exact Zo.1 ar
 have hX:tr r (bZ l)=iy (wm r (bZ l)) l.length:=by unfold tr;rw [if_neg (by rw [Fb];decide),nD]
 clear ar
 rename_i b2 sW bq mN
 refine aX (fun k:Nat=>k≤l.length∧∀ i,i<k→wm r (bZ l) i=0) (fun k=>[(6,.int .i64 (k:Nat)),(1,.slice a l.length cp),(2,.pointer (some ⟨b2,0,none⟩))])
  (fun k=>[JQ b2 r s d t p]) (fun k=>l.length-k) ?_ ?_
 ·with_reducible apply aI (0:Nat) ⟨Zi _,fun i hi=>absurd hi (ZO _)⟩
  case hs1=>exact cd
  case ht=>exact lU
 rintro k ⟨hk,hf⟩
 by_cases aK:k<l.length
 ·have cB:=ha (jJ aK)
  have aC:=(hc k _ (yR l aK)).2
  have nf:k<(bZ l).length:=by omega
  have RH:∀ j (hj:j<l.length),(bZ l)[j]'(by omega)=l[j].tk:=fun j hj=>Z1 _
  have g1:=Tv (r:=r) nf
  have g2:=Tu (r:=r) nf
  have g3:=Tt (r:=r) nf
  have g4:=Ts (r:=r) nf
  have g5:=Tq (r:=r) nf
  have hB:wm r (bZ l) k≠0→tr r (bZ l)=wm r (bZ l) k:=fun e=>hX.trans (ep hf aK e)
  have jE:wm r (bZ l) k=0→∀ i,i<k+1→wm r (bZ l) i=0:=fun e i hi=>by
   by_cases e2:i=k
   ·rw [e2];exact e
   ·exact hf i (by omega)
  have tz:=hM _ (Zj aK)
  have Ys:∀ j (hj:j<k),w.cell? ⟨b,o+j*2,none⟩=some (.string ((bZ l)[j]'(by omega)).de):=fun j hj=>by
   rw [RH j (by omega)]
   exact (hc j _ (yR l (by omega))).2 0 _ rfl
  rw [RH k aK] at g1 g2 g3 g4 g5
  generalize l[k]=x at aC tz g1 g2 g3 g4 g5
  obtain ⟨⟨xd,xs⟩,xv⟩:=x
  dsimp only at aC tz g1 g2 g3 g4 g5
  obtain ⟨ax,cx,bx,ox,rfl,Pf,BU,YN,Yv⟩:=tz
  rw [bV] at *
  unfold maxLen at BU
  have c0:w.cell? ⟨b,o+k*2,none⟩=some (.string xd):=aC 0 _ rfl
  have c1:w.cell? ⟨b,o+k*2+1,none⟩=some (.slice ax xs.length cx):=aC 1 _ rfl
  have YB:=fun {w'}=>YC xd (w':=w')
  refine Jq<|Jr<|Jv rfl<|Jv rfl<|JI rfl<|JA rfl<|Jn<|Jd rfl fun ar=>Jk<|Jq<|J0<|Jq<|Jq ?_
  with_reducible refine en 8 (by kernel_rfl) ?_
  (refine aL (cL .here) rfl<|ly rfl rfl<|ly rfl rfl<|aL (fG cB ar) rfl<|oO rfl rfl ae<|aL (ag (.of rfl) (At.base c0 rfl)) rfl<|gD bd rfl (fun w' aB=>(YB (Mem.keeps aB)))<|aL (cA (.of rfl)) rfl ?_)
  with_reducible refine eo ?_
  (refine Ji<|Jv rfl<|JD rfl<|Jn<|fP rfl (fun ar=>?_) fun ar=>?_;refine Jr<|Jv rfl<|Ja rfl<|Jn<|Ju<|Jm<|Jh<|Jh<|Jm<|Jh<|JT ?_;rotate_left;refine Jk<|Jq<|Jr<|Ja rfl<|Jn<|J0 ?_;rotate_right)
  ·rw [hB (by rw [g1 ar];exact ar),g1 ar]
  have e0:pb r xd=0:=Zo.1 ar
  clear ar
  refine aX (fun j:Nat=>j≤k∧∀ i (hi:i<k),i<j→((bZ l)[i]'(by omega)).de≠xd) (fun j=>[(8,.int .i64 (j:Nat)),(6,.int .i64 (k:Nat)),(1,.slice a l.length cp),(2,.pointer (some ⟨b2,0,none⟩))])
   (fun _=>[JQ b2 r s d t p]) (fun j=>k-j) ?_ ?_
  ·with_reducible apply aI (0:Nat) ⟨Zi _,fun i _ hi=>absurd hi (ZO _)⟩
   case hs1=>exact cd
   case ht=>exact lU
  rintro j ⟨hj,pH⟩
  by_cases Kg:j<k
  ·have cj:=Ys j Kg
   have Kq:=g2 e0 Kg
   have Ka:((bZ l)[j]'(by omega)).de≠xd→∀ i (hi:i<k),i<j+1→((bZ l)[i]'(by omega)).de≠xd:=fun q i hi wF=>by
    by_cases e:i=j
    ·subst e;exact q
    ·exact pH i hi (by omega)
   generalize ((bZ l)[j]'(by omega)).de=yd at cj Kq Ka
   refine Jq<|Jr<|Jv rfl<|Jv rfl<|JA rfl<|Jn<|Jd rfl fun ar=>Jk<|Jq<|J0<|Jq ?_
   with_reducible refine en 11 (by kernel_rfl) ?_
   (refine ly rfl rfl<|ly rfl rfl<|aL (az (.of rfl) (.of rfl) cB (by omega) (by omega) bj) rfl<|oO rfl rfl ae<|aL (ag (.of rfl) (At.base cj rfl)) rfl<|ly rfl rfl<|ly rfl rfl<|aL (az (.of rfl) (.of rfl) cB (by omega) (by assumption) bj) rfl<|oO rfl rfl ae<|aL (ag (.of rfl) (At.base c0 rfl)) rfl<|aL (dS (.of rfl) (.of rfl)) rfl ?_)
   with_reducible refine eo ?_
   (refine Jn<|fP rfl (fun ar=>?_) fun ar=>?_;refine Jr<|Ja rfl<|Jn<|Je<|Jm<|Jh<|Jh<|Jm<|Jh<|Jm<|Jh<|Jh<|Jm<|Jh<|JT ?_;rotate_left;refine Jw<|Jj<|Jt<|Jg<|Jv rfl<|JB rfl (by omega)<|Ja rfl<|Jn ?_;rotate_right)
   ·have e9:=Kq ar
    rw [hB (by rw [e9];decide),e9]
   with_reducible apply aJ (j+1) ⟨ZaM Kg,Ka ar⟩ (show k-(j+1)<k-j by omega)
   case hs1=>exact cd
   case ht=>exact lU
  have ejk:j=k:=by omega
  subst ejk
  have Rr:∀ i (hi:i<j),((bZ l)[i]'(by omega)).de≠xd:=fun i hi=>pH i hi hi
  clear pH Kg hj
  refine Jq<|Jr<|Jv rfl<|Jv rfl<|JA rfl<|Jn<|Jc rfl fun ar=>Jp<|Jl<|Jo<|Jt<|Jq<|Jq ?_
  with_reducible refine en 9 (by kernel_rfl) ?_
  (refine ly rfl rfl<|ly rfl rfl<|aL (az (.of rfl) (.of rfl) cB (by omega) (by assumption) bj) rfl<|oO rfl rfl ae<|aL (ag (.of rfl) (At.base c1 rfl)) rfl<|aL (bD (.of rfl)) rfl<|oO rfl rfl ae<|aL (gT .here) rfl<|aL (gl (.of rfl) (.of rfl)) rfl ?_)
  with_reducible refine eo ?_
  (refine Jn<|fP rfl (fun ar=>?_) fun ar=>?_;refine Jr<|Ja rfl<|Jn<|Ju<|Jm<|Jh<|Jh<|Jm<|Jh<|JT ?_;rotate_left;refine Jk<|Jr<|Ja rfl<|Jn<|J0 ?_;rotate_right)
  ·have e2:=g3 e0 Rr ar
   rw [hB (by rw [e2];decide),e2]
  have elv:(xs.length:Int)=r.lv:=Zo.1 ar
  clear ar
  refine aX (fun i:Nat=>i≤xs.length∧∀ q (hq:q<xs.length),q<i→iV r xs[q]=false) (fun i=>[(9,.int .i64 (i:Nat)),(6,.int .i64 (j:Nat)),(1,.slice a l.length cp),(2,.pointer (some ⟨b2,0,none⟩))])
   (fun _=>[JQ b2 r s d t p]) (fun i=>xs.length-i) ?_ ?_
  ·with_reducible apply aI (0:Nat) ⟨Zi _,fun i _ hi=>absurd hi (ZO _)⟩
   case hs1=>exact cd
   case ht=>exact lU
  rintro i ⟨hi,pH⟩
  by_cases iw:i<xs.length
  ·have YM:=YN (k6 iw)
   have cx0:w.cell? ⟨bx,ox+i*1,none⟩=some (.string xs[i]):=(Yv i _ (jb iw)).2 0 _ rfl
   have Kq:=g4 e0 Rr elv iw
   have Ka:iV r xs[i]=false→∀ q (hq:q<xs.length),q<i+1→iV r xs[q]=false:=fun e q hq O3=>by
    by_cases e2:q=i
    ·subst e2;exact e
    ·exact pH q hq (by omega)
   have Wr:iV r xs[i]=(decide (xs[i]≠⟨#[]⟩)&&decide (xs[i]≠⟨#[45]⟩)&&decide (bE (cC r) xs[i]<0)):=rfl
   generalize iV r xs[i]=lb at Kq Ka Wr
   generalize xs[i]=y at cx0 Wr
   (refine Jq<|Jr<|Jv rfl<|Jv rfl<|Jv rfl<|ab (az (.of rfl) (.of rfl) cB (by omega) (by assumption) bj) rfl<|bP rfl rfl ae<|ab (ag (.of rfl) (At.base c1 rfl)) rfl<|JI rfl<|JA rfl<|Jn<|Jd rfl fun ar=>Jk<|Jq<|J0<|Jr<|Jv rfl<|Jv rfl<|ab (az (.of rfl) (.of rfl) cB (by omega) (by assumption) bj) rfl<|bP rfl rfl ae<|ab (ag (.of rfl) (At.base c1 rfl)) rfl<|Jv rfl<|ab (az (.of rfl) (.of rfl) YM (by omega) ar bj) rfl<|ab (ag (.of rfl) (At.base cx0 rfl)) rfl<|Ja rfl<|Ji<|Jv rfl<|ab (fR (.of rfl) (.of rfl)) rfl<|Jv rfl<|gr rfl rfl rfl rfl<|aA rfl rfl inferInstance (fun hg bB=>(fR (.bI hg rfl) (.of rfl))) rfl<|ab (cz (.of rfl) rfl) rfl<|Jv rfl<|aA rfl rfl inferInstance (fun hg bB=>(bS (.of rfl) .here ak (by rfl))) rfl<|gr rfl rfl rfl rfl<|du rfl rfl (fun hg=>(aY (.of rfl) (.cons (.bI hg rfl) (.cons (.bI hg rfl) .nil)) inferInstance dX)) rfl (fun hg w' aB=>(UW y (Mem.keeps aB)))<|aA rfl rfl inferInstance (fun hg bB=>(k8 (.bI hg rfl) (.of rfl))) rfl<|ab (cz (.of rfl) rfl) rfl<|Jn<|nF rfl (fun ar=>?_) fun ar=>?_;refine Jr<|Ja rfl<|Jn<|Je<|Jm<|Jh<|Jh<|Jm<|Jm<|Jh<|Jh<|Jm<|Jh<|JT ?_;rotate_left;refine Jw<|Jj<|Jt<|Jg<|Jv rfl<|JB rfl (by omega)<|Ja rfl<|Jn ?_;rotate_right)
   ·have e4:=Kq (by rw [Wr,decide_eq_true ar.1.1,decide_eq_true ar.1.2,decide_eq_true ar.2];rfl)
    rw [hB (by rw [e4];decide),e4]
   have e5:lb=false:=by
    rw [Wr]
    rcases ar with (q | q) | q
    ·rw [decide_eq_false q];rfl
    ·rw [decide_eq_false q];simp
    ·rw [decide_eq_false q];simp
   with_reducible apply aJ (i+1) ⟨ZaM iw,Ka e5⟩ (show xs.length-(i+1)<xs.length-i by omega)
   case hs1=>exact cd
   case ht=>exact lU
  have e5:=jE (g5 e0 Rr elv fun q hq=>pH q hq (by omega))
  (refine Jq<|Jr<|Jv rfl<|Jv rfl<|Jv rfl<|ab (az (.of rfl) (.of rfl) cB (by omega) (by assumption) bj) rfl<|bP rfl rfl ae<|ab (ag (.of rfl) (At.base c1 rfl)) rfl<|JI rfl<|JA rfl<|Jn<|Jc rfl fun ar=>Jp<|Jl<|Jo<|Jj<|Jt<|Jg<|Jv rfl<|JB rfl (by omega)<|Ja rfl<|Jn ?_)
  with_reducible apply aJ (j+1) ⟨ZaM aK,e5⟩ (show l.length-(j+1)<l.length-j by omega)
  case hs1=>exact cd
  case ht=>exact lU
 ·obtain rfl:k=l.length:=by omega
  rw [hX,dj.2 hf]
  refine Jq<|Jr<|Jv rfl<|Jv rfl<|JI rfl<|JA rfl<|Jn<|Jc rfl fun ar=>Jp<|Jl<|Jo<|Jt<|Jr<|Ja rfl<|Jn<|Je<|JT ?_
  rfl
def qM (l:List Tk):Bool:=(l.all fun t=>decide (t.de.size≤40)&&decide (t.so.length≤4)&&tt t.so)&&decide (l.length≤9)
set_option maxHeartbeats 1000000 in
theorem yY {kv:Value} {l:List eL} {w:World} (hw:Rd w kv 2 (gN l)) (hM:sx w l):aj Tryz.prog 44 [kv] w (.bool (qM (bZ l))):=by
 obtain ⟨a,cp,b,o,rfl,c7,bQ,ha,hc⟩:=hw
 rw [dw] at *
 unfold maxLen at bQ
 have nD:(bZ l).length=l.length:=Zd _
 refine ah Tryz.func44 rfl rfl ?_
 refine Jr<|Ja rfl<|Jn<|Jq<|Jr<|Ja rfl<|Jn<|J0 ?_
 refine aX (ι:=Nat) (fun k=>k≤l.length∧∀ j (hj:j<l.length),j<k→(decide (l[j].tk.de.size≤40)&&decide (l[j].tk.so.length≤4)&&tt l[j].tk.so)=true) (fun k=>[(3,.int .i64 (k:Nat)),(0,.slice a l.length cp)]) (fun _=>[]) (fun k=>l.length-k) ?_ ?_
 ·with_reducible apply aI (0:Nat) ⟨Zi _,fun j _ hj=>absurd hj (ZO _)⟩
  case hs1=>exact cd
  case ht=>exact .nil
 rintro k ⟨hk,hf⟩
 by_cases aK:k<l.length
 ·have cB:=ha (jJ aK)
  have aC:=(hc k _ (yR l aK)).2
  have iv:=Zj aK
  have tz:=hM _ iv
  have Ru:l[k].tk∈bZ l:=Z0 iv
  have sV:(decide (l[k].tk.de.size≤40)&&decide (l[k].tk.so.length≤4)&&tt l[k].tk.so)=true→∀ j (hj:j<l.length),j<k+1→(decide (l[j].tk.de.size≤40)&&decide (l[j].tk.so.length≤4)&&tt l[j].tk.so)=true:=fun q j hj Kg=>by
   by_cases e:j=k
   ·subst e;exact q
   ·exact hf j hj (by omega)
  generalize l[k]=x at aC tz Ru sV
  obtain ⟨⟨xd,xs⟩,xv⟩:=x
  dsimp only at aC tz Ru sV
  have Wh:∀ {w'},aH [] w w'→aj Tryz.prog 69 [xv] w' (.bool (tt xs)):=fun hk=>Bb (Rd.keeps tz hk)
  obtain ⟨ax,cx,bx,ox,rfl,Pf,BU,YN,Yv⟩:=tz
  rw [bV] at *
  unfold maxLen at BU
  have Xv:=fun {w'}=>Wh (w':=w')
  have c0:w.cell? ⟨b,o+k*2,none⟩=some (.string xd):=aC 0 _ rfl
  have c1:w.cell? ⟨b,o+k*2+1,none⟩=some (.slice ax xs.length cx):=aC 1 _ rfl
  generalize Rf:tt xs=sb at *
  (refine Jq<|Jr<|Jv rfl<|Jv rfl<|JI rfl<|JA rfl<|Jn<|Jd rfl fun ar=>Jk<|Jq<|J0<|Jr<|Jv rfl<|Jv rfl<|ab (fG cB ar) rfl<|bP rfl rfl ae<|ab (ag (.of rfl) (At.base c0 rfl)) rfl<|ab (fJ (.of rfl)) rfl<|JE rfl<|Jv rfl<|gr rfl rfl rfl rfl<|gr rfl rfl rfl rfl<|aA rfl rfl inferInstance (fun hg bB=>(az (.bI hg rfl) (.bI hg rfl) cB (by omega) ar bj)) rfl<|aA rfl rfl inferInstance (fun hg bB=>(ao (.bI hg rfl) ae)) rfl<|aA rfl rfl inferInstance (fun hg bB=>(ag (.bI hg rfl) (At.base c1 rfl))) rfl<|aA rfl rfl inferInstance (fun hg bB=>(bD (.bI hg rfl))) rfl<|aA rfl rfl inferInstance (fun hg bB=>(iK (.bI hg rfl) (.of rfl))) rfl<|ab (aZ (.of rfl) rfl) rfl<|Jv rfl<|gr rfl rfl rfl rfl<|gr rfl rfl rfl rfl<|aA rfl rfl inferInstance (fun hg bB=>(az (.bI hg rfl) (.bI hg rfl) cB (by omega) ar bj)) rfl<|aA rfl rfl inferInstance (fun hg bB=>(ao (.bI hg rfl) ae)) rfl<|aA rfl rfl inferInstance (fun hg bB=>(ag (.bI hg rfl) (At.base c1 rfl))) rfl<|du rfl rfl (fun hg=>(aY (.of rfl) (.cons (.bI hg rfl) .nil) inferInstance dX)) rfl (fun hg w' aB=>(Xv (Mem.keeps aB)))<|aA rfl rfl inferInstance (fun hg bB=>(dV (.bI hg rfl))) rfl<|ab (aZ (.of rfl) rfl) rfl<|Jn<|nF rfl (fun ar=>?_) fun ar=>?_;refine Jr<|Ja rfl<|Jn<|Je<|Jm<|Jh<|Jh<|Jm<|Jh<|JT ?_;rotate_left;refine Jw<|Jj<|Jt<|Jg<|Jv rfl<|JB rfl (by omega)<|Ja rfl<|Jn ?_;rotate_right)
  ·have e:qM (bZ l)=false:=by
    unfold qM
    rw [List.all_eq_false.2 ⟨_,Ru,?_⟩]
    ·rfl
    ·dsimp only
     rw [Rf]
     rcases ar with (q | q) | q
     ·rw [decide_eq_false (show ¬ xd.size≤40 by omega)];simp
     ·rw [decide_eq_false (show ¬ xs.length≤4 by omega)];simp
     ·rw [q];simp
   rw [e]
  ·have e:(decide (xd.size≤40)&&decide (xs.length≤4)&&sb)=true:=by
    rw [decide_eq_true (show xd.size≤40 by have:=ar.1.1;omega),decide_eq_true (show xs.length≤4 by have:=ar.1.2;omega),ar.2];rfl
   with_reducible apply aJ (k+1) ⟨ZaM aK,sV e⟩ (show l.length-(k+1)<l.length-k by omega)
   case hs1=>exact cd
   case ht=>exact .nil
 ·obtain rfl:k=l.length:=by omega
  have e:((bZ l).all fun t=>decide (t.de.size≤40)&&decide (t.so.length≤4)&&tt t.so)=true:=Z3.2 fun x hx=>by
   unfold bZ at hx
   obtain ⟨y,hy,rfl⟩:=Zu.1 hx
   obtain ⟨j,hj,rfl⟩:=Zs hy
   exact hf j hj hj
  have e2:qM (bZ l)=decide ((l.length:Int)≤9):=by
   unfold qM
   rw [e,nD,Zaq]
   exact decide_eq_decide.2 (by omega)
  rw [e2]
  refine Jq<|Jr<|Jv rfl<|Jv rfl<|JI rfl<|JA rfl<|Jn<|Jc rfl fun ar=>Jp<|Jl<|Jo<|Jt<|Jr<|Jv rfl<|JI rfl<|JF rfl<|Ja rfl<|Jn<|Je<|JT ?_
  rfl

theorem My {l:List eL} (h:qM (bZ l)=true):l.length≤9∧∀ x∈l,x.tk.so.length≤4:=by
 unfold qM at h
 rw [Zm,decide_eq_true_iff,Z3] at h
 refine ⟨by have:=h.2;unfold bZ at this;rwa [Zd] at this,fun x hx=>?_⟩
 have:=h.1 x.tk (Z0 hx)
 simp only [Zm,decide_eq_true_eq] at this
 exact this.1.2
set_option maxRecDepth 20000 in
theorem L9 {r:Ro} {s d t p:Value} {w:World} (h:RR w r s d t p):aj Tryz.prog 55 [RA r s d t p] w (.bool (rN r&&decide (gC r=0))):=by
 have h1:=Rd.one h.sr
 have h2:=Rd.one h.de
 have h3:=Rd.one h.ti
 have h4:=Rd.one h.po
 have BQ:∀ {w'},aH [] w w'→aj Tryz.prog 18 [.agg #[.int .i64 r.lv,.int .i64 r.ma,s,d,t,p]] w' (.bool (rN r)):=fun hk=>Mz (h.keeps hk)
 have Yz:∀ {w'},(rN r==true)=true→aH [] w w'→aj Tryz.prog 25 [.agg #[.int .i64 r.lv,.int .i64 r.ma,s,d,t,p]] w' (.int .i64 (gC r)):=fun e hk=>by
  have hb:rN r=true:=by simpa using e
  unfold rN at hb
  exact pN (h.keeps hk) (uE (Zm _ _ ▸ hb).1)
 unfold RA
 refine ah Tryz.func55 rfl rfl ?_
 (refine Jr<|Jy rfl rfl fun _ _=>Ja rfl<|Ji<|ab (cL .here) rfl<|ai bL rfl (fun w' aB=>(BQ (Mem.keeps aB)))<|Jv rfl<|aA rfl rfl inferInstance (fun hg bB=>(bS (.of rfl) .here ak (by rfl))) rfl<|du rfl rfl (fun hg=>(aY (.of rfl) (.cons (.bI hg rfl) .nil) inferInstance dX)) rfl (fun hg w' aB=>(Yz hg (Mem.keeps aB)))<|aA rfl rfl inferInstance (fun hg bB=>(lY (.bI hg rfl) (.of rfl))) rfl<|ab (cz (.of rfl) rfl) rfl<|Ja rfl<|Jn<|Je<|JT ?_)
 rfl
def Tl (r:Ro) (t:Tk) (k:Nat):ByteArray:=if t.at k=⟨#[]⟩ then jM r (k:Nat) t.de else if t.at k=dash then ⟨#[]⟩ else t.at k
theorem fX (r:Ro) (y:ByteArray):(br r y).length=r.lv.toNat:=by unfold br;simp
theorem Cf {r:Ro} {y:ByteArray} (hy:y∈cy r):pb r y=0:=by
 unfold pb
 rw [bK (by decide)]
 exact decide_eq_false fun c=>cm.1 c hy
theorem Kf {r:Ro} (fK:gC r=0) {y:ByteArray} (hy:y∈cy r):BX r y=0∧DN r y=br r y:=by
 have e:BX r y=0:=by unfold BX;rw [fK,ll,KB,Cf hy]
 exact ⟨e,if_neg (not_not_intro e)⟩
theorem Th {r:Ro} {q:List Po}:(r.wp q).lv=r.lv:=rfl
theorem Tg {r:Ro} {q:List Po}:(r.wp q).ma=r.ma:=rfl
theorem OK {r:Ro} {q:List Po}:(r.wp q).sr=r.sr:=rfl
theorem OM {r:Ro} {q:List Po}:(r.wp q).de=r.de:=rfl
theorem OJ {r:Ro} {q:List Po}:(r.wp q).ti=r.ti:=rfl
theorem OL {r:Ro} {q:List Po}:(r.wp q).po=q:=rfl
theorem H4 {r:Ro} {q:List Po} {s d t p:Value} {w:World} (h1:Rd w s 2 (uC r.sr)) (h2:Rd w d 3 (ue r.de)) (h3:Rd w t 3 (tK r.ti)) (h4:Rd w p 3 (sJ q)):RR w (r.wp q) s d t p:=⟨h1,h2,h3,h4⟩
theorem KD {r:Ro} (h:lz r) (q:List Po):lz (r.wp q):=h
theorem N6 {r:Ro} (fK:gC r=0) (h:me r) {q:List Po} (hq:iZ r q):me (r.wp q):=⟨h.1,h.2.1,h.2.2.1,by
 have:=mO (G9 fK) hq
 show q.length≤1000000
 omega⟩
theorem HF {r:Ro} {s d t p:Value} {w:World} (h:RR w r s d t p) (hf:me r):bh Tryz.prog 57 [.agg #[.int .i64 r.lv,.int .i64 r.ma,s,d,t,p]] w [] (fun _:Value×Value×Value×Value=>True) (fun x=>.agg #[.int .i64 r.lv,.int .i64 r.ma,x.1,x.2.1,x.2.2.1,x.2.2.2]) (fun x=>Lx r x):=C2 h hf
theorem Kl {r:Ro} {s d t p:Value} {y:ByteArray} {w:World} (h:RR w r s d t p) (hf:lz r) (fK:gC r=0) (hy:y∈cy r):bh Tryz.prog 20 [.agg #[.int .i64 r.lv,.int .i64 r.ma,s,d,t,p],.string y] w [] (fun _:Value=>True) (fun x=>.tuple #[x,.int .i64 0]) (fun x=>[row 9 1 x r.lv.toNat (aM (br r y))]):=by
 have:=PN y h hf (Kf fK hy).1 (Kf fK hy).2
 rwa [fX] at this
theorem y7 {v1 v2:Value} {l m:List ByteArray} {w:World} (h1:Rd w v1 1 (iI l)) (h2:Rd w v2 1 (iI m)) (e:l=m):aj Tryz.prog 58 [v1,v2] w (.bool true):=by
 have:=y8 h1 h2
 rwa [decide_eq_true e] at this
theorem wM {r:Ro} {s d t p:Value} {w:World} (h:RR w r s d t p) (hf:me r) (fK:gC r=0):aj Tryz.prog 25 [.agg #[.int .i64 r.lv,.int .i64 r.ma,s,d,t,p]] w (.int .i64 0):=by
 have:=pN h hf
 rwa [fK] at this
theorem yP (l:List eL):(bZ l).length=l.length:=Zd _
theorem P7 {l:List eL} {i:Nat} (h:i<(bZ l).length):(bZ l)[i]=(l[i]'(by rw [← yP];exact h)).tk:=Z1 _
theorem nY {P:Program} {c:Cx} {sl:aG} {hs:List a8} {dst:Option Tmp} {ty:TypeId} {pos:String} {af:Array Edge} {g:Option (Nat×Bool)} {k:IntKind} {t u:TypeId} {x y:Operand} {a b:Int} (hx:Is sl x (.int k a)) (hy:Is sl y (.int k b)) (e:a=b) :
  cR P c sl hs ⟨dst,.binOp .neq t x y u,ty,pos,af,g⟩ (.bool false):=by
 have:=gl (P:=P) (c:=c) (hs:=hs) (dst:=dst) (ty:=ty) (pos:=pos) (af:=af) (g:=g) (t:=t) (u:=u) hx hy
 rwa [decide_eq_false (not_not_intro e)] at this
end Go.Proofs.A1
namespace Go.Proofs.A1
open Go Go.SL
def V7 (x:gG):a8:=EE [row 78 2 x.v x.tk.length (gN x.tk).flatten,CD x.tk]
def IJ (l:List gG):a8:=EE (l.map V7).reverse
theorem Hy {c:Cx} {D:List Nat} {sl:aG} {hs:List a8} {X:Act→World→Prop} (k:Tr c D sl (IJ []::hs) X):Tr c D sl hs X:=oS (As:=[]) .nil k
theorem A4 {A:a8} {hs As hs':List a8} (h:bz hs As hs'):bz (A::hs) As (A::hs'):=by
 induction h with
 | nil=>exact .nil
 | cons h _ ih=>exact .cons (.there h) ih
theorem II (W:List gG) (x:gG):IJ (W++[x])=EE (V7 x::(W.map V7).reverse):=by
 unfold IJ
 rw [Zr,List.reverse_append];rfl
theorem Hz {c:Cx} {D:List Nat} {sl:aG} {hs h1 h2:List a8} {X:Act→World→Prop} {W:List gG} {x:gG} (ht:Take hs (IJ W) h1) (ht2:bz h1 [row 78 2 x.v x.tk.length (gN x.tk).flatten,CD x.tk] h2) (k:Tr c D sl (IJ (W++[x])::h2) X):Tr c D sl hs X:=fun a w bb=>by
 rw [II] at k
 have hm:=(bb.mem.take (ht.append _)).iT (A4 (ht2.append _))
 obtain ⟨kk,fp,hn,hs',hb⟩:=hm
 obtain ⟨f1,f2,rfl,s1,s2⟩:=ch.append_iff.1 hs'
 obtain ⟨g1,g2,rfl,t1,t2⟩:=s2
 exact k a w (bb.heap ⟨kk,(f1++g1)++g2,by rw [Zh];exact hn,⟨f1++g1,g2,rfl,⟨f1,g1,rfl,s1,t1⟩,t2⟩,by rw [Zh];exact hb⟩)
theorem HI {A:a8} {L:List a8} (h:A∈L) (m:List a8):∃ r,Take (L++m) A r:=by
 obtain ⟨s,t,rfl⟩:=List.append_of_mem h
 rw [Zh,Zb]
 exact ⟨_,rK s A (t++m)⟩
theorem Mem.HM {c:Cx} {hs hs':List a8} {w:World} {As:List a8} (hm:Mem c hs w) (ht:Take hs (EE As) hs'):Mem c (As++hs') w:=by
 obtain ⟨k,fp,hn,⟨f1,f2,rfl,h1,h2⟩,hb⟩:=hm.take ht
 exact ⟨k,f1++f2,hn,ch.append_iff.2 ⟨f1,f2,rfl,h1,h2⟩,hb⟩
theorem M7 {c:Cx} {hs hs':List a8} {w:World} {W:List gG} (hm:Mem c hs w) (ht:Take hs (IJ W) hs'):wX w W:=fun x hx=>by
 have h1:=Mem.HM hm ht
 obtain ⟨r,hr⟩:=HI (List.mem_reverse.2 (Z0 (f:=V7) hx)) hs'
 have h2:=Mem.HM h1 hr
 exact ⟨lK h2 .here rfl,WQ h2 (.there .here)⟩
theorem bh.slT {P:Program} {f:FuncId} {args:List Value} {w:World} {md:List Nat} {Φ:List eL→Prop} {E:TypeId} (h:bh P f args w md (fun x:Value×List eL=>Φ x.2) (fun x=>x.1) (fun x=>[row E 2 x.1 x.2.length (gN x.2).flatten,CD x.2])) :
  bh P f args w md (fun _:{x:(Option Addr×Nat)×List eL // Φ x.2}=>True) (fun x=>.slice x.1.1.1 x.1.2.length x.1.1.2) (fun x=>[row E 2 (.slice x.1.1.1 x.1.2.length x.1.1.2) x.1.2.length (gN x.1.2).flatten,CD x.1.2]):=
 Calls.mono h fun e w' ⟨⟨v,W⟩,he,hx,hk,fp,hn,hs,hf⟩=>by
  dsimp only at he hx hs
  have hv:∃ y:Option Addr×Nat,v=.slice y.1 W.length y.2:=by
   obtain ⟨f1,f2,_,⟨_,_,⟨e1,e2⟩ | ⟨g,cap,cur,e1,_⟩⟩,_⟩:=hs
   ·exact ⟨(none,0),by rw [e1,e2]⟩
   ·exact ⟨(_,cap),e1⟩
  obtain ⟨y,rfl⟩:=hv
  exact ⟨⟨(y,W),hx⟩,he,trivial,hk,fp,hn,hs,hf⟩
def GR (y:eL):Value:=.agg #[.string y.tk.de,.agg (aM y.tk.so).toArray,y.v]
theorem A6:∀ {a b:List ByteArray},aM a=aM b→a=b
 | [],[],_=>rfl
 | x :: a, y :: b, h => by
  injection h with h1 h2
  injection h1 with h1
  rw [h1,A6 h2]
theorem KI {x y:eL} (h:GR x=GR y):x=y:=by
 obtain ⟨⟨a,b⟩,c⟩:=x
 obtain ⟨⟨a',b'⟩,c'⟩:=y
 injection h with h
 have h:=congrArg Array.toList h
 simp only [List.cons.injEq,and_true] at h
 obtain ⟨h1,h2,h3⟩:=h
 injection h1 with h1
 injection h2 with h2
 have h2:=A6 (congrArg Array.toList h2)
 try dsimp only at h1 h2 h3
 rw [h1,h2,h3]
theorem vv:∀ {a b:List eL},a.map GR=b.map GR→a=b
 | [],[],_=>rfl
 | x :: a, y :: b, h => by
  rw [Z8,Z8] at h
  injection h with h1 h2
  rw [KI h1,vv h2]
def Sh (x:(Option Addr×Nat)×List eL):Value:=.agg #[.slice x.1.1 0 x.1.2,.agg (x.2.map GR).toArray]
theorem KH {x y:(Option Addr×Nat)×List eL} (h:Sh x=Sh y):x=y:=by
 obtain ⟨⟨a,n⟩,b⟩:=x
 obtain ⟨⟨a',n'⟩,b'⟩:=y
 injection h with h
 have h:=congrArg Array.toList h
 simp only [List.cons.injEq,and_true] at h
 obtain ⟨h1,h2⟩:=h
 injection h2 with h2
 injection h1 with h1 _ h3
 rw [vv (congrArg Array.toList h2),h1,h3]
noncomputable def R9 (tk:List eL):Value→{x:(Option Addr×Nat)×List eL // bZ x.2=bZ tk}:=WG (fun x=>Sh x.1) ⟨((none,0),tk),rfl⟩
theorem N1 (tk:List eL) (x:{x:(Option Addr×Nat)×List eL // bZ x.2=bZ tk}):∃ v,R9 tk v=x:=Kw (fun _ _ h=>Subtype.ext (KH h)) _ x
theorem IK (l:List gG):∀ r∈lf l,r.length=2:=fun r hr=>by obtain ⟨x,_,rfl⟩:=Zu.1 hr;rfl
theorem IL (W:List gG) (y:gG):(lf (W++[y])).flatten=(lf W).flatten++[.int .i64 y.fr,y.v]:=by
 unfold lf;simp [gG.cells]
theorem M8 (a b:List gG):cJ (a++b)=cJ a++cJ b:=Zr
theorem zx (l:List gG) {i:Nat} (h:i<l.length):(lf l)[i]? = some [.int .i64 l[i].fr,l[i].v]:=q9 h
theorem q7 {kv:Value} {l:List gG} {w:World} (h:Rd w kv 2 (lf l)) (hM:wX w l) (hn:l.length≤1000) (hs:∀ x∈l,x.tk.length≤1000∧∀ y∈x.tk,y.tk.so.length≤1000) :
  bh Tryz.prog 63 [kv] w [] (fun x:Value×List gG=>cJ x.2=cJ l) (fun x=>x.1) (fun x=>[row 182 2 x.1 x.2.length (lf x.2).flatten,IJ x.2]):=by
 obtain ⟨a,cp,b,o,rfl,c7,bQ,ha,hc⟩:=h
 rw [eZ] at *
 unfold maxLen at bQ
 refine aQ Tryz.func63 rfl rfl ?_
 refine Jr<|Ja rfl<|Ji<|Ja rfl<|Jn<|Jq<|Jr<|Jv rfl<|JI rfl<|Jv rfl<|Jn<|J0 ?_
 refine aP 182 2 ?_
 refine Hy ?_
 refine aX (ι:=Nat×Value×List gG) (fun x=>x.1≤l.length∧cJ x.2.2=cJ (l.take x.1)) (fun x=>[(8,.int .i64 (x.1:Nat)),(7,.int .i64 (l.length:Nat)),(6,.slice a l.length cp),(3,x.2.1)])
  (fun x=>[row 182 2 x.2.1 x.2.2.length (lf x.2.2).flatten,IJ x.2.2]) (fun x=>l.length-x.1) ?_ ?_
 ·apply aI (0,.slice none 0 0,[]) ⟨Zi _,rfl⟩
  case hs1=>exact cd
  case ht=>
   exact .cons (.there .here) (.cons .here .nil)
 rintro ⟨k,v,W⟩ ⟨hk,hW⟩
 dsimp only at hk hW ⊢
 have Pk:W.length=k:=by
  have:=congrArg List.length hW
  unfold cJ at this
  rw [Zd,Zd,Zp] at this
  omega
 by_cases aK:k<l.length
 ·have cB:=ha (qb aK)
  have aC:=(hc k _ (q9 aK)).2
  obtain ⟨hx,Xm⟩:=hM _ (Zj aK)
  obtain ⟨Ny,Xj⟩:=hs _ (Zj aK)
  have htk:cJ (l.take (k+1))=cJ (l.take k)++[⟨l[k].fr,bZ l[k].tk⟩]:=by
   unfold cJ
   rw [Zn aK,Zr];rfl
  have rI:(lf W).flatten.length=W.length*2:=by rw [fg (IK W),eZ]
  have fa:=Rd.one hx
  unfold gG.cells at aC
  generalize l[k]=x at aC hx Xm Ny Xj htk fa
  obtain ⟨xf,xt,xv⟩:=x
  dsimp only at aC hx Xm Ny Xj htk fa
  have T6:∀ w',aH [] w w'→bh Tryz.prog 46 [xv] w' [] (fun _:{x:(Option Addr×Nat)×List eL // bZ x.2=bZ xt}=>True) (fun z=>.slice z.1.1.1 z.1.2.length z.1.1.2) (fun z=>[row 78 2 (.slice z.1.1.1 z.1.2.length z.1.1.2) z.1.2.length (gN z.1.2).flatten,CD z.1.2]):=fun w' hk=>bh.slT (Φ:=fun W=>bZ W=bZ xt) (N0 (hx.keeps hk) (Xm.keeps hk) Ny Xj)
  refine aW (E:=182) (sz:=2) (v:=v) (by exact .here) fun va vc e=>?_
  subst e
  (refine Jr<|JA rfl<|Jn<|Jq<|Jd rfl fun ar=>Jk<|Jq<|J0<|Jr<|ab (fG cB ar) rfl<|ab (gS (eF.base aC rfl)) rfl<|Jz rfl rfl fun _ _=>aq (.of rfl) (.of rfl) .here rfl rfl (fN rfl fa) (bF rfl) ak<|Jn ?_)
  with_reducible refine dK 8 (by kernel_rfl) ?_
  (refine au (fun β=>(a7 (.of rfl))) bC rfl<|au (fun β=>(ao (.of rfl) ae)) bC rfl<|au (fun β=>(ag (.of rfl) (At.lit .here rfl))) bC rfl<|au (fun β=>(ao (.of rfl) ae)) bC rfl<|au (fun β=>(ag (.of rfl) (At.lit .here rfl))) bC rfl ?_)
  dsimp only [Nat.zero_add,Nat.reduceAdd]
  with_reducible apply dH (ι:={x:(Option Addr×Nat)×List eL // bZ x.2=bZ xt}) (Φ:=fun _=>True) (val:=fun z=>.slice z.1.1.1 z.1.2.length z.1.1.2) (own:=fun z=>[row 78 2 (.slice z.1.1.1 z.1.2.length z.1.1.2) z.1.2.length (gN z.1.2).flatten,CD z.1.2]) (g:=R9 xt) (B:=[]) (args:=fun _=>[xv])
  case hg=>exact N1 xt
  case hB=>rfl
  case hr=>exact fun β=>aY (.of rfl) (.cons (.of rfl) .nil) inferInstance rfl
  case hd=>rfl
  case hc=>exact fun β w' hb=>T6 w' hb.mem.keeps
  dsimp only [Nat.reduceAdd]
  with_reducible apply au
  case hr=>(intro β;exact aS (.cons (.of rfl) (.cons (.of rfl) .nil)) ak)
  case hi=>exact fun β β' h=>by simp only [h 5 (by kernel_rfl)]
  case hd=>rfl
  dsimp only [Nat.reduceAdd]
  with_reducible apply lu
  case hr=>(intro β;exact bu (.cons (.of rfl) .nil) rfl rfl bO bO ak)
  case hi=>exact fun β β' h=>by simp only [h 5 (by decide) (by kernel_rfl)]
  case hd=>rfl
  dsimp only [Nat.reduceAdd]
  refine fh fun β=>?_
  dsimp only [eu,Za,Zb,List.append_eq,Nat.reduceAdd]
  generalize fL (β 7)=b7
  generalize R9 xt (β 5)=y
  obtain ⟨⟨⟨ya,yc⟩,Y⟩,hY⟩:=y
  clear β
  dsimp only at hY ⊢
  refine cu (rs:=[8]) (by kernel_rfl) (by simp) (ZA.2 ⟨?_,fun _ h=>absurd h Zq⟩)
  refine cG rfl ?_
  refine bH (.of rfl) (.of rfl) dO bT ak (by rfl) (fN rfl rfl) (by rfl) (by rfl) (by rfl) eN (by rfl) ?_
  intro v'
  refine Jn ?_
  refine cu (rs:=[9]) (by kernel_rfl) (by simp) (ZA.2 ⟨?_,fun _ h=>absurd h Zq⟩)
  refine cG rfl ?_
  refine Ja rfl<|Jn ?_
  with_reducible refine cH (by kernel_rfl) ?_
  refine Jj<|Jt<|Jg<|JB rfl (by omega)<|Jv rfl<|Jn ?_
  refine Hz (W:=W) (x:=⟨xf,Y,.slice ya Y.length yc⟩) fk (by exact .cons (.there .here) (.cons (.there .here) .nil)) ?_
  apply aJ (k+1,v',W++[⟨xf,Y,.slice ya Y.length yc⟩]) ⟨by show k+1≤_;omega,by
   show cJ (W++[_])=_
   rw [M8,hW,htk,← hY];rfl⟩ (by show l.length-(k+1)<l.length-k;omega)
  case hs1=>exact cd
  case ht=>
   dsimp only
   rw [IL,Zg]
   simp only [ZJ,Zaa,ZB]
   exact .cons (.there .here) (.cons .here .nil)
 ·have e:k=l.length:=by omega
  rw [e,ZL] at hW
  refine aW (E:=182) (sz:=2) (v:=v) (by exact .here) fun va vc e=>?_
  subst e
  refine Jr<|JA rfl<|Jn<|Jq<|Jc rfl fun ar=>Jp<|Jl<|Jo<|Jt<|Jr<|Jv rfl<|Ja rfl<|Jn<|Je ?_
  first | with_reducible apply aN | with_reducible apply aO
  case he=>exact dD rfl rfl
  case hR=>
   intro w' aB
   exact aF (.slice va W.length vc,W) hW (by exact .cons .here (.cons .here .nil)) aB rfl
def Bc (l:List Od):Bool:=(l.all fun x=>qM x.tk)&&(decide ((l.length:Int)≤5)||decide ((l.length:Int)=17))
theorem wu {kv:Value} {l:List gG} {w:World} (hw:Rd w kv 2 (lf l)) (hM:wX w l):aj Tryz.prog 61 [kv] w (.bool (Bc (cJ l))):=by
 obtain ⟨a,cp,b,o,rfl,c7,bQ,ha,hc⟩:=hw
 rw [eZ] at *
 unfold maxLen at bQ
 have nD:(cJ l).length=l.length:=Zd _
 refine ah Tryz.func61 rfl rfl ?_
 refine Jr<|Ja rfl<|Jn<|Jq<|Jr<|Ja rfl<|Jn<|J0 ?_
 refine aX (ι:=Nat) (fun k=>k≤l.length∧∀ j (hj:j<l.length),j<k→qM (bZ l[j].tk)=true) (fun k=>[(3,.int .i64 (k:Nat)),(0,.slice a l.length cp)]) (fun _=>[]) (fun k=>l.length-k) ?_ ?_
 ·with_reducible apply aI (0:Nat) ⟨Zi _,fun j _ hj=>absurd hj (ZO _)⟩
  case hs1=>exact cd
  case ht=>exact .nil
 rintro k ⟨hk,hf⟩
 by_cases aK:k<l.length
 ·have cB:=ha (qb aK)
  have aC:=(hc k _ (zx l aK)).2
  have iv:=Zj aK
  obtain ⟨tz,NX⟩:=hM _ iv
  have Ru:(⟨l[k].fr,bZ l[k].tk⟩:Od)∈cJ l:=Z0 (f:=fun x:gG=>(⟨x.fr,bZ x.tk⟩:Od)) iv
  have sV:qM (bZ l[k].tk)=true→∀ j (hj:j<l.length),j<k+1→qM (bZ l[j].tk)=true:=fun q j hj Kg=>by
   by_cases e:j=k
   ·subst e;exact q
   ·exact hf j hj (by omega)
  generalize l[k]=x at aC tz NX Ru sV
  obtain ⟨xf,xt,xv⟩:=x
  dsimp only at aC tz NX Ru sV
  have Xw:∀ {w'},aH [] w w'→aj Tryz.prog 44 [xv] w' (.bool (qM (bZ xt))):=fun hk=>yY (Rd.keeps tz hk) (NX.keeps hk)
  have fa:=Rd.one tz
  have c0:w.cell? ⟨b,o+k*2,none⟩=some (.int .i64 xf):=aC 0 _ rfl
  have c1:w.cell? ⟨b,o+k*2+1,none⟩=some xv:=aC 1 _ rfl
  generalize Rf:qM (bZ xt)=sb at *
  (refine Jq<|Jr<|Jv rfl<|Jv rfl<|JI rfl<|JA rfl<|Jn<|Jd rfl fun ar=>Jk<|Jq<|J0<|Jr<|Jv rfl<|Jv rfl<|ab (fG cB ar) rfl<|bP rfl rfl ae<|ab (ag (.of rfl) (At.base c1 rfl)) rfl<|ai bL rfl (fun w' aB=>(Xw (Mem.keeps aB)))<|JH rfl<|Jn<|nF rfl (fun ar=>?_) fun ar=>?_;refine Jr<|Ja rfl<|Jn<|Je<|Jm<|Jh<|Jh<|Jm<|Jh<|JT ?_;rotate_left;refine Jw<|Jj<|Jt<|Jg<|Jv rfl<|JB rfl (by omega)<|Ja rfl<|Jn ?_;rotate_right)
  ·have e:Bc (cJ l)=false:=by
    unfold Bc
    rw [List.all_eq_false.2 ⟨_,Ru,?_⟩]
    ·rfl
    ·dsimp only
     rw [Rf]
     simpa using ar
   rw [e]
  ·with_reducible apply aJ (k+1) ⟨ZaM aK,sV (by simpa using ar)⟩ (show l.length-(k+1)<l.length-k by omega)
   case hs1=>exact cd
   case ht=>exact .nil
 ·obtain rfl:k=l.length:=by omega
  have e:((cJ l).all fun x=>qM x.tk)=true:=Z3.2 fun x hx=>by
   unfold cJ at hx
   obtain ⟨y,hy,rfl⟩:=Zu.1 hx
   obtain ⟨j,hj,rfl⟩:=Zs hy
   exact hf j hj hj
  have e2:Bc (cJ l)=(decide ((l.length:Int)≤5)||decide ((l.length:Int)=17)):=by
   unfold Bc
   rw [e,nD,Zaq]
  rw [e2]
  (refine Jq<|Jr<|Jv rfl<|Jv rfl<|JI rfl<|JA rfl<|Jn<|Jc rfl fun ar=>Jp<|Jl<|Jo<|Jt<|Jr<|Jv rfl<|JI rfl<|JF rfl<|Jv rfl<|gr rfl rfl rfl rfl<|aA rfl rfl inferInstance (fun hg bB=>(bD (.bI hg rfl))) rfl<|aA rfl rfl inferInstance (fun hg bB=>(lY (.bI hg rfl) (.of rfl))) rfl<|ab (aZ (.of rfl) rfl) rfl<|Ja rfl<|Jn<|Je<|JT ?_)
  rfl
end Go.Proofs.A1
namespace Go.Proofs.A1
open Go Go.SL
def W8 (r:Ro) (l:List Od) (k:Nat):Int:=aV [fy (l.getD k Od.zero).fr 0 10000000,bW (decide ((0:Int)<(k:Nat))&&decide ((l.getD k Od.zero).fr≤(l.getD (k-1) Od.zero).fr)) 11,tr r (l.getD k Od.zero).tk]
theorem TW {r:Ro} {l:List gG} {k:Nat} (h:k<l.length):W8 r (cJ l) k=AE r (cJ l) k:=by
 rw [IM h]
 unfold W8 Gk
 rw [oh h]
 dsimp only
 by_cases k0:k=0
 ·subst k0
  rw [if_pos rfl]
  by_cases c:fy l[0].fr 0 10000000=0
  ·have:=fx.1 c
   rw [decide_eq_false (show ¬ l[0].fr ≤ -1 by omega)]
   rfl
  ·rw [vt c,vt c]
 ·rw [if_neg k0,decide_eq_true (show (0:Int)<(k:Nat) by omega),Zaq]
set_option maxHeartbeats 1000000 in
theorem wQ {r:Ro} {s d t p kv:Value} {l:List gG} {w:World} (h:RR w r s d t p) (hw:Rd w kv 2 (lf l)) (hM:wX w l):aj Tryz.prog 65 [RA r s d t p,kv] w (.int .i64 (Ha r (cJ l))):=by
 have h1:=Rd.one h.sr
 have h2:=Rd.one h.de
 have h3:=Rd.one h.ti
 have h4:=Rd.one h.po
 obtain ⟨a,cp,b,o,rfl,c7,bQ,ha,hc⟩:=hw
 rw [eZ] at *
 unfold maxLen at bQ
 have nD:(cJ l).length=l.length:=Zd _
 unfold RA
 refine ah Tryz.func65 rfl rfl ?_
 (refine Jr<|Jy rfl rfl fun _ _=>Ja rfl<|Jn<|Jq<|Jr<|Jv rfl<|JI rfl<|JE rfl<|Jn<|fP rfl (fun ar=>?_) fun ar=>?_;refine Jr<|Ja rfl<|Jn<|Ju<|JT ?_;rotate_left;refine Jk<|Jq<|Jr<|Ja rfl<|Jn<|J0 ?_;rotate_right)
 ·have e1:Ha r (cJ l)=5:=by unfold Ha;rw [if_pos (by rw [nD];omega)]
  rw [e1]
 have hX:Ha r (cJ l)=iy (AE r (cJ l)) l.length:=by unfold Ha;rw [if_neg (by rw [nD];omega),nD]
 clear ar
 rename_i b2 sW
 refine aX (fun k:Nat=>k≤l.length∧∀ i,i<k→AE r (cJ l) i=0) (fun k=>[(5,.int .i64 (k:Nat)),(1,.slice a l.length cp),(2,.pointer (some ⟨b2,0,none⟩))])
  (fun k=>[JQ b2 r s d t p]) (fun k=>l.length-k) ?_ ?_
 ·with_reducible apply aI (0:Nat) ⟨Zi _,fun i hi=>absurd hi (ZO _)⟩
  case hs1=>exact cd
  case ht=>exact lU
 rintro k ⟨hk,hf⟩
 by_cases aK:k<l.length
 ·have cB:=ha (qb aK)
  have NI:k-1<l.length:=by omega
  have aC:=(hc k _ (zx l aK)).2
  have c0:w.cell? ⟨b,o+k*2,none⟩=some (.int .i64 l[k].fr):=aC 0 _ rfl
  have c1:w.cell? ⟨b,o+k*2+1,none⟩=some l[k].v:=aC 1 _ rfl
  have c2:w.cell? ⟨b,o+(max 0 ((k:Int)-1)).toNat*2,none⟩=some (.int .i64 l[k-1].fr):=by
   rw [show (max 0 ((k:Int)-1)).toNat=k-1 by omega]
   exact (hc (k-1) _ (zx l NI)).2 0 _ rfl
  obtain ⟨tz,NX⟩:=hM _ (Zj aK)
  have fa:=Rd.one tz
  have htk:∀ {w'},aH [] w w'→aj Tryz.prog 49 [.agg #[.int .i64 r.lv,.int .i64 r.ma,s,d,t,p],l[k].v] w' (.int .i64 (tr r (bZ l[k].tk))):=fun hk=>Ah (h.keeps hk) (Rd.keeps tz hk) (NX.keeps hk)
  have jd:=TW (r:=r) aK
  unfold W8 at jd
  rw [oh aK,oh NI] at jd
  dsimp only at jd
  have jE:AE r (cJ l) k=0→∀ i,i<k+1→AE r (cJ l) i=0:=fun e i hi=>by
   by_cases e2:i=k
   ·rw [e2];exact e
   ·exact hf i (by omega)
  have S2:AE r (cJ l) k≠0→iy (AE r (cJ l)) l.length=AE r (cJ l) k:=fun e=>ep hf aK e
  generalize l[k-1].fr=y at c2 jd
  generalize tr r (bZ l[k].tk)=T at htk jd
  generalize l[k].v=kv at c1 fa htk
  generalize l[k].fr=x at c0 jd
  have e:=jd
  refine Jq<|Jr<|Jv rfl<|Jv rfl<|JI rfl<|JA rfl<|Jn<|Jd rfl fun ar=>Jk<|Jq<|J0<|Jq ?_
  with_reducible refine cQ 32 (by kernel_rfl) ?_
  (refine an kA rfl<|an kA rfl<|an (fG cB ar) rfl<|an kB rfl<|an (ag (.of rfl) (At.base c0 rfl)) rfl<|aT eK rfl (fun w' aB=>(tQ x 0 10000000 w'))<|an kA rfl<|an (iK (.of rfl) (.of rfl)) rfl<|an kA rfl<|gq rfl rfl inferInstance (fun hg bB=>(a7 (.of rfl))) rfl<|gq rfl rfl inferInstance (fun hg bB=>(a7 (.of rfl))) rfl<|gq rfl rfl inferInstance (fun hg bB=>(az (.bI hg rfl) (.bI hg rfl) cB (by omega) ar bj)) rfl<|gq rfl rfl inferInstance (fun hg bB=>(ao (.bI hg rfl) ae)) rfl<|gq rfl rfl inferInstance (fun hg bB=>(ag (.bI hg rfl) (At.base c0 rfl))) rfl<|gq rfl rfl inferInstance (fun hg bB=>(a7 (.of rfl))) rfl<|gq rfl rfl inferInstance (fun hg bB=>(a7 (.of rfl))) rfl<|gq rfl rfl inferInstance (fun hg bB=>(rR (.bI hg rfl) (.of rfl) (QV (by omega)))) rfl<|gq rfl rfl inferInstance (fun hg bB=>(MN (.of rfl) (.bI hg rfl))) rfl<|gq rfl rfl inferInstance (fun hg bB=>(az (.bI hg rfl) (.bI hg rfl) cB (by omega) (by omega) bj)) rfl<|gq rfl rfl inferInstance (fun hg bB=>(ao (.bI hg rfl) ae)) rfl<|gq rfl rfl inferInstance (fun hg bB=>(ag (.bI hg rfl) (At.base c2 rfl))) rfl<|gq rfl rfl inferInstance (fun hg bB=>(k9 (.bI hg rfl) (.bI hg rfl))) rfl<|an (cz (.of rfl) rfl) rfl<|aT bd rfl (fun w' aB=>(kb _ 11 w'))<|an (cL .here) rfl<|an kA rfl<|an kA rfl<|an (fG cB ar) rfl<|an kB rfl<|an (ag (.of rfl) (At.base c1 rfl)) rfl<|aT bd rfl (fun w' aB=>(htk (Mem.keeps aB)))<|ek (aD (.cons (.of rfl) (.cons (.of rfl) (.cons (.of rfl) .nil))) rfl rfl rfl rfl) rfl rfl ?_)
  with_reducible refine dp rfl fun bq mN=>?_
  (refine ai bL rfl (fun w' aB=>(j8 (Mem.dh aB .here rfl rfl) (bU.cons (bU.cons (bU.cons bU.nil)))))<|Ja rfl<|Ji<|Jv rfl<|JD rfl<|Jn<|fP rfl (fun ar=>?_) fun ar=>?_;refine Jr<|Jv rfl<|Ja rfl<|Jn<|Je<|Jm<|Jh<|Jh<|Jm<|Jh<|JT ?_;rotate_left;refine Jw<|Jj<|Jt<|Jg<|Jv rfl<|JB rfl (by omega)<|Ja rfl<|Jn ?_;rotate_right)
  ·rw [e] at ar ⊢
   rw [hX,S2 ar]
  apply aJ (k+1) ⟨(show k+1≤l.length from aK),jE (by rw [← e];exact Zo.1 ar)⟩ (show l.length-(k+1)<l.length-k by omega)
  case hs1=>exact cd
  case ht=>exact lU
 ·obtain rfl:k=l.length:=by omega
  rw [hX,dj.2 fun i hi=>hf i hi]
  refine Jq<|Jr<|Jv rfl<|Jv rfl<|JI rfl<|JA rfl<|Jn<|Jc rfl fun ar=>Jp<|Jl<|Jo<|Jt<|Jr<|Ja rfl<|Jn<|Je<|JT ?_
  rfl
end Go.Proofs.A1
namespace Go.Proofs.A1
open Go Go.SL
theorem QG (r:Ro) (l:List Od) (i:Nat):q8 r l i=0∨q8 r l i=31∨q8 r l i=18:=by
 unfold q8
 rcases HY (r:=CE r l i) (l:=(l.getD i Od.zero).tk) with e | ⟨e,_⟩ | ⟨e,_⟩
 ·exact .inl e
 ·exact .inr (.inl e)
 ·exact .inr (.inr e)
theorem D1 {f:Nat→Int} {n:Nat} (h:iy f n≠0):∃ i,i<n∧(∀ j,j<i→f j=0)∧f i≠0:=by
 have hex:∃ i,i<n∧f i≠0:=Classical.byContradiction fun c=>h (dj.2 fun i hi=>Classical.byContradiction fun q=>c ⟨i,hi,q⟩)
 have key:∀ m,(∃ i,i<m∧f i≠0)→∃ i,i<m∧(∀ j,j<i→f j=0)∧f i≠0:=by
  intro m
  induction m with
  | zero=>rintro ⟨i,hi,_⟩;exact absurd hi (ZO _)
  | succ m ih =>
   rintro ⟨i,hi,hf⟩
   by_cases c:∃ i,i<m∧f i≠0
   ·obtain ⟨k,hk,a,b⟩:=ih c
    exact ⟨k,Nat.lt_succ_of_lt hk,a,b⟩
   ·have hz:∀ j,j<m→f j=0:=fun j hj=>Classical.byContradiction fun q=>c ⟨j,hj,q⟩
    refine ⟨i,hi,fun j hj=>hz j (by omega),hf⟩
 exact key n hex
theorem MG {r:Ro} {l:List Od} {Q:Ro} {I E:Int} (hX:fI r l=(Q,I,E)) (hE:E≠0):∃ i:Nat,i<l.length∧I=(i:Nat)∧(E=31∨E=18):=by
 unfold fI at hX
 by_cases c:iy (q8 r l) l.length=0
 ·rw [if_pos c] at hX
  injection hX with _ h
  injection h with _ h
  exact absurd h.symm hE
 ·rw [if_neg c] at hX
  obtain ⟨i,hi,hz,hf⟩:=D1 c
  injection hX with _ h
  injection h with h1 h2
  refine ⟨i,hi,by rw [← h1,FA hz hi hf],?_⟩
  rw [← h2,ep hz hi hf]
  exact (QG r l i).resolve_left hf
theorem H2 {r:Ro} {l:List Od} {Q:Ro} {I E:Int} (hX:fI r l=(Q,I,E)) (hE:E=0):Q=CE r l l.length∧∀ j,j<l.length→q8 r l j=0:=by
 unfold fI at hX
 by_cases c:iy (q8 r l) l.length=0
 ·rw [if_pos c] at hX
  injection hX with h _
  exact ⟨h.symm,fun j hj=>dj.1 c j hj⟩
 ·rw [if_neg c] at hX
  injection hX with _ h
  injection h with _ h
  exact absurd (h.trans hE) c
theorem Di {r:Ro} (fK:gC r=0) {l:List Od} (hx:Ha r l=0) (hz:∀ j,j<l.length→q8 r l j=0) {y:ByteArray} (hy:y∈cy r) {f:Int} (hf:0≤f∧f≤10000000) {n:Nat} (hn:fO l f=n) {q:List Po} (hR:Ej r l n q) :
  nB r l y f=0∧pT r l y f=br (r.wp q) y:=by
 subst hn
 have ho:CG r l=0:=by unfold CG;rw [if_neg (not_not_intro fK)];exact hx
 have hs:Dd r y f=0:=by
  unfold Dd
  rw [Cf hy,ll,KB]
  exact fx.2 hf
 have hr:=F2 (r:=r) (l:=l) (n:=fO l f) (CV l f) fun j hj=>hz j (Zay hj (CV l f))
 have e:nB r l y f=0:=by
  unfold nB
  rw [if_neg (not_not_intro ho),if_neg (not_not_intro hs),hr]
 refine ⟨e,?_⟩
 unfold pT
 rw [if_neg (not_not_intro e),hr]
 show br (CE r l (fO l f)) y=_
 rw [hR.eq]
def L6 (r:Ro) (l:List Tk) (y:ByteArray) (k:Nat):Nat→ByteArray
 | 0=>jM r (k:Nat) y
 | i+1=>if (l.getD i Tk.zero).de=y∧(l.getD i Tk.zero).at k≠⟨#[]⟩ then (l.getD i Tk.zero).at k else L6 r l y k i
theorem ui {r:Ro} {l:List Tk} {y:ByteArray} {k i:Nat} (hi:i<l.length):L6 r l y k (i+1)=if l[i].de=y∧l[i].at k≠⟨#[]⟩ then l[i].at k else L6 r l y k i:=by
 rw [L6,Zk,Zc hi];rfl
theorem CS {r:Ro} {l:List Tk} {y:ByteArray} {k:Nat}:∀ {n:Nat},n≤l.length→(∀ i (hi:i<l.length),i<n→l[i].de≠y)→L6 r l y k n=jM r (k:Nat) y
 | 0,_,_=>rfl
 | n + 1, hn, h => by
  rw [ui (by omega),if_neg fun c=>h n (by omega) (Nat.lt_succ_self n) c.1]
  exact CS (by omega) fun i hi aK=>h i hi (by omega)
theorem Cp {r:Ro} (fK:gC r=0) (v:Int) (y:ByteArray):jM r v y≠dash:=fun e=>by
 have hp:=prt (ss fK).2.1
 have hne:jM r v y≠⟨#[]⟩:=by rw [e];decide
 exact hp.nd (Fy hne) e
theorem L5 {r:Ro} (fK:gC r=0) {l:List Tk} (hl:Hf r l) {R:Ro} (zR:R.lv=r.lv) {y:ByteArray} (h1:∀ t∈l,br R t.de=FG r t) (h2:y ∉ l.map Tk.de→br R y=br r y) {k:Nat} (hk:(k:Int)<r.lv) :
  (if L6 r l y k l.length=dash then ⟨#[]⟩ else L6 r l y k l.length)=jM R (k:Nat) y:=by
 have hR:=zT (r:=R) (y:=y) (k:=k) (by omega)
 by_cases c:y∈l.map Tk.de
 ·obtain ⟨t,ht,e⟩:=Zu.1 c
  obtain ⟨j,hj,rfl⟩:=Zs ht
  have hw:∀ n,j<n→n≤l.length→L6 r l y k n=if l[j].at k≠⟨#[]⟩ then l[j].at k else jM r (k:Nat) y:=by
   intro n
   induction n with
   | zero=>intro h;exact absurd h (ZO _)
   | succ n ih =>
    intro h1 h2
    rw [ui (by omega)]
    by_cases q:n=j
    ·subst q
     have pH:=CS (r:=r) (l:=l) (y:=y) (k:=k) (n:=n) (by omega) fun i hi aK e2=>tf hl.nd hi hj (by omega) (e2.trans e.symm)
     rw [pH]
     by_cases z:l[n].at k≠⟨#[]⟩
     ·rw [if_pos ⟨e,z⟩,if_pos z]
     ·rw [if_neg fun q=>z q.2,if_neg z]
    ·rw [if_neg fun z=>tf hl.nd (show n<l.length by omega) hj q (z.1.trans e.symm)]
     exact ih (by omega) (by omega)
  rw [hw _ hj (Zz _)]
  have hh:=h1 _ ht
  rw [e] at hh
  rw [hh] at hR
  have hwn:(FG r l[j])[k]? = some (Tl r l[j] k):=by
   unfold FG
   rw [ZD,Zbq (by omega)];rfl
  rw [hwn] at hR
  rw [← Option.some.inj hR]
  unfold Tl
  rw [e]
  by_cases z:l[j].at k=⟨#[]⟩
  ·rw [if_neg (not_not_intro z),if_pos z,if_neg (Cp fK _ _)]
  ·rw [if_pos z,if_neg z]
 ·rw [CS (Zz _) fun i hi _ e=>c (Zu.2 ⟨_,Zj hi,e⟩),if_neg (Cp fK _ _)]
  rw [h2 c,zT hk] at hR
  exact Option.some.inj hR
end Go.Proofs.A1
