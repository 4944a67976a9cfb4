/- Parts of the proof: LY P6c P6e LZ MA MB MC PS P6d MD ME MF. -/
import Derived.Test.YteonnodafmegaaaGreatDoorBM13
import Derived.Test.YteonnodafmegaaaGreatDoorBM04
import Derived.Test.YteonnodafmegaaaGreatDoorBM10
import Derived.Test.YteonnodafmegaaaGreatDoorBM12
import Derived.Test.YteonnodafmegaaaGreatDoorBM06
import Derived.Test.YteonnodafmegaaaGreatDoorBM09
import Derived.Test.YteonnodafmegaaaGreatDoorBM03
set_option linter.unusedSectionVars false
set_option linter.unusedVariables false
set_option linter.unusedSimpArgs false
namespace Go.Proofs.A1
open Go Go.SL
theorem D4 {r:Ro} {s d t p:Value} {w:World} (h:RR w r s d t p) (hf:mX r):bd Tryz.prog 77 [RA r s d t p] w [] (fun _:Value=>True) id (fun x=>[row 9 1 x (dZ r).length (aO (dZ r))]):=by
 have h1:=Rd.one h.sr
 have h2:=Rd.one h.de
 have h3:=Rd.one h.ti
 have h4:=Rd.one h.po
 have A8:=h.sr
 have Bg:=h.de
 have wa:=h.ti
 obtain ⟨a1,dJ,Gd,F6,rfl,ng,gr,kF,jJ⟩:=A8
 obtain ⟨a2,cU,Gc,F5,rfl,jt,eA,iW,jq⟩:=Bg
 obtain ⟨a3,dC,FY,Fg,rfl,lC,fD,qY,oe⟩:=wa
 rw [cu] at *
 rw [bU] at *
 rw [bJ] at *
 unfold maxLen at gr eA fD
 obtain ⟨f1,f2,f3,f4⟩:=hf
 unfold RA
 refine aQ Tryz.func77 rfl rfl ?_
 refine Jr<|Jy rfl rfl fun _ _=>Ja rfl<|Ji<|Ja rfl<|Jn<|Jq<|Jr<|Ja rfl<|Jn<|J0 ?_
 rename_i b1 sH
 refine aP 9 1 ?_
 refine aX (ι:=Nat×Value×List ByteArray) (fun y=>y.1≤r.sr.length∧y.2.2=([]:List ByteArray)++(cm r).take y.1) (fun y=>[(4,.int .i64 (y.1:Nat)),(3,y.2.1),(1,.pointer (some ⟨b1,0,none⟩))]) (fun y=>[row 9 1 y.2.1 y.2.2.length (aO y.2.2),JQ b1 r (.slice a1 r.sr.length dJ) (.slice a2 r.de.length cU) (.slice a3 r.ti.length dC) p]) (fun y=>r.sr.length-y.1) ?_ ?_
 ·apply aJ (0,.slice none 0 0,[]) ⟨Zi _,rfl⟩
  case hs1=>exact cd
  case ht=>
   exact .cons .here (.cons .here .nil)
 rintro ⟨k,v1,L1⟩ ⟨hk,RL⟩
 dsimp only at hk RL ⊢
 have XN:(cm r).length=r.sr.length:=by unfold cm;rw [Zd]
 by_cases aL:k<r.sr.length
 ·have MH:L1.length=(([]:List ByteArray)).length+k:=by rw [RL,Zg,List.length_take];omega
  have Yy:L1.length≤3000000:=by rw [MH];simp only [List.length_nil];omega
  have hlen:(aO L1).length=L1.length*1:=by rw [dd];omega
  have cE:=kF (gB aL)
  have c0:w.cell? ⟨Gd,F6+k*2,none⟩=some (.string (r.sr[k]).nm):=(jJ k _ (fm aL)).2 0 _ rfl
  have hx:(cm r)[k]'(by omega)=(r.sr[k]).nm:=by unfold cm;rw [List.getElem_map]
  have tN:L1++[(r.sr[k]).nm]=([]:List ByteArray)++(cm r).take (k+1):=by rw [List.take_succ_eq_append_getElem (by omega),hx,← Zh,← RL]
  generalize (r.sr[k]).nm=x at c0 hx tN
  (refine Jq<|Jr<|Jv rfl<|bF rfl rfl ae ?_;refine JL rfl (.there .here) rfl<|JI rfl<|JA rfl<|Jn<|Jd rfl fun ar=>Jk<|Jq<|J0<|Jg<|Jv rfl<|bF rfl rfl ae ?_;refine JL rfl (.there .here) rfl<|Jv rfl<|ab (fH cE ar) rfl ?_;refine bF rfl rfl ae ?_;refine ab (ag (.of rfl) (At.base c0 rfl)) rfl ?_;refine bb (aA (.cons (.of rfl) .nil) rfl rfl rfl rfl) rfl fun _ _=>?_)
  refine bB (.of rfl) (.of rfl) (.there .here) .here an (by rfl) (ed rfl) (by rfl) (by rfl) (by rfl) eH (by rfl) ?_
  intro z
  refine Ja rfl<|Jx<|Jj<|Jt<|Jg<|Jv rfl<|JB rfl (by omega)<|Ja rfl<|Jn ?_
  apply aK (k+1,z,L1++[x]) ⟨by show k+1≤r.sr.length;omega,tN⟩ (by show r.sr.length-(k+1)<r.sr.length-k;omega)
  case hs1=>exact cd
  case ht=>
   show bo _ [row 9 1 z (L1++[x]).length (aO (L1++[x])),JQ b1 r (.slice a1 r.sr.length dJ) (.slice a2 r.de.length cU) (.slice a3 r.ti.length dC) p] _
   rw [show aO (L1++[x])=aO L1++[.string x] from eO _ _,Zg,List.length_singleton]
   exact .cons .here (.cons (.there .here) .nil)
 obtain rfl:k=r.sr.length:=by omega
 rw [List.take_of_length_le (by omega)] at RL
 clear hk aL
 (refine Jq<|Jr<|Jv rfl<|bF rfl rfl ae ?_;refine JL rfl (.there .here) rfl<|JI rfl<|JA rfl<|Jn<|Jc rfl fun ar=>Jp<|Jl<|Jo<|Jt<|Jq<|Jr<|Ja rfl<|Jn<|J0 ?_)
 rw [Za] at RL
 refine aX (ι:=Nat×Value×List ByteArray) (fun y=>y.1≤r.de.length∧y.2.2=cm r++(ct r).take y.1) (fun y=>[(5,.int .i64 (y.1:Nat)),(3,y.2.1),(1,.pointer (some ⟨b1,0,none⟩))]) (fun y=>[row 9 1 y.2.1 y.2.2.length (aO y.2.2),JQ b1 r (.slice a1 r.sr.length dJ) (.slice a2 r.de.length cU) (.slice a3 r.ti.length dC) p]) (fun y=>r.de.length-y.1) ?_ ?_
 ·apply aJ (0,v1,L1) ⟨Zi _,by rw [Ze,List.append_nil];exact RL⟩
  case hs1=>exact cd
  case ht=>
   exact .cons .here (.cons .here .nil)
 rintro ⟨k,v2,L2⟩ ⟨hk,tN⟩
 dsimp only at hk tN ⊢
 have ZT:(ct r).length=r.de.length:=by unfold ct;rw [Zd]
 by_cases aL:k<r.de.length
 ·have MH:L2.length=(cm r).length+k:=by rw [tN,Zg,List.length_take];omega
  have Yy:L2.length≤3000000:=by rw [MH];rw [XN];omega
  have hlen:(aO L2).length=L2.length*1:=by rw [dd];omega
  have cE:=iW (gl aL)
  have c0:w.cell? ⟨Gc,F5+k*3,none⟩=some (.string (r.de[k]).nm):=(jq k _ (eX aL)).2 0 _ rfl
  have hx:(ct r)[k]'(by omega)=(r.de[k]).nm:=by unfold ct;rw [List.getElem_map]
  have tN:L2++[(r.de[k]).nm]=cm r++(ct r).take (k+1):=by rw [List.take_succ_eq_append_getElem (by omega),hx,← Zh,← tN]
  generalize (r.de[k]).nm=x at c0 hx tN
  (refine Jq<|Jr<|Jv rfl<|bF rfl rfl ae ?_;refine JL rfl (.there .here) rfl<|JI rfl<|JA rfl<|Jn<|Jd rfl fun ar=>Jk<|Jq<|J0<|Jg<|Jv rfl<|bF rfl rfl ae ?_;refine JL rfl (.there .here) rfl<|Jv rfl<|ab (fH cE ar) rfl ?_;refine bF rfl rfl ae ?_;refine ab (ag (.of rfl) (At.base c0 rfl)) rfl ?_;refine bb (aA (.cons (.of rfl) .nil) rfl rfl rfl rfl) rfl fun _ _=>?_)
  refine bB (.of rfl) (.of rfl) (.there .here) .here an (by rfl) (ed rfl) (by rfl) (by rfl) (by rfl) eH (by rfl) ?_
  intro z
  refine Ja rfl<|Jx<|Jj<|Jt<|Jg<|Jv rfl<|JB rfl (by omega)<|Ja rfl<|Jn ?_
  apply aK (k+1,z,L2++[x]) ⟨by show k+1≤r.de.length;omega,tN⟩ (by show r.de.length-(k+1)<r.de.length-k;omega)
  case hs1=>exact cd
  case ht=>
   show bo _ [row 9 1 z (L2++[x]).length (aO (L2++[x])),JQ b1 r (.slice a1 r.sr.length dJ) (.slice a2 r.de.length cU) (.slice a3 r.ti.length dC) p] _
   rw [show aO (L2++[x])=aO L2++[.string x] from eO _ _,Zg,List.length_singleton]
   exact .cons .here (.cons (.there .here) .nil)
 obtain rfl:k=r.de.length:=by omega
 rw [List.take_of_length_le (by omega)] at tN
 clear hk aL
 (refine Jq<|Jr<|Jv rfl<|bF rfl rfl ae ?_;refine JL rfl (.there .here) rfl<|JI rfl<|JA rfl<|Jn<|Jc rfl fun ar=>Jp<|Jl<|Jo<|Jt<|Jq<|Jr<|Ja rfl<|Jn<|J0 ?_)
 refine aX (ι:=Nat×Value×List ByteArray) (fun y=>y.1≤r.ti.length∧y.2.2=(cm r++ct r)++(cQ r).take y.1) (fun y=>[(6,.int .i64 (y.1:Nat)),(3,y.2.1),(1,.pointer (some ⟨b1,0,none⟩))]) (fun y=>[row 9 1 y.2.1 y.2.2.length (aO y.2.2),JQ b1 r (.slice a1 r.sr.length dJ) (.slice a2 r.de.length cU) (.slice a3 r.ti.length dC) p]) (fun y=>r.ti.length-y.1) ?_ ?_
 ·apply aJ (0,v2,L2) ⟨Zi _,by rw [Ze,List.append_nil];exact tN⟩
  case hs1=>exact cd
  case ht=>
   exact .cons .here (.cons .here .nil)
 rintro ⟨k,v3,L3⟩ ⟨hk,Om⟩
 dsimp only at hk Om ⊢
 have nn3:(cQ r).length=r.ti.length:=by unfold cQ;rw [Zd]
 by_cases aL:k<r.ti.length
 ·have MH:L3.length=((cm r++ct r)).length+k:=by rw [Om,Zg,List.length_take];omega
  have Yy:L3.length≤3000000:=by rw [MH];rw [Zg,XN,ZT];omega
  have hlen:(aO L3).length=L3.length*1:=by rw [dd];omega
  have cE:=qY (eT aL)
  have c0:w.cell? ⟨FY,Fg+k*3,none⟩=some (.string (r.ti[k]).nm):=(oe k _ (dQ aL)).2 0 _ rfl
  have hx:(cQ r)[k]'(by omega)=(r.ti[k]).nm:=by unfold cQ;rw [List.getElem_map]
  have tN:L3++[(r.ti[k]).nm]=(cm r++ct r)++(cQ r).take (k+1):=by rw [List.take_succ_eq_append_getElem (by omega),hx,← Zh,← Om]
  generalize (r.ti[k]).nm=x at c0 hx tN
  (refine Jq<|Jr<|Jv rfl<|bF rfl rfl ae ?_;refine JL rfl (.there .here) rfl<|JI rfl<|JA rfl<|Jn<|Jd rfl fun ar=>Jk<|Jq<|J0<|Jg<|Jv rfl<|bF rfl rfl ae ?_;refine JL rfl (.there .here) rfl<|Jv rfl<|ab (fH cE ar) rfl ?_;refine bF rfl rfl ae ?_;refine ab (ag (.of rfl) (At.base c0 rfl)) rfl ?_;refine bb (aA (.cons (.of rfl) .nil) rfl rfl rfl rfl) rfl fun _ _=>?_)
  refine bB (.of rfl) (.of rfl) (.there .here) .here an (by rfl) (ed rfl) (by rfl) (by rfl) (by rfl) eH (by rfl) ?_
  intro z
  refine Ja rfl<|Jx<|Jj<|Jt<|Jg<|Jv rfl<|JB rfl (by omega)<|Ja rfl<|Jn ?_
  apply aK (k+1,z,L3++[x]) ⟨by show k+1≤r.ti.length;omega,tN⟩ (by show r.ti.length-(k+1)<r.ti.length-k;omega)
  case hs1=>exact cd
  case ht=>
   show bo _ [row 9 1 z (L3++[x]).length (aO (L3++[x])),JQ b1 r (.slice a1 r.sr.length dJ) (.slice a2 r.de.length cU) (.slice a3 r.ti.length dC) p] _
   rw [show aO (L3++[x])=aO L3++[.string x] from eO _ _,Zg,List.length_singleton]
   exact .cons .here (.cons (.there .here) .nil)
 obtain rfl:k=r.ti.length:=by omega
 rw [List.take_of_length_le (by omega)] at Om
 clear hk aL
 (refine Jq<|Jr<|Jv rfl<|bF rfl rfl ae ?_;refine JL rfl (.there .here) rfl<|JI rfl<|JA rfl<|Jn<|Jc rfl fun ar=>Jp<|Jl<|Jo<|Jt<|Jr<|Jv rfl<|Ja rfl<|Jn<|Je ?_)
 have e:dZ r=L3:=Om.symm
 rw [e]
 first | with_reducible apply aM | with_reducible apply aN
 case he=>exact dp rfl rfl
 case hR=>
  intro w' au
  exact aB v3 trivial (by exact .cons .here .nil) au rfl
theorem EB {r:Ro} (h:fU r=0):F0 r:=prt (r6 h).2.1
theorem NV {r:Ro} (h:fU r=0):∀ p∈r.po,p.ip≠⟨#[]⟩:=fun p hp=>
 (EB h).ne (((DZ h).val.v8 p hp).elim .inl fun q=>.inr (.inr q))
theorem I6 {r:Ro} (h:fU r=0) {v:Int} {o:ByteArray} (ho:o≠⟨#[]⟩):oA r.po v 8 o=o::eQ r.po v 7 o:=tR (NV h) 7 ho
theorem I5 {r:Ro} (h:fU r=0) {v:Int} {o:ByteArray} (ho:o≠⟨#[]⟩):(oA r.po v 8 o).getLastD ⟨#[]⟩=gD r.po v 7 o:=by
 rw [I6 h ho,List.getLastD_cons]
 unfold gD
 cases eQ r.po v 7 o with
 | nil=>rfl
 | cons a l=>rw [List.getLastD_eq_getLast?]
theorem EE {r:Ro} (h:fU r=0) (v:Int) {o:ByteArray} (ho:o≠⟨#[]⟩):Nh r v o=jB r v o:=by
 rw [vr (DZ h).yS (DZ h).val]
 unfold Nh zW qk
 rw [I5 h ho,I6 h ho]
 split
 ·rfl
 ·rw [List.reverse_cons]
  unfold gD
  cases e:eQ r.po v 7 o with
  | nil=>rfl
  | cons a l =>
   rw [List.headD_eq_head?_getD,List.head?_append,List.head?_reverse]
   cases q:(a::l).getLast? with
   | none=>exact absurd (List.getLast?_eq_none_iff.1 q) (by simp)
   | some y=>rfl
def XB (r:Ro):Int:=if mM r≠0 then mM r else if jy r≠0 then jy r else yG r
theorem Q1 (r:Ro):XB r=fU r:=by
 unfold XB fU
 by_cases h1:mM r=0
 ·rw [if_neg (not_not_intro h1),if_neg (not_not_intro h1)]
  by_cases h2:jy r=0
  ·rw [if_neg (not_not_intro h2),if_neg (not_not_intro h2),Lz (prt h2)]
  ·rw [if_pos h2,if_pos h2]
 ·rw [if_pos h1,if_pos h1]
def yF (r:Ro) (k:Nat):Int:=((dZ r)[k]?.map fun x=>aW [bO (!jO x) 8,bO (iK ((dZ r).take k) x) 9]).getD 0
theorem Ly {r:Ro} {k:Nat} (h:k<(dZ r).length):yF r k=aW [bO (!jO (dZ r)[k]) 8,bO (iK ((dZ r).take k) (dZ r)[k]) 9]:=by
 unfold yF;rw [Zc h];rfl
theorem rU (a b:Int) (l:List Int):aW (aW [a,b]::l)=aW (a::b::l):=by
 by_cases ha:a=0
 ·subst ha
  have e:aW [0,b]=b:=by
   unfold aW;rw [if_neg (by decide)]
   unfold aW
   split
   ·rfl
   ·rename_i q;rw [Decidable.not_not] at q;rw [q];rfl
  rw [e]
  conv=>rhs;unfold aW
  rw [if_neg (by decide)]
 ·have e:aW [a,b]=a:=by unfold aW;rw [if_pos ha]
  rw [e]
  unfold aW
  rw [if_pos ha,if_pos ha]
theorem C2 (a b:Int) (l:List Int):aW [a,b,aW l]=aW (a::b::l):=by
 have h1:∀ x:Int,∀ m,aW (x::m)=if x≠0 then x else aW m:=fun x m=>by rw [aW]
 have h2:∀ x:Int,aW [x]=x:=fun x=>by
  rw [h1]
  split
  ·rfl
  ·rename_i q;rw [Decidable.not_not] at q;rw [q];rfl
 rw [h1,h1 b,h2,h1 a,h1 b]
theorem Kd (r:Ro):(dZ r).length=r.sr.length+r.de.length+r.ti.length:=by
 unfold dZ cm ct cQ
 simp only [Zg,Zd]
theorem Kc {r:Ro} {k:Nat} (h:k<r.sr.length):(dZ r)[k]? = some (r.sr[k]).nm∧(dZ r).take k=[]++(r.sr.take k).map Sr.nm:=by
 have e1:(cm r).length=r.sr.length:=by unfold cm;rw [Zd]
 unfold dZ
 rw [Zh]
 refine ⟨?_,?_⟩
 ·rw [List.getElem?_append_left (by omega)]
  unfold cm
  rw [List.getElem?_map,Zc h];rfl
 ·rw [List.take_append_of_le_length (by omega)]
  unfold cm
  rw [List.map_take];rfl
theorem Ke {r:Ro} {k:Nat} (h:k<r.de.length):(dZ r)[r.sr.length+k]? = some (r.de[k]).nm∧(dZ r).take (r.sr.length+k)=cm r++(r.de.take k).map De.nm:=by
 have e1:(cm r).length=r.sr.length:=by unfold cm;rw [Zd]
 have e2:(ct r).length=r.de.length:=by unfold ct;rw [Zd]
 unfold dZ
 rw [Zh]
 refine ⟨?_,?_⟩
 ·rw [List.getElem?_append_right (by omega),List.getElem?_append_left (by omega),show r.sr.length+k-(cm r).length=k by omega]
  unfold ct
  rw [List.getElem?_map,Zc h];rfl
 ·rw [← e1,List.take_length_add_append,List.take_append_of_le_length (by omega)]
  unfold ct
  rw [List.map_take]
theorem Kb {r:Ro} {k:Nat} (h:k<r.ti.length):(dZ r)[r.sr.length+r.de.length+k]? = some (r.ti[k]).nm∧(dZ r).take (r.sr.length+r.de.length+k)=(cm r++ct r)++(r.ti.take k).map Ti.nm:=by
 have e1:(cm r++ct r).length=r.sr.length+r.de.length:=by unfold cm ct;rw [Zg,Zd,Zd]
 have e2:(cQ r).length=r.ti.length:=by unfold cQ;rw [Zd]
 unfold dZ
 refine ⟨?_,?_⟩
 ·rw [List.getElem?_append_right (by omega),e1,show r.sr.length+r.de.length+k-(r.sr.length+r.de.length)=k by omega]
  unfold cQ
  rw [List.getElem?_map,Zc h];rfl
 ·rw [← e1,List.take_length_add_append]
  unfold cQ
  rw [List.map_take]
theorem Cy {r:Ro} {j:Nat} {x:ByteArray} {l:List ByteArray} (h:(dZ r)[j]? = some x) (h2:(dZ r).take j=l):yF r j=aW [bO (!jO x) 8,bO (iK l x) 9]:=by
 unfold yF;rw [h,h2];rfl
theorem Sh {r:Ro} {k:Nat} (h:k<r.sr.length):aW [yF r k,ep r (r.sr[k]).mx]=vX [] Sr.nm (fun x=>ep r x.mx) r.sr k:=by
 rw [nN h,Cy (Kc h).1 (Kc h).2,rU]
theorem Si {r:Ro} {k:Nat} (h:k<r.de.length):aW [yF r (r.sr.length+k),ep r (r.de[k]).mx]=vX (cm r) De.nm (fun x=>ep r x.mx) r.de k:=by
 rw [nN h,Cy (Ke h).1 (Ke h).2,rU]
theorem Sg {r:Ro} {k:Nat} (h:k<r.ti.length):aW [yF r (r.sr.length+r.de.length+k),ep r (r.ti[k]).fr,ep r (r.ti[k]).to,bO (decide ((r.ti[k]).fr=(r.ti[k]).to)) 24]=vX (cm r++ct r) Ti.nm (nk r) r.ti k:=by
 rw [nN h,Cy (Kb h).1 (Kb h).2,rU]
 unfold nk
 rw [C2]
theorem CA {r:Ro} (h1:eV 8 [] Sr.nm (fun x=>ep r x.mx) r.sr=0) (h2:eV 8 (cm r) De.nm (fun x=>ep r x.mx) r.de=0):jy r=eV 6 (cm r++ct r) Ti.nm (nk r) r.ti:=by
 rw [Uz h1 h2]
 unfold aW
 split
 ·rfl
 ·rename_i q;rw [Decidable.not_not] at q;rw [q];rfl
theorem Pj {c:Cx} {hs hs':List a8} {w:World} (hm:Mem c hs w) {g gc:Nat} {L:List ByteArray} {cur:List Value} {E:TypeId} {fz:Nat×Nat} (ht:Take hs (bA g (.cells (aO L++cur).toArray E fz)) hs') (hc:L.length≤gc) (hx:gc≤maxLen):Rd w (.slice (some ⟨g,0,none⟩) L.length gc) 1 (iT L):=by
 refine ⟨_,gc,g,0,by rw [cg],by rw [cg];exact hc,hx,fun _=>rfl,fun i r hr=>?_⟩
 have hi:=(List.getElem?_eq_some_iff.1 hr).1
 rw [cg] at hi
 rw [jG hi] at hr
 obtain rfl:=Option.some.inj hr
 refine ⟨rfl,fun j u hu=>?_⟩
 cases j with
 | zero =>
  simp only [List.getElem?_cons_zero,Option.some.injEq] at hu
  subst hu
  rw [cell_of_block (hm.bA ht)]
  simp [aO,List.getElem?_append_left,hi]
 | succ j=>simp at hu
theorem Hb {c:Cx} {hs hs':List a8} {w:World} (hm:Mem c hs w) {g gc:Nat} {L:List ByteArray} {cur:List Value} {E:TypeId} {fz:Nat×Nat} (ht:Take hs (bA g (.cells (aO L++cur).toArray E fz)) hs') (hc:L.length≤gc) (hx:gc≤maxLen) {k:Nat} (hk:k≤L.length):Rd w (Go.sliced (some ⟨g,0,none⟩) 0 (k:Int).toNat gc 1) 1 (iT (L.take k)):=by
 have:=(Pj hm ht hc hx).sliced (l:=0) (m:=k) (Zi _) hk
 rw [Int.toNat_natCast]
 rwa [List.drop_zero,show (iT L).take k=iT (L.take k) by unfold iT;rw [List.map_take]] at this
theorem BD {r:Ro} {s d t p:Value} (m:Int) {w w1:World} (h:RR w1 r s d t p):aj Tryz.prog 162 [RA r s d t p,.int .i64 m] w (.int .i64 (ep r m)):=by
 have h1:=Rd.one h.sr
 have h2:=Rd.one h.de
 have h3:=Rd.one h.ti
 have h4:=Rd.one h.po
 unfold RA
 refine ah Tryz.func162 rfl rfl ?_
 (refine Jr<|Jy rfl rfl fun _ _=>Ja rfl<|Ji<|Jv rfl<|JA rfl<|Jv rfl<|je rfl rfl rfl rfl ?_;refine aF rfl rfl inferInstance (fun hg bj=>(ao (.of rfl) ae)) rfl ?_;refine aF rfl rfl inferInstance (fun hg bj=>(ag (.bE hg rfl) (At.lit .here rfl))) rfl ?_;refine aF rfl rfl inferInstance (fun hg bj=>(yB (.bE hg rfl) (.bE hg rfl))) rfl ?_;refine ab (bR (.of rfl) rfl) rfl ?_;refine ai aZ rfl (fun w' au=>(kH _ 10 w')) ?_;refine Ja rfl<|Jn<|Je<|JT ?_)
 rfl
theorem BC {r:Ro} {s d t p:Value} (k:Nat) {w:World} (h:RR w r s d t p) (hf:mX r) (hk:k<(dZ r).length):aj Tryz.prog 229 [RA r s d t p,.int .i64 (k:Nat)] w (.int .i64 (yF r k)):=by
 have h1:=Rd.one h.sr
 have h2:=Rd.one h.de
 have h3:=Rd.one h.ti
 have h4:=Rd.one h.po
 have BZ:∀ w',aG [] w w'→bd Tryz.prog 77 [.agg #[.int .i64 r.lv,.int .i64 r.ma,s,d,t,p]] w' [] (fun _:Value=>True) id (fun x=>[row 9 1 x (dZ r).length (aO (dZ r))]):=fun w' hk=>D4 (h.keeps hk) hf
 rw [Ly hk]
 have sW:(dZ r).length≤3000000:=by
  obtain ⟨f1,f2,f3,f4⟩:=hf
  unfold dZ cm ct cQ
  simp only [Zg,Zd]
  omega
 generalize dZ r=L at BZ hk sW ⊢
 have Wt:k≤L.length:=by omega
 unfold RA
 refine ah Tryz.func229 rfl rfl ?_
 refine Jr<|Jy rfl rfl fun _ _=>Ja rfl<|Ji<|ab (cz .here) rfl ?_
 refine JN bI rfl (fun w1 aS=>BZ w1 aS.keeps) ?_
 intro x _
 dsimp only [id_eq,Zb,Za]
 refine c7 (E:=9) (sz:=1) (v:=x) (by exact .here) (by omega) ?_
 rintro g gc cur e db zd _ _
 subst e
 have jb:(aO L++cur)[k*1]? = some (.string L[k]):=qq L cur hk
 refine Ja rfl<|Jn<|Jq ?_
 with_reducible refine cC 15 (by kernel_rfl) ?_
 (refine ak kG rfl ?_;refine ak kG rfl ?_;refine ak (az (.of rfl) (.of rfl) rfl (by omega) (by omega) ba) rfl ?_;refine ak (ag (.of rfl) (At.kz .here jb)) rfl ?_;refine aT bI rfl (fun w' au=>(Vv _ w')) ?_;refine ak kG rfl ?_;refine ak kG rfl ?_;refine ak (gP (.of rfl) (.of rfl) (by omega) (by omega)) rfl ?_;refine ak kG rfl ?_;refine ak kG rfl ?_;refine ak (az (.of rfl) (.of rfl) rfl (by omega) (by omega) ba) rfl ?_;refine ak (ag (.of rfl) (At.kz .here jb)) rfl ?_;refine aT aZ rfl (fun w' au=>(QC _ (Hb au .here db zd Wt))) ?_;refine aT aZ rfl (fun w' au=>(kH _ 9 w')) ?_;refine dX (aA (.cons (.of rfl) (.cons (.of rfl) .nil)) rfl rfl rfl rfl) rfl rfl ?_)
 with_reducible refine df rfl fun bq mg=>?_
 (refine ai bI rfl (fun w' au=>(jS (Mem.dh au .here rfl rfl) (bP.cons (bP.cons bP.nil)))) ?_;refine Ja rfl<|Jn<|Je<|JT ?_)
 rfl
set_option maxHeartbeats 1000000 in
theorem zt {r:Ro} {s d t p:Value} {w:World} (h:RR w r s d t p) (hf:mX r):aj Tryz.prog 127 [RA r s d t p] w (.int .i64 (jy r)):=by
 have h1:=Rd.one h.sr
 have h2:=Rd.one h.de
 have h3:=Rd.one h.ti
 have h4:=Rd.one h.po
 have Qg:∀ k,k<(dZ r).length→∀ w',aG [] w w'→aj Tryz.prog 229 [.agg #[.int .i64 r.lv,.int .i64 r.ma,s,d,t,p],.int .i64 (k:Nat)] w' (.int .i64 (yF r k)):=fun k hk w' Wt=>BC k (h.keeps Wt) hf hk
 have iQ:∀ (m:Int) {w'},aG [] w w'→aj Tryz.prog 162 [.agg #[.int .i64 r.lv,.int .i64 r.ma,s,d,t,p],.int .i64 m] w' (.int .i64 (ep r m)):=fun m _ hk=>BD m (h.keeps hk)
 have dU:=Kd r
 have A8:=h.sr
 have Bg:=h.de
 have wa:=h.ti
 obtain ⟨a1,dJ,Gd,F6,rfl,ng,gr,kF,jJ⟩:=A8
 obtain ⟨a2,cU,Gc,F5,rfl,jt,eA,iW,jq⟩:=Bg
 obtain ⟨a3,dC,FY,Fg,rfl,lC,fD,qY,oe⟩:=wa
 rw [cu] at *
 rw [bU] at *
 rw [bJ] at *
 unfold maxLen at gr eA fD
 obtain ⟨f1,f2,f3,f4⟩:=hf
 unfold RA
 refine ah Tryz.func127 rfl rfl ?_
 (refine Jr<|Jy rfl rfl fun _ _=>Ja rfl<|Ji<|Ja rfl<|Jn<|Jq<|Jr<|bF rfl rfl ae ?_;refine JL rfl .here rfl<|JI rfl<|JE rfl<|Jn<|gm rfl (fun ar=>?_) fun ar=>?_;refine Jr<|Ja rfl<|Jn<|Ju<|JT ?_;rotate_left;refine Jk<|Jq<|Jr<|Ja rfl<|Jn<|J0 ?_;rotate_right)
 ·skip
  have e:eV 8 [] Sr.nm (fun x=>ep r x.mx) r.sr=5:=by unfold eV;rw [if_pos (show (8:Int)<(r.sr.length:Int) by omega)]
  rw [Vo (by rw [e];decide),e]
 rename_i b1 sH
 refine aX (ι:=Nat) (fun x=>x≤r.sr.length∧∀ i,i<x→vX [] Sr.nm (fun x=>ep r x.mx) r.sr i=0) (fun x=>[(4,.int .i64 (x:Nat)),(3,.int .i64 ((x:Nat):Int)),(1,.pointer (some ⟨b1,0,none⟩))]) (fun x=>[JQ b1 r (.slice a1 r.sr.length dJ) (.slice a2 r.de.length cU) (.slice a3 r.ti.length dC) p]) (fun x=>r.sr.length-x) ?_ ?_
 ·apply aJ (0:Nat) ⟨Zi _,fun i h=>absurd h (Nat.not_lt_zero _)⟩
  case hs1=>exact cd
  case ht=>(try simp only [Ze,Zf,Za]);exact .cons .here .nil
 rintro k ⟨hk,hz⟩
 by_cases aL:k<r.sr.length
 ·have cE:=kF (gB aL)
  obtain ⟨ij,aC⟩:=jJ k _ (fm aL)
  unfold Sr.cells at aC
  have YJ:=aC 0 _ rfl
  have U5:=aC 1 _ rfl
  have Qh:=Qg (k) (by omega)
  have hq:=Sh (r:=r) aL
  (refine Jq<|Jr<|Jv rfl<|bF rfl rfl ae ?_;refine JL rfl .here rfl<|JI rfl<|JA rfl<|Jn<|Jd rfl fun ar=>Jk<|Jq<|J0<|Jq<|Jq ?_)
  with_reducible refine cC 12 (by kernel_rfl) ?_
  (refine ak (cz .here) rfl ?_;refine ak kG rfl ?_;refine aT aZ rfl (fun w' au=>(Qh w' (Mem.keeps au))) ?_;refine ak (cz .here) rfl ?_;refine ak j9 rfl ?_;refine ak (gz .here) rfl ?_;refine ak kG rfl ?_;refine ak (fH cE ar) rfl ?_;refine ak j9 rfl ?_;refine ak (ag (.of rfl) (At.base U5 rfl)) rfl ?_;refine aT aZ rfl (fun w' au=>(iQ _ (Mem.keeps au))) ?_;refine dX (aA (.cons (.of rfl) (.cons (.of rfl) .nil)) rfl rfl rfl rfl) rfl rfl ?_)
  with_reducible refine df rfl fun bq mg=>?_
  (refine ai bI rfl (fun w' au=>(jS (Mem.dh au .here rfl rfl) (bP.cons (bP.cons bP.nil)))) ?_;refine Ja rfl<|Ji<|Jv rfl<|JD rfl<|Jn<|gm rfl (fun ar=>?_) fun ar=>?_;refine Jr<|Jv rfl<|Ja rfl<|Jn<|Ju<|Jm<|Jh<|Jh<|Jm<|Jh<|JT ?_;rotate_left;refine Jk<|Jg<|Jv rfl<|JB rfl (by omega)<|Ja rfl<|Jx<|Jj<|Jt<|Jg<|Jv rfl<|JB rfl (by omega)<|Ja rfl<|Jn ?_;rotate_right)
  ·rw [hq] at ar ⊢
   have hb:eV 8 [] Sr.nm (fun x=>ep r x.mx) r.sr=vX [] Sr.nm (fun x=>ep r x.mx) r.sr k:=by unfold eV;rw [if_neg (by omega)];exact eP hz aL ar
   rw [Vo (by rw [hb];exact ar),hb]
  have HZ:vX [] Sr.nm (fun x=>ep r x.mx) r.sr k=0:=by rw [← hq];exact Decidable.not_not.1 ar
  apply aK (k+1) ⟨(show k+1≤r.sr.length from aL),fun i hi=>by
   by_cases e:i=k
   ·rw [e];exact HZ
   ·exact hz i (by omega)⟩ (show r.sr.length-(k+1)<r.sr.length-k by omega)
  case hs1=>exact cd
  case ht=>(try simp only [Ze,Zf,Za]);exact .cons (.there .here) .nil
 obtain rfl:k=r.sr.length:=by omega
 have z1:eV 8 [] Sr.nm (fun x=>ep r x.mx) r.sr=0:=by unfold eV;rw [if_neg (by omega)];exact dN.2 hz
 clear hk aL hz
 (refine Jq<|Jr<|Jv rfl<|bF rfl rfl ae ?_;refine JL rfl .here rfl<|JI rfl<|JA rfl<|Jn<|Jc rfl fun ar=>Jp<|Jl<|Jo<|Jt<|Jq<|Jr<|bF rfl rfl ae ?_;refine JL rfl .here rfl<|JI rfl<|JE rfl<|Jn<|gm rfl (fun ar=>?_) fun ar=>?_;refine Jr<|Ja rfl<|Jn<|Ju<|JT ?_;rotate_left;refine Jk<|Jq<|Jr<|Ja rfl<|Jn<|J0 ?_;rotate_right)
 ·have e:eV 8 (cm r) De.nm (fun x=>ep r x.mx) r.de=5:=by unfold eV;rw [if_pos (show (8:Int)<(r.de.length:Int) by omega)]
  rw [Vn z1 (by rw [e];decide),e]
 refine aX (ι:=Nat) (fun x=>x≤r.de.length∧∀ i,i<x→vX (cm r) De.nm (fun x=>ep r x.mx) r.de i=0) (fun x=>[(6,.int .i64 (x:Nat)),(3,.int .i64 ((r.sr.length+x:Nat):Int)),(1,.pointer (some ⟨b1,0,none⟩))]) (fun x=>[JQ b1 r (.slice a1 r.sr.length dJ) (.slice a2 r.de.length cU) (.slice a3 r.ti.length dC) p]) (fun x=>r.de.length-x) ?_ ?_
 ·apply aJ (0:Nat) ⟨Zi _,fun i h=>absurd h (Nat.not_lt_zero _)⟩
  case hs1=>exact cd
  case ht=>(try simp only [Ze,Zf,Za]);exact .cons .here .nil
 rintro k ⟨hk,hz⟩
 by_cases aL:k<r.de.length
 ·have cE:=iW (gl aL)
  obtain ⟨ij,aC⟩:=jq k _ (eX aL)
  unfold De.cells at aC
  have YJ:=aC 0 _ rfl
  have U5:=aC 1 _ rfl
  have Qh:=Qg (r.sr.length+k) (by omega)
  have hq:=Si (r:=r) aL
  (refine Jq<|Jr<|Jv rfl<|bF rfl rfl ae ?_;refine JL rfl .here rfl<|JI rfl<|JA rfl<|Jn<|Jd rfl fun ar=>Jk<|Jq<|J0<|Jq<|Jq ?_)
  with_reducible refine cC 12 (by kernel_rfl) ?_
  (refine ak (cz .here) rfl ?_;refine ak kG rfl ?_;refine aT aZ rfl (fun w' au=>(Qh w' (Mem.keeps au))) ?_;refine ak (cz .here) rfl ?_;refine ak j9 rfl ?_;refine ak (gz .here) rfl ?_;refine ak kG rfl ?_;refine ak (fH cE ar) rfl ?_;refine ak j9 rfl ?_;refine ak (ag (.of rfl) (At.base U5 rfl)) rfl ?_;refine aT aZ rfl (fun w' au=>(iQ _ (Mem.keeps au))) ?_;refine dX (aA (.cons (.of rfl) (.cons (.of rfl) .nil)) rfl rfl rfl rfl) rfl rfl ?_)
  with_reducible refine df rfl fun bq mg=>?_
  (refine ai bI rfl (fun w' au=>(jS (Mem.dh au .here rfl rfl) (bP.cons (bP.cons bP.nil)))) ?_;refine Ja rfl<|Ji<|Jv rfl<|JD rfl<|Jn<|gm rfl (fun ar=>?_) fun ar=>?_;refine Jr<|Jv rfl<|Ja rfl<|Jn<|Ju<|Jm<|Jh<|Jh<|Jm<|Jh<|JT ?_;rotate_left;refine Jk<|Jg<|Jv rfl<|JB rfl (by omega)<|Ja rfl<|Jx<|Jj<|Jt<|Jg<|Jv rfl<|JB rfl (by omega)<|Ja rfl<|Jn ?_;rotate_right)
  ·rw [hq] at ar ⊢
   have hb:eV 8 (cm r) De.nm (fun x=>ep r x.mx) r.de=vX (cm r) De.nm (fun x=>ep r x.mx) r.de k:=by unfold eV;rw [if_neg (by omega)];exact eP hz aL ar
   rw [Vn z1 (by rw [hb];exact ar),hb]
  have HZ:vX (cm r) De.nm (fun x=>ep r x.mx) r.de k=0:=by rw [← hq];exact Decidable.not_not.1 ar
  apply aK (k+1) ⟨(show k+1≤r.de.length from aL),fun i hi=>by
   by_cases e:i=k
   ·rw [e];exact HZ
   ·exact hz i (by omega)⟩ (show r.de.length-(k+1)<r.de.length-k by omega)
  case hs1=>exact cd
  case ht=>(try simp only [Ze,Zf,Za]);exact .cons (.there .here) .nil
 obtain rfl:k=r.de.length:=by omega
 have z2:eV 8 (cm r) De.nm (fun x=>ep r x.mx) r.de=0:=by unfold eV;rw [if_neg (by omega)];exact dN.2 hz
 clear hk aL hz
 (refine Jq<|Jr<|Jv rfl<|bF rfl rfl ae ?_;refine JL rfl .here rfl<|JI rfl<|JA rfl<|Jn<|Jc rfl fun ar=>Jp<|Jl<|Jo<|Jt<|Jq<|Jr<|bF rfl rfl ae ?_;refine JL rfl .here rfl<|JI rfl<|JE rfl<|Jn<|gm rfl (fun ar=>?_) fun ar=>?_;refine Jr<|Ja rfl<|Jn<|Ju<|JT ?_;rotate_left;refine Jk<|Jq<|Jr<|Ja rfl<|Jn<|J0 ?_;rotate_right)
 ·have e:eV 6 (cm r++ct r) Ti.nm (nk r) r.ti=5:=by unfold eV;rw [if_pos (show (6:Int)<(r.ti.length:Int) by omega)]
  rw [CA z1 z2,e]
 refine aX (ι:=Nat) (fun x=>x≤r.ti.length∧∀ i,i<x→vX (cm r++ct r) Ti.nm (nk r) r.ti i=0) (fun x=>[(8,.int .i64 (x:Nat)),(3,.int .i64 (((r.sr.length+r.de.length)+x:Nat):Int)),(1,.pointer (some ⟨b1,0,none⟩))]) (fun x=>[JQ b1 r (.slice a1 r.sr.length dJ) (.slice a2 r.de.length cU) (.slice a3 r.ti.length dC) p]) (fun x=>r.ti.length-x) ?_ ?_
 ·apply aJ (0:Nat) ⟨Zi _,fun i h=>absurd h (Nat.not_lt_zero _)⟩
  case hs1=>exact cd
  case ht=>(try simp only [Ze,Zf,Za]);exact .cons .here .nil
 rintro k ⟨hk,hz⟩
 by_cases aL:k<r.ti.length
 ·have cE:=qY (eT aL)
  obtain ⟨ij,aC⟩:=oe k _ (dQ aL)
  unfold Ti.cells at aC
  have YJ:=aC 0 _ rfl
  have U5:=aC 1 _ rfl
  have Qh:=Qg ((r.sr.length+r.de.length)+k) (by omega)
  have hq:=Sg (r:=r) aL
  (refine Jq<|Jr<|Jv rfl<|bF rfl rfl ae ?_;refine JL rfl .here rfl<|JI rfl<|JA rfl<|Jn<|Jd rfl fun ar=>Jk<|Jq<|J0<|Jr<|bF rfl rfl ae ?_;refine JL rfl .here rfl<|Jv rfl<|ab (fH cE ar) rfl ?_;refine ab (iv (eF.base aC rfl)) rfl ?_;refine Jz rfl rfl fun _ _=>aq (.of rfl) (.of rfl) .here rfl rfl (fh rfl rfl rfl) (bC rfl) an ?_;refine Jn<|Jq<|Jq ?_)
  with_reducible refine cC 18 (by kernel_rfl) ?_
  (refine ak (cz (.there .here)) rfl ?_;refine ak kG rfl ?_;refine aT aZ rfl (fun w' au=>(Qh w' (Mem.keeps au))) ?_;refine ak (cz (.there .here)) rfl ?_;refine ak j9 rfl ?_;refine ak (gz .here) rfl ?_;refine aT aZ rfl (fun w' au=>(iQ _ (Mem.keeps au))) ?_;refine ak (cz (.there .here)) rfl ?_;refine ak j9 rfl ?_;refine ak (gz .here) rfl ?_;refine aT aZ rfl (fun w' au=>(iQ _ (Mem.keeps au))) ?_;refine ak j9 rfl ?_;refine ak (gz .here) rfl ?_;refine ak j9 rfl ?_;refine ak (gz .here) rfl ?_;refine ak (kN (.of rfl) (.of rfl)) rfl ?_;refine aT aZ rfl (fun w' au=>(kH _ 24 w')) ?_;refine dX (aA (.cons (.of rfl) (.cons (.of rfl) (.cons (.of rfl) (.cons (.of rfl) .nil)))) rfl rfl rfl rfl) rfl rfl ?_)
  with_reducible refine df rfl fun bq mg=>?_
  (refine ai bI rfl (fun w' au=>(jS (Mem.dh au .here rfl rfl) (bP.cons (bP.cons (bP.cons (bP.cons bP.nil)))))) ?_;refine Ja rfl<|Ji<|Jv rfl<|JD rfl<|Jn<|gm rfl (fun ar=>?_) fun ar=>?_;refine Jr<|Jv rfl<|Ja rfl<|Jn<|Ju<|Jm<|Jh<|Jh<|Jm<|Jh<|JT ?_;rotate_left;refine Jk<|Jg<|Jv rfl<|JB rfl (by omega)<|Ja rfl<|Jx<|Jj<|Jt<|Jg<|Jv rfl<|JB rfl (by omega)<|Ja rfl<|Jn ?_;rotate_right)
  ·rw [hq] at ar ⊢
   have hb:eV 6 (cm r++ct r) Ti.nm (nk r) r.ti=vX (cm r++ct r) Ti.nm (nk r) r.ti k:=by unfold eV;rw [if_neg (by omega)];exact eP hz aL ar
   rw [CA z1 z2,hb]
  have HZ:vX (cm r++ct r) Ti.nm (nk r) r.ti k=0:=by rw [← hq];exact Decidable.not_not.1 ar
  apply aK (k+1) ⟨(show k+1≤r.ti.length from aL),fun i hi=>by
   by_cases e:i=k
   ·rw [e];exact HZ
   ·exact hz i (by omega)⟩ (show r.ti.length-(k+1)<r.ti.length-k by omega)
  case hs1=>exact cd
  case ht=>(try simp only [Ze,Zf,Za]);exact .cons bN .nil
 obtain rfl:k=r.ti.length:=by omega
 have z3:eV 6 (cm r++ct r) Ti.nm (nk r) r.ti=0:=by unfold eV;rw [if_neg (by omega)];exact dN.2 hz
 clear hk aL hz
 (refine Jq<|Jr<|Jv rfl<|bF rfl rfl ae ?_;refine JL rfl .here rfl<|JI rfl<|JA rfl<|Jn<|Jc rfl fun ar=>Jp<|Jl<|Jo<|Jt<|Jr<|Ja rfl<|Jn<|Je<|JT ?_)
 rw [CA z1 z2,z3]
theorem Pm {r:Ro} {k:Nat} (h:k<r.po.length):Fb r k=if Kv r r.po[k]≠0 then Kv r r.po[k] else if 0<k∧(r.po[k].lv<((r.po[k-1]?).getD r.po[k]).lv∨r.po[k].lv=((r.po[k-1]?).getD r.po[k]).lv∧dS r r.po[k].ou≤dS r ((r.po[k-1]?).getD r.po[k]).ou) then 11 else 0:=by
 unfold Fb;rw [Zc h];rfl
def FN (r:Ro) (v:Int) (x:Ti):Bool:=decide ((oA r.po v 8 x.nm).length=8)
def DY (r:Ro) (v:Int) (x:Ti):Bool:=nj r.po v x.nm != !decide ((ee r.po v x.nm).getD ⟨#[]⟩=⟨#[]⟩)
theorem LA (r:Ro):Sj r=if jC r (fun v=>r.ti.any (FN r v)) then 33 else if jC r (fun v=>r.ti.any (DY r v)) then 32 else 0:=rfl
theorem BL {r:Ro} {q:Int→Ti→Bool} {v i:Nat} (hv:(v:Int)<r.lv) (hi:i<r.ti.length) (h:q v r.ti[i]=true):jC r (fun v=>r.ti.any (q v))=true:=by
 unfold jC
 exact List.any_eq_true.2 ⟨v,List.mem_range.2 (by omega),List.any_eq_true.2 ⟨_,Zj hi,h⟩⟩
theorem xU {r:Ro} {q:Int→Ti→Bool} (h:∀ v:Nat,v<r.lv.toNat→∀ (i:Nat) (hi:i<r.ti.length),q v r.ti[i]=false):jC r (fun v=>r.ti.any (q v))=false:=by
 refine k6.2 fun v h0 h1=>List.any_eq_false.2 fun x hx=>?_
 obtain ⟨i,hi,rfl⟩:=List.getElem_of_mem hx
 have:=h v.toNat (by omega) i hi
 rw [show ((v.toNat:Nat):Int)=v by omega] at this
 rw [this];decide
set_option maxHeartbeats 2000000 in
theorem wm {r:Ro} {s d t p:Value} {w:World} (h:RR w r s d t p) (hf:mX r) (acg:1≤r.lv∧r.lv≤3):aj Tryz.prog 128 [RA r s d t p] w (.int .i64 (yG r)):=by
 have h1:=Rd.one h.sr
 have h2:=Rd.one h.de
 have h3:=Rd.one h.ti
 have h4:=Rd.one h.po
 have Qk:∀ (o:ByteArray) {w'},aG [] w w'→aj Tryz.prog 230 [.agg #[.int .i64 r.lv,.int .i64 r.ma,s,d,t,p],.string o] w' (.int .i64 (dS r o)):=fun o _ hk=>LL o (h.keeps hk) hf
 have To:∀ (o:ByteArray) {w'},aG [] w w'→aj Tryz.prog 231 [.agg #[.int .i64 r.lv,.int .i64 r.ma,s,d,t,p],.string o] w' (.int .i64 (jz r o)):=fun o _ hk=>Mg o (h.keeps hk)
 have Wb:∀ (o:ByteArray) {w'},aG [] w w'→aj Tryz.prog 232 [.agg #[.int .i64 r.lv,.int .i64 r.ma,s,d,t,p],.string o] w' (.int .i64 (ka r o)):=fun o _ hk=>Hp o (h.keeps hk)
 have VJ:∀ (v:Int) (o:ByteArray) {w'},aG [] w w'→aj Tryz.prog 233 [.agg #[.int .i64 r.lv,.int .i64 r.ma,s,d,t,p],.int .i64 v,.string o] w' (.bool (nj r.po v o)):=fun v o _ hk=>OX v o (h.keeps hk)
 have Be:∀ (v:Int) (o:ByteArray) {w'},aG [] w w'→aj Tryz.prog 133 [.agg #[.int .i64 r.lv,.int .i64 r.ma,s,d,t,p],.int .i64 v,.string o] w' (.string ((ee r.po v o).getD ⟨#[]⟩)):=fun v o _ hk=>tK v o (h.keeps hk)
 have Qx:∀ (v:Int) (o:ByteArray) w',aG [] w w'→bd Tryz.prog 132 [.agg #[.int .i64 r.lv,.int .i64 r.ma,s,d,t,p],.int .i64 v,.string o,.int .i64 8] w' [] (fun _:Option Addr×Nat=>True) (fun z=>.slice z.1 (oA r.po v 8 o).length z.2) (fun z=>[row 9 1 (.slice z.1 (oA r.po v 8 o).length z.2) (oA r.po v 8 o).length (aO (oA r.po v 8 o))]):=fun v o w' hk=>bd.GS (val:=id) (EC v o 8 (by decide) (h.keeps hk))
 have Ib:=h.po
 have wa:=h.ti
 obtain ⟨a4,fS,Uf,Pw,rfl,xF,mc,Gb,zg⟩:=Ib
 obtain ⟨a3,dC,FY,Fg,rfl,lC,fD,qY,oe⟩:=wa
 rw [cN] at *
 rw [bJ] at *
 unfold maxLen at fD mc
 obtain ⟨f1,f2,f3,f4⟩:=hf
 unfold RA
 refine ah Tryz.func128 rfl rfl ?_
 refine Jr<|Jy rfl rfl fun _ _=>Ja rfl<|Jn<|Jq<|Jr<|Ja rfl<|Jn<|J0 ?_
 rename_i b1 sH
 refine aX (ι:=Nat) (fun x=>x≤r.po.length∧∀ i,i<x→Fb r i=0) (fun x=>[(3,.int .i64 (x:Nat)),(1,.pointer (some ⟨b1,0,none⟩))]) (fun x=>[JQ b1 r s d (.slice a3 r.ti.length dC) (.slice a4 r.po.length fS)]) (fun x=>r.po.length-x) ?_ ?_
 ·apply aJ (0:Nat) ⟨Zi _,fun i h=>absurd h (Nat.not_lt_zero _)⟩
  case hs1=>exact cd
  case ht=>(try simp only [Ze,Zf,Za]);exact .cons .here .nil
 rintro k ⟨hk,hz⟩
 by_cases aL:k<r.po.length
 ·have cE:=Gb (jZ aL)
  obtain ⟨ij,aC⟩:=zg k _ (ib aL)
  unfold Po.cells at aC
  have jb:=Pm (r:=r) aL
  have MB:∀ e:Int,Fb r k=e→e≠0→yG r=e:=fun e he hne=>by
   have hb:iL (Fb r) r.po.length=e:=by rw [← he];exact eP hz aL (by rw [he];exact hne)
   unfold yG
   rw [hb,if_pos hne]
  have ko:Fb r k=0→∀ i,i<k+1→Fb r i=0:=fun e i hi=>by
   by_cases e2:i=k
   ·rw [e2];exact e
   ·exact hz i (by omega)
  generalize hx:r.po[k]=x at aC jb
  (refine Jq<|Jr<|Jv rfl<|bF rfl rfl ae ?_;refine JL rfl .here rfl<|JI rfl<|JA rfl<|Jn<|Jd rfl fun ar=>Jk<|Jq<|J0<|Jr<|bF rfl rfl ae ?_;refine JL rfl .here rfl<|Jv rfl<|ab (fH cE ar) rfl ?_;refine ab (iv (eF.base aC rfl)) rfl ?_;refine Jz rfl rfl fun _ _=>aq (.of rfl) (.of rfl) .here rfl rfl (fh rfl rfl rfl) (bC rfl) an ?_;refine Jn<|Jq<|Jq ?_)
  with_reducible refine cC 29 (by kernel_rfl) ?_
  (refine ak j9 rfl ?_;refine ak (gz .here) rfl ?_;refine ak j9 rfl ?_;refine ak (gz (.there .here)) rfl ?_;refine ak (rD (.of rfl) (.of rfl) (PS (by omega))) rfl ?_;refine aT eh rfl (fun w' au=>(tC _ 0 _ w')) ?_;refine ak (cz (.there .here)) rfl ?_;refine ak j9 rfl ?_;refine ak (gz .here) rfl ?_;refine aT aZ rfl (fun w' au=>(Qk _ (Mem.keeps au))) ?_;refine ak (nL (.of rfl) (.of rfl)) rfl ?_;refine aT aZ rfl (fun w' au=>(kH _ 10 w')) ?_;refine ak (cz (.there .here)) rfl ?_;refine ak j9 rfl ?_;refine ak (gz .here) rfl ?_;refine aT aZ rfl (fun w' au=>(To _ (Mem.keeps au))) ?_;refine ak (nL (.of rfl) (.of rfl)) rfl ?_;refine aT aZ rfl (fun w' au=>(kH _ 10 w')) ?_;refine ak (cz (.there .here)) rfl ?_;refine ak j9 rfl ?_;refine ak (gz .here) rfl ?_;refine aT aZ rfl (fun w' au=>(Wb _ (Mem.keeps au))) ?_;refine ak (cz (.there .here)) rfl ?_;refine ak j9 rfl ?_;refine ak (gz .here) rfl ?_;refine aT aZ rfl (fun w' au=>(To _ (Mem.keeps au))) ?_;refine ak (jw (.of rfl) (.of rfl)) rfl ?_;refine aT aZ rfl (fun w' au=>(kH _ 24 w')) ?_;refine dX (aA (.cons (.of rfl) (.cons (.of rfl) (.cons (.of rfl) (.cons (.of rfl) .nil)))) rfl rfl rfl rfl) rfl rfl ?_)
  with_reducible refine df rfl fun bq mg=>?_
  (refine ai bI rfl (fun w' au=>(jS (Mem.dh au .here rfl rfl) (bP.cons (bP.cons (bP.cons (bP.cons bP.nil)))))) ?_;refine Ja rfl<|Ji<|Jv rfl<|JD rfl<|Jn<|gm rfl (fun ar=>?_) fun ar=>?_;refine Jr<|Jv rfl<|Ja rfl<|Jn<|Ju<|Jm<|Jh<|Jh<|Jm<|Jh<|JT ?_;rotate_left;refine Jk<|Jr<|Jv rfl<|JE rfl<|Jn<|gm rfl (fun ar=>?_) fun ar=>?_;refine Jr<|bF rfl rfl ae ?_;refine JL rfl bN rfl<|Jv rfl<|JS rfl (by omega)<|ab (az (.of rfl) (.of rfl) cE (by omega) (by omega) ba) rfl ?_;rotate_left;refine Jw<|Jj<|Jt<|Jg<|Jv rfl<|JB rfl (by omega)<|Ja rfl<|Jn ?_;rotate_right;rotate_right)
  ·have e:=MB (Kv r x) (by rw [jb,if_pos (show Kv r x≠0 from ar)]) ar
   rw [e];rfl
  ·rename_i b4 u9 hE
   have hE:Kv r x=0:=Decidable.not_not.1 hE
   have KE:0<k:=by omega
   have Mw:k-1<r.po.length:=by omega
   obtain ⟨X1,eM⟩:=zg (k-1) _ (ib Mw)
   unfold Po.cells at eM
   rw [show Pw+(k-1)*3=Pw+((k:Int)-1).toNat*3 by rw [show ((k:Int)-1).toNat=k-1 by omega]] at eM
   rw [if_neg (not_not_intro hE),Zc Mw,Option.getD_some] at jb
   generalize r.po[k-1]=y at eM jb
   (refine ab (iv (eF.base eM rfl)) rfl ?_;refine Jz rfl rfl fun _ _=>aq (.of rfl) (.of rfl) .here rfl rfl (fh rfl rfl rfl) (bC rfl) an ?_;refine Jn<|Jq ?_)
   with_reducible refine dP 23 (by kernel_rfl) ?_
   (refine nC rfl rfl ae ?_;refine aH (gz bN) rfl ?_;refine nC rfl rfl ae ?_;refine aH (gz .here) rfl ?_;refine aH (nL (.of rfl) (.of rfl)) rfl ?_;refine k7 rfl rfl ?_;refine cJ rfl rfl inferInstance (fun hg bj=>(ao (.of rfl) ae)) rfl ?_;refine cJ rfl rfl inferInstance (fun hg bj=>(ag (.bE hg rfl) (At.lit bN rfl))) rfl ?_;refine cJ rfl rfl inferInstance (fun hg bj=>(ao (.of rfl) ae)) rfl ?_;refine cJ rfl rfl inferInstance (fun hg bj=>(ag (.bE hg rfl) (At.lit .here rfl))) rfl ?_;refine cJ rfl rfl inferInstance (fun hg bj=>(kN (.bE hg rfl) (.bE hg rfl))) rfl ?_;refine cJ rfl rfl inferInstance (fun hg bj=>(aR (.bE hg rfl))) rfl ?_;refine qd rfl rfl inferInstance (fun hg bj=>(cA (.of rfl) cX an (by rfl))) rfl ?_;refine qd rfl rfl inferInstance (fun hg bj=>(ao (.of rfl) ae)) rfl ?_;refine qd rfl rfl inferInstance (fun hg bj=>(ag (.bE hg rfl) (At.lit bN rfl))) rfl ?_;refine r7 rfl rfl (fun hg=>(bh (.of rfl) (.cons (.bE hg rfl) (.cons (.bE hg rfl) .nil)) inferInstance e9)) rfl (fun hg w' au=>(Qk _ (Mem.keeps au))) ?_;refine qd rfl rfl inferInstance (fun hg bj=>(cA (.of rfl) cX an (by rfl))) rfl ?_;refine qd rfl rfl inferInstance (fun hg bj=>(ao (.of rfl) ae)) rfl ?_;refine qd rfl rfl inferInstance (fun hg bj=>(ag (.bE hg rfl) (At.lit .here rfl))) rfl ?_;refine r7 rfl rfl (fun hg=>(bh (.of rfl) (.cons (.bE hg rfl) (.cons (.bE hg rfl) .nil)) inferInstance e9)) rfl (fun hg w' au=>(Qk _ (Mem.keeps au))) ?_;refine qd rfl rfl inferInstance (fun hg bj=>(jY (.bE hg rfl) (.bE hg rfl))) rfl ?_;refine cJ rfl rfl inferInstance (fun hg bj=>(eo hg (.bE hg rfl) rfl)) rfl ?_;refine aH (bR (.of rfl) rfl) rfl ?_)
   with_reducible refine dY ?_
   (refine Jn<|nB rfl (fun ar=>?_) fun ar=>?_;refine Jr<|Ja rfl<|Jn<|Je<|Jm<|Jh<|Jh<|Jm<|Jh<|JT ?_;rotate_left;refine Jw<|Jj<|Jt<|Jg<|Jv rfl<|JB rfl (by omega)<|Ja rfl<|Jn ?_;rotate_right)
   ·have hE2:0<k∧(x.lv<y.lv∨x.lv=y.lv∧dS r x.ou≤dS r y.ou):=⟨KE,ar⟩
    have e:=MB 11 (by rw [jb,if_pos hE2]) (by decide)
    rw [e]
   ·apply aK (k+1) ⟨(show k+1≤r.po.length from aL),ko (by rw [jb,if_neg (fun q=>q.2.elim ar.1 fun z=>ar.2.elim (fun z2=>z2 z.1) fun z2=>z2 z.2)])⟩ (show r.po.length-(k+1)<r.po.length-k by omega)
    case hs1=>exact cd
    case ht=>(try simp only [Ze,Zf,Za]);exact .cons cX .nil
  ·rename_i b4 u9 hE
   have hE:Kv r x=0:=Decidable.not_not.1 hE
   apply aK (k+1) ⟨(show k+1≤r.po.length from aL),ko (by rw [jb,if_neg (not_not_intro hE),if_neg (fun q=>ar (by omega))])⟩ (show r.po.length-(k+1)<r.po.length-k by omega)
   case hs1=>exact cd
   case ht=>(try simp only [Ze,Zf,Za]);exact .cons bN .nil
 obtain rfl:k=r.po.length:=by omega
 have UD:iL (Fb r) r.po.length=0:=dN.2 hz
 have hqs:yG r=Sj r:=by unfold yG;rw [UD];rfl
 rw [hqs,LA]
 clear hk aL hz
 (refine Jq<|Jr<|Jv rfl<|bF rfl rfl ae ?_;refine JL rfl .here rfl<|JI rfl<|JA rfl<|Jn<|Jc rfl fun ar=>Jp<|Jl<|Jo<|Jt<|Jq<|Jr<|Ja rfl<|Jn<|J0 ?_)
 refine aX (ι:=Nat) (fun v=>v≤r.lv.toNat∧∀ u,u<v→∀ (i:Nat) (hi:i<r.ti.length),FN r (u:Nat) r.ti[i]=false) (fun v=>[(7,.int .i64 (v:Nat)),(1,.pointer (some ⟨b1,0,none⟩))]) (fun _=>[JQ b1 r s d (.slice a3 r.ti.length dC) (.slice a4 r.po.length fS)]) (fun v=>r.lv.toNat-v) ?_ ?_
 ·apply aJ (0:Nat) ⟨Zi _,fun i h=>absurd h (Nat.not_lt_zero _)⟩
  case hs1=>exact cd
  case ht=>(try simp only [Ze,Zf,Za]);exact .cons .here .nil
 rintro v ⟨hv,hz⟩
 by_cases P0:v<r.lv.toNat
 ·have P1:((v:Nat):Int)<r.lv:=by omega
  (refine Jq<|Jr<|Jv rfl<|bF rfl rfl ae ?_;refine JL rfl .here rfl<|JA rfl<|Jn<|Jd rfl fun ar=>Jk<|Jq<|J0<|Jr<|Ja rfl<|Jn<|J0 ?_)
  refine aX (ι:=Nat) (fun i=>i≤r.ti.length∧∀ (j:Nat) (hj:j<r.ti.length),j<i→FN r (v:Nat) r.ti[j]=false) (fun i=>[(8,.int .i64 (i:Nat)),(7,.int .i64 (v:Nat)),(1,.pointer (some ⟨b1,0,none⟩))]) (fun _=>[JQ b1 r s d (.slice a3 r.ti.length dC) (.slice a4 r.po.length fS)]) (fun i=>r.ti.length-i) ?_ ?_
  ·apply aJ (0:Nat) ⟨Zi _,fun j _ h=>absurd h (Nat.not_lt_zero _)⟩
   case hs1=>exact cd
   case ht=>(try simp only [Ze,Zf,Za]);exact .cons .here .nil
  rintro i ⟨hi,hy⟩
  by_cases iP:i<r.ti.length
  ·have cE:=qY (eT iP)
   have c0:w.cell? ⟨FY,Fg+i*3,none⟩=some (.string r.ti[i].nm):=(oe i _ (dQ iP)).2 0 _ rfl
   have V1:∀ b,FN r (v:Nat) r.ti[i]=b→FN r (v:Nat) r.ti[i]=b:=fun _ h=>h
   unfold FN at V1
   have ko:FN r (v:Nat) r.ti[i]=false→∀ (j:Nat) (hj:j<r.ti.length),j<i+1→FN r (v:Nat) r.ti[j]=false:=fun e j hj nf=>by
    by_cases e2:j=i
    ·subst e2;exact e
    ·exact hy j hj (by omega)
   have Qs:FN r (v:Nat) r.ti[i]=true→jC r (fun v=>r.ti.any (FN r v))=true:=BL P1 iP
   generalize VI:r.ti[i].nm=x at c0
   (refine Jq<|Jr<|Jv rfl<|bF rfl rfl ae ?_;refine JL rfl .here rfl<|JI rfl<|JA rfl<|Jn<|Jd rfl fun ar=>Jk<|Jq<|J0<|Jq ?_)
   have TA:=Qx (v:Nat) x
   have Rw:=zv r.po (v:Nat) 8 x
   have Tz:FN r (v:Nat) r.ti[i]=decide ((oA r.po (v:Nat) 8 x).length=8):=by unfold FN;rw [VI]
   generalize oA r.po (v:Nat) 8 x=C at TA Rw Tz
   with_reducible refine eN 9 (by kernel_rfl) ?_
   (refine aD (fun β=>(cA (.of rfl) .here an (by rfl))) bG rfl ?_;refine aD (fun β=>(aR (.of rfl))) bG rfl ?_;refine aD (fun β=>(ao (.of rfl) ae)) bG rfl ?_;refine aD (fun β=>(ag (.of rfl) (At.lit .here rfl))) bG rfl ?_;refine aD (fun β=>(aR (.of rfl))) bG rfl ?_;refine aD (fun β=>(az (.of rfl) (.of rfl) cE (by omega) ar ba)) bG rfl ?_;refine aD (fun β=>(ao (.of rfl) ae)) bG rfl ?_;refine aD (fun β=>(ag (.of rfl) (At.base c0 rfl))) bG rfl ?_)
   dsimp only [Nat.zero_add,Nat.reduceAdd]
   with_reducible apply gI (ι:=Option Addr×Nat) (Φ:=fun _=>True) (val:=fun z=>.slice z.1 C.length z.2) (own:=fun z=>[row 9 1 (.slice z.1 C.length z.2) C.length (aO C)]) (g:=TO) (B:=[]) (args:=fun _=>[.agg #[.int .i64 r.lv,.int .i64 r.ma,s,d,.slice a3 r.ti.length dC,.slice a4 r.po.length fS],.int .i64 (v:Nat),.string x,.int .i64 8])
   case hg=>exact IB
   case hB=>rfl
   case hr=>exact fun β=>bh (.of rfl) (.cons (.of rfl) (.cons (.of rfl) (.cons (.of rfl) (.cons (.of rfl) .nil)))) inferInstance rfl
   case hd=>rfl
   case hc=>exact fun β w' hb=>TA w' hb.mem.keeps
   dsimp only [Nat.reduceAdd]
   refine gE fun β=>?_
   dsimp only [fq,Za,Zb,List.append_eq,Nat.reduceAdd]
   generalize TO (β 8)=y
   obtain ⟨ya,yc⟩:=y
   clear β
   dsimp only
   refine cO (rs:=[9]) (by kernel_rfl) (by simp) (List.forall_mem_cons.2 ⟨?_,fun _ h=>absurd h List.not_mem_nil⟩)
   refine cW rfl ?_
   refine JI rfl<|Jn ?_
   refine cO (rs:=[10]) (by kernel_rfl) (by simp) (List.forall_mem_cons.2 ⟨?_,fun _ h=>absurd h List.not_mem_nil⟩)
   refine cW rfl ?_
   refine JC rfl<|Jn ?_
   with_reducible refine dj (by kernel_rfl) ?_
   (refine Jt<|gm rfl (fun ar=>?_) fun ar=>?_;refine Jr<|Ja rfl<|Jn<|Je<|Jm<|Jh<|Jh<|Jm<|Jm<|Jh<|Jh<|Jm<|Jh<|JT ?_;rotate_left;refine Jw<|Jj<|Jt<|Jg<|Jv rfl<|JB rfl (by omega)<|Ja rfl<|Jn ?_;rotate_right)
   ·rw [if_pos (Qs (by rw [Tz];exact decide_eq_true (by omega)))]
   apply aK (i+1) ⟨(show i+1≤r.ti.length from iP),ko (by rw [Tz];exact decide_eq_false (by omega))⟩ (show r.ti.length-(i+1)<r.ti.length-i by omega)
   case hs1=>exact cd
   case ht=>(try simp only [Ze,Zf,Za]);exact .cons (.there .here) .nil
  obtain rfl:i=r.ti.length:=by omega
  clear hi iP
  (refine Jq<|Jr<|Jv rfl<|bF rfl rfl ae ?_;refine JL rfl .here rfl<|JI rfl<|JA rfl<|Jn<|Jc rfl fun ar=>Jp<|Jl<|Jo<|Jj<|Jt<|Jg<|Jv rfl<|JB rfl (by omega)<|Ja rfl<|Jn ?_)
  apply aK (v+1) ⟨(show v+1≤r.lv.toNat from P0),fun u hu j hj=>by
   by_cases e2:u=v
   ·subst e2;exact hy j hj hj
   ·exact hz u (by omega) j hj⟩ (show r.lv.toNat-(v+1)<r.lv.toNat-v by omega)
  case hs1=>exact cd
  case ht=>(try simp only [Ze,Zf,Za]);exact .cons .here .nil
 obtain rfl:v=r.lv.toNat:=by omega
 have aS:jC r (fun v=>r.ti.any (FN r v))=false:=xU hz
 clear hv P0 hz
 (refine Jq<|Jr<|Jv rfl<|bF rfl rfl ae ?_;refine JL rfl .here rfl<|JA rfl<|Jn<|Jc rfl fun ar=>Jp<|Jl<|Jo<|Jt<|Jq<|Jr<|Ja rfl<|Jn<|J0 ?_)
 rw [if_neg (by rw [aS];decide)]
 refine aX (ι:=Nat) (fun v=>v≤r.lv.toNat∧∀ u,u<v→∀ (i:Nat) (hi:i<r.ti.length),DY r (u:Nat) r.ti[i]=false) (fun v=>[(9,.int .i64 (v:Nat)),(1,.pointer (some ⟨b1,0,none⟩))]) (fun _=>[JQ b1 r s d (.slice a3 r.ti.length dC) (.slice a4 r.po.length fS)]) (fun v=>r.lv.toNat-v) ?_ ?_
 ·apply aJ (0:Nat) ⟨Zi _,fun i h=>absurd h (Nat.not_lt_zero _)⟩
  case hs1=>exact cd
  case ht=>(try simp only [Ze,Zf,Za]);exact .cons .here .nil
 rintro v ⟨hv,hz⟩
 by_cases P0:v<r.lv.toNat
 ·have P1:((v:Nat):Int)<r.lv:=by omega
  (refine Jq<|Jr<|Jv rfl<|bF rfl rfl ae ?_;refine JL rfl .here rfl<|JA rfl<|Jn<|Jd rfl fun ar=>Jk<|Jq<|J0<|Jr<|Ja rfl<|Jn<|J0 ?_)
  refine aX (ι:=Nat) (fun i=>i≤r.ti.length∧∀ (j:Nat) (hj:j<r.ti.length),j<i→DY r (v:Nat) r.ti[j]=false) (fun i=>[(10,.int .i64 (i:Nat)),(9,.int .i64 (v:Nat)),(1,.pointer (some ⟨b1,0,none⟩))]) (fun _=>[JQ b1 r s d (.slice a3 r.ti.length dC) (.slice a4 r.po.length fS)]) (fun i=>r.ti.length-i) ?_ ?_
  ·apply aJ (0:Nat) ⟨Zi _,fun j _ h=>absurd h (Nat.not_lt_zero _)⟩
   case hs1=>exact cd
   case ht=>(try simp only [Ze,Zf,Za]);exact .cons .here .nil
  rintro i ⟨hi,hy⟩
  by_cases iP:i<r.ti.length
  ·have cE:=qY (eT iP)
   have c0:w.cell? ⟨FY,Fg+i*3,none⟩=some (.string r.ti[i].nm):=(oe i _ (dQ iP)).2 0 _ rfl
   have V1:∀ b,DY r (v:Nat) r.ti[i]=b→DY r (v:Nat) r.ti[i]=b:=fun _ h=>h
   unfold DY at V1
   have ko:DY r (v:Nat) r.ti[i]=false→∀ (j:Nat) (hj:j<r.ti.length),j<i+1→DY r (v:Nat) r.ti[j]=false:=fun e j hj nf=>by
    by_cases e2:j=i
    ·subst e2;exact e
    ·exact hy j hj (by omega)
   have Qs:DY r (v:Nat) r.ti[i]=true→jC r (fun v=>r.ti.any (DY r v))=true:=BL P1 iP
   generalize VI:r.ti[i].nm=x at c0
   (refine Jq<|Jr<|Jv rfl<|bF rfl rfl ae ?_;refine JL rfl .here rfl<|JI rfl<|JA rfl<|Jn<|Jd rfl fun ar=>Jk<|Jq<|J0<|Jr<|bF rfl rfl ae ?_;refine JL rfl .here rfl<|Jv rfl<|ab (fH cE ar) rfl ?_;refine bF rfl rfl ae ?_;refine ab (ag (.of rfl) (At.base c0 rfl)) rfl ?_;refine Ja rfl<|Jn<|Jq ?_)
   have Wc:DY r (v:Nat) r.ti[i]=(nj r.po (v:Nat) x != !decide ((ee r.po (v:Nat) x).getD ⟨#[]⟩=⟨#[]⟩)):=by unfold DY;rw [VI]
   have S9:DY r (v:Nat) r.ti[i]=(nj r.po (v:Nat) x != decide ((ee r.po (v:Nat) x).getD ⟨#[]⟩≠⟨#[]⟩)):=by rw [Wc,decide_not]
   with_reducible refine dP 9 (by kernel_rfl) ?_
   (refine aH (cz .here) rfl ?_;refine k7 rfl rfl ?_;refine k7 rfl rfl ?_;refine fc eh rfl (fun w' au=>(VJ _ x (Mem.keeps au))) ?_;refine aH (cz .here) rfl ?_;refine k7 rfl rfl ?_;refine k7 rfl rfl ?_;refine fc eh rfl (fun w' au=>(Be _ x (Mem.keeps au))) ?_;refine aH (hY (.of rfl) (.of rfl)) rfl ?_)
   with_reducible refine dY ?_
   skip
   refine ab (AD (.of rfl) (.of rfl)) rfl ?_
   (refine Jn<|nB rfl (fun ar=>?_) fun ar=>?_;refine Jr<|Ja rfl<|Jn<|Je<|Jm<|Jh<|Jh<|Jm<|Jm<|Jh<|Jh<|Jm<|Jh<|JT ?_;rotate_left;refine Jw<|Jj<|Jt<|Jg<|Jv rfl<|JB rfl (by omega)<|Ja rfl<|Jn ?_;rotate_right)
   ·rw [if_pos (Qs (by rw [S9];exact ar))]
   apply aK (i+1) ⟨(show i+1≤r.ti.length from iP),ko (by rw [S9];exact ar)⟩ (show r.ti.length-(i+1)<r.ti.length-i by omega)
   case hs1=>exact cd
   case ht=>(try simp only [Ze,Zf,Za]);exact .cons .here .nil
  obtain rfl:i=r.ti.length:=by omega
  clear hi iP
  (refine Jq<|Jr<|Jv rfl<|bF rfl rfl ae ?_;refine JL rfl .here rfl<|JI rfl<|JA rfl<|Jn<|Jc rfl fun ar=>Jp<|Jl<|Jo<|Jj<|Jt<|Jg<|Jv rfl<|JB rfl (by omega)<|Ja rfl<|Jn ?_)
  apply aK (v+1) ⟨(show v+1≤r.lv.toNat from P0),fun u hu j hj=>by
   by_cases e2:u=v
   ·subst e2;exact hy j hj hj
   ·exact hz u (by omega) j hj⟩ (show r.lv.toNat-(v+1)<r.lv.toNat-v by omega)
  case hs1=>exact cd
  case ht=>(try simp only [Ze,Zf,Za]);exact .cons .here .nil
 obtain rfl:v=r.lv.toNat:=by omega
 have lP:jC r (fun v=>r.ti.any (DY r v))=false:=xU hz
 clear hv P0 hz
 (refine Jq<|Jr<|Jv rfl<|bF rfl rfl ae ?_;refine JL rfl .here rfl<|JA rfl<|Jn<|Jc rfl fun ar=>Jp<|Jl<|Jo<|Jt<|Jr<|Ja rfl<|Jn<|Je<|JT ?_)
 rw [if_neg (by rw [lP];decide)]
theorem wj {r:Ro} {s d t p:Value} {w:World} (h:RR w r s d t p) (hf:mX r):aj Tryz.prog 25 [RA r s d t p] w (.int .i64 (fU r)):=by
 have h1:=Rd.one h.sr
 have h2:=Rd.one h.de
 have h3:=Rd.one h.ti
 have h4:=Rd.one h.po
 have W1:∀ {w'},aG [] w w'→aj Tryz.prog 127 [.agg #[.int .i64 r.lv,.int .i64 r.ma,s,d,t,p]] w' (.int .i64 (jy r)):=fun hk=>zt (h.keeps hk) hf
 have W0:mM r=0→∀ {w'},aG [] w w'→aj Tryz.prog 128 [.agg #[.int .i64 r.lv,.int .i64 r.ma,s,d,t,p]] w' (.int .i64 (yG r)):=fun e _ hk=>wm (h.keeps hk) hf ⟨(uN e).1,(uN e).2.1⟩
 rw [← Q1]
 unfold RA XB
 refine ah Tryz.func25 rfl rfl ?_
 refine Jr<|Jy rfl rfl fun _ _=>Ja rfl<|Jn<|Jq<|Jq ?_
 with_reducible refine cC 7 (by kernel_rfl) ?_
 (refine ak j9 rfl ?_;refine ak (gz .here) rfl ?_;refine aT eh rfl (fun w' au=>(tC _ 1 3 w')) ?_;refine ak j9 rfl ?_;refine ak (gz .here) rfl ?_;refine aT eh rfl (fun w' au=>(tC _ 1 4 w')) ?_;refine dX (aA (.cons (.of rfl) (.cons (.of rfl) .nil)) rfl rfl rfl rfl) rfl rfl ?_)
 with_reducible refine df rfl fun bq mg=>?_
 refine ai bI rfl (fun w' au=>jS (Mem.dh au .here rfl rfl) (bP.cons (bP.cons bP.nil))) ?_
 have hlE:mM r=aW [fW r.lv 1 3,fW r.ma 1 4]:=rfl
 rw [← hlE]
 (refine Ja rfl<|Ji<|Jv rfl<|JD rfl<|Jn<|gm rfl (fun ar=>?_) fun ar=>?_;refine Jr<|Jv rfl<|Ja rfl<|Jn<|Ju<|JT ?_;rotate_left;refine Jk<|Jq<|Jr<|ab (cz (.there .here)) rfl ?_;rotate_right)
 ·rw [if_pos ar]
 have hl:mM r=0:=Decidable.not_not.1 ar
 have RG:=fun {w'}=>W0 hl (w':=w')
 rw [if_neg (not_not_intro hl)]
 (refine ai bI rfl (fun w' au=>(W1 (Mem.keeps au))) ?_;refine Ja rfl<|Ji<|Jv rfl<|JD rfl<|Jn<|gm rfl (fun ar=>?_) fun ar=>?_;refine Jr<|Jv rfl<|Ja rfl<|Jn<|Ju<|JT ?_;rotate_left;refine Jk<|Jr<|ab (cz (.there .here)) rfl ?_;refine ai bI rfl (fun w' au=>(RG (Mem.keeps au))) ?_;refine Ja rfl<|Jn<|Je<|JT ?_;rotate_right)
 ·rw [if_pos ar]
 rw [if_neg ar]
def GU (l:List ByteArray):Bool:=l.all fun s=>decide (s.size≤40)
theorem GV {lv:Value} {l:List ByteArray} {w:World} (h:Rd w lv 1 (iT l)):aj Tryz.prog 69 [lv] w (.bool (GU l)):=by
 obtain ⟨a,cp,b,o',rfl,db,bT,ha,hc⟩:=h
 rw [cg] at *
 unfold maxLen at bT
 refine ah Tryz.func69 rfl rfl ?_
 refine Jr<|Ja rfl<|Jn<|Jq<|Jr<|Ja rfl<|Jn<|J0 ?_
 refine aX (ι:=Nat) (fun k=>k≤l.length∧∀ j (hj:j<l.length),j<k→l[j].size≤40) (fun k=>[(3,.int .i64 (k:Nat)),(0,.slice a l.length cp)]) (fun _=>[]) (fun k=>l.length-k) ?_ ?_
 ·apply aJ (0:Nat) ⟨Zi _,fun j _ hj=>absurd hj (Nat.not_lt_zero _)⟩
  case hs1=>exact cd
  case ht=>(try simp only [Ze,Zf,Za]);exact .nil
 rintro k ⟨hk,hf⟩
 by_cases aL:k<l.length
 ·have cE:=ha (mC aL)
  have c0:w.cell? ⟨b,o'+k*1,none⟩=some (.string l[k]):=(hc k _ (jG aL)).2 0 _ rfl
  have hm:=Zj aL
  have we:l[k].size≤40→∀ j (hj:j<l.length),j<k+1→l[j].size≤40:=fun q j hj Tm=>by
   by_cases e:j=k
   ·subst e;exact q
   ·exact hf j hj (by omega)
  generalize l[k]=x at c0 hm we
  (refine Jq<|Jr<|Jv rfl<|Jv rfl<|JI rfl<|JA rfl<|Jn<|Jd rfl fun ar=>Jk<|Jq<|J0<|Jr<|Jv rfl<|Jv rfl<|ab (fH cE ar) rfl ?_;refine ab (ag (.of rfl) (At.base c0 rfl)) rfl ?_;refine ab (eY (.of rfl)) rfl ?_;refine JE rfl<|Jn<|gm rfl (fun ar=>?_) fun ar=>?_;refine Jr<|Ja rfl<|Jn<|Je<|Jm<|Jh<|Jh<|Jm<|Jh<|JT ?_;rotate_left;refine Jw<|Jj<|Jt<|Jg<|Jv rfl<|JB rfl (by omega)<|Ja rfl<|Jn ?_;rotate_right)
  ·have qi:(40:Int)<(x.size:Nat):=ar
   have e:GU l=false:=List.all_eq_false.2 ⟨x,hm,by simp;omega⟩
   rw [e]
  ·have qi:¬ (40:Int)<(x.size:Nat):=ar
   apply aK (k+1) ⟨(show k+1≤l.length from aL),we (by omega)⟩ (show l.length-(k+1)<l.length-k by omega)
   case hs1=>exact cd
   case ht=>(try simp only [Ze,Zf,Za]);exact .nil
 ·have e:GU l=true:=List.all_eq_true.2 fun x hx=>by
   obtain ⟨j,hj,rfl⟩:=List.getElem_of_mem hx
   exact decide_eq_true (hf j hj (by omega))
  obtain rfl:k=l.length:=by omega
  rw [e]
  refine Jq<|Jr<|Jv rfl<|Jv rfl<|JI rfl<|JA rfl<|Jn<|Jc rfl fun ar=>Jp<|Jl<|Jo<|Jt<|Jr<|Ja rfl<|Jn<|Je<|JT ?_
  rfl
def Un (so de:ByteArray):Bool:=decide ((so.size:Int)≤40)&&decide ((de.size:Int)≤40)
theorem Dk (v:Int) (so de:ByteArray) (w:World):aj Tryz.prog 19 [.agg #[.int .i64 v,.string so,.string de]] w (.bool (Un so de)):=by
 refine ah Tryz.func19 rfl rfl ?_
 (refine Jr<|Jy rfl rfl fun _ _=>Ja rfl<|Ji<|bF rfl rfl ae ?_;refine JL rfl .here rfl<|ab (eY (.of rfl)) rfl ?_;refine JF rfl<|Jv rfl<|aF rfl rfl inferInstance (fun hg bj=>(ao (.of rfl) ae)) rfl ?_;refine aF rfl rfl inferInstance (fun hg bj=>(ag (.bE hg rfl) (At.lit .here rfl))) rfl ?_;refine aF rfl rfl inferInstance (fun hg bj=>(eY (.bE hg rfl))) rfl ?_;refine aF rfl rfl inferInstance (fun hg bj=>(jY (.bE hg rfl) (.of rfl))) rfl ?_;refine ab (bV (.of rfl) rfl) rfl ?_;refine Ja rfl<|Jn<|Je<|JT ?_)
 rfl
def Zt (p:Po):List ByteArray:=[p.ou,p.ip]
def Am (r:Ro) (k:Nat):List ByteArray:=dZ r++((r.po.take k).map Zt).flatten
def vU (r:Ro):Bool:=decide (r.sr.length≤10)&&decide (r.de.length≤10)&&decide (r.ti.length≤10)&&decide (r.po.length≤48)
def An (r:Ro):Bool:=vU r&&GU (Am r r.po.length)
theorem wY {r:Ro} {k:Nat} (h:k<r.po.length):Am r (k+1)=Am r k++[r.po[k].ou,r.po[k].ip]:=by
 unfold Am
 rw [List.take_succ_eq_append_getElem h,List.map_append,List.flatten_append,Zh]
 rfl
theorem qw {r:Ro} (h:vU r=true):r.sr.length≤10∧r.de.length≤10∧r.ti.length≤10∧r.po.length≤48:=by
 unfold vU at h
 simp only [Bool.and_eq_true,decide_eq_true_eq] at h
 exact ⟨h.1.1.1,h.1.1.2,h.1.2,h.2⟩
theorem Ao {r:Ro} (h:vU r=true):mX r:=by
 have:=qw h
 exact ⟨by omega,by omega,by omega,by omega⟩
theorem GW {r:Ro} (h:vU r=true):mY r:=by
 have:=qw h
 exact ⟨by omega,by omega,by omega⟩
theorem Al (r:Ro):∀ k,k≤r.po.length→(Am r k).length=(dZ r).length+2*k
 | 0,_=>by unfold Am;simp
 | k+1,h=>by rw [wY (by omega),Zg,Al r k (by omega)];simp;omega
theorem Lk {r:Ro} {s d t p:Value} {w:World} (h:RR w r s d t p):aj Tryz.prog 18 [RA r s d t p] w (.bool (An r)):=by
 have h1:=Rd.one h.sr
 have h2:=Rd.one h.de
 have h3:=Rd.one h.ti
 have h4:=Rd.one h.po
 have Wg:vU r=true→∀ w',aG [] w w'→bd Tryz.prog 77 [.agg #[.int .i64 r.lv,.int .i64 r.ma,s,d,t,p]] w' [] (fun _:Value=>True) id (fun x=>[row 9 1 x (dZ r).length (aO (dZ r))]):=fun e w' hk=>D4 (h.keeps hk) (Ao e)
 have A8:=h.sr
 have Bg:=h.de
 have Ib:=h.po
 have wa:=h.ti
 obtain ⟨a1,dJ,Gd,F6,rfl,ng,gr,kF,jJ⟩:=A8
 obtain ⟨a2,cU,Gc,F5,rfl,jt,eA,iW,jq⟩:=Bg
 obtain ⟨a3,dC,FY,Fg,rfl,lC,fD,qY,oe⟩:=wa
 obtain ⟨a4,fS,Uf,Pw,rfl,xF,mc,Gb,zg⟩:=Ib
 rw [cu] at *
 rw [bU] at *
 rw [bJ] at *
 rw [cN] at *
 unfold maxLen at gr eA fD mc
 unfold RA
 refine ah Tryz.func18 rfl rfl ?_
 (refine Jr<|Jy rfl rfl fun _ _=>Ja rfl<|Jn<|Jq<|Jr<|bF rfl rfl ae ?_;refine JL rfl .here rfl<|JI rfl<|JE rfl<|Jv rfl<|aF rfl rfl inferInstance (fun hg bj=>(ao (.of rfl) ae)) rfl ?_;refine aF rfl rfl inferInstance (fun hg bj=>(ag (.bE hg rfl) (At.lit .here rfl))) rfl ?_;refine aF rfl rfl inferInstance (fun hg bj=>(bZ (.bE hg rfl))) rfl ?_;refine aF rfl rfl inferInstance (fun hg bj=>(kM (.bE hg rfl) (.of rfl))) rfl ?_;refine ab (bR (.of rfl) rfl) rfl ?_;refine Jv rfl<|aF rfl rfl inferInstance (fun hg bj=>(ao (.of rfl) ae)) rfl ?_;refine aF rfl rfl inferInstance (fun hg bj=>(ag (.bE hg rfl) (At.lit .here rfl))) rfl ?_;refine aF rfl rfl inferInstance (fun hg bj=>(bZ (.bE hg rfl))) rfl ?_;refine aF rfl rfl inferInstance (fun hg bj=>(kM (.bE hg rfl) (.of rfl))) rfl ?_;refine ab (bR (.of rfl) rfl) rfl ?_;refine Jv rfl<|aF rfl rfl inferInstance (fun hg bj=>(ao (.of rfl) ae)) rfl ?_;refine aF rfl rfl inferInstance (fun hg bj=>(ag (.bE hg rfl) (At.lit .here rfl))) rfl ?_;refine aF rfl rfl inferInstance (fun hg bj=>(bZ (.bE hg rfl))) rfl ?_;refine aF rfl rfl inferInstance (fun hg bj=>(kM (.bE hg rfl) (.of rfl))) rfl ?_;refine ab (bR (.of rfl) rfl) rfl ?_;refine Jn<|nB rfl (fun ar=>?_) fun ar=>?_;refine Jr<|Ja rfl<|Jn<|Ju<|JT ?_;rotate_left;refine Jk<|Jr<|ab (cz .here) rfl ?_;rotate_right)
 ·have e:An r=false:=by
   unfold An
   have e2:vU r=false:=by
    rw [← Bool.not_eq_true]
    intro q
    have:=qw q
    omega
   rw [e2];rfl
  rw [e]
 have hA:vU r=true:=by
  unfold vU
  simp only [Bool.and_eq_true,decide_eq_true_eq]
  omega
 obtain ⟨f1,f2,f3,f4⟩:=qw hA
 have BZ:=Wg hA
 clear ar
 rename_i b1 sH
 have sW:(dZ r).length≤30:=by
  unfold dZ cm ct cQ
  simp only [Zg,Zd]
  omega
 refine JN bI rfl (fun w1 aS=>BZ w1 aS.keeps) ?_
 intro x _
 dsimp only [id_eq,Zb,Za]
 refine Ja rfl<|Jn<|Jq<|Jr<|Ja rfl<|Jn<|J0 ?_
 refine aX (ι:=Nat×Value×List ByteArray) (fun y=>y.1≤r.po.length∧y.2.2=Am r y.1) (fun y=>[(4,.int .i64 (y.1:Nat)),(3,y.2.1),(1,.pointer (some ⟨b1,0,none⟩))]) (fun y=>[row 9 1 y.2.1 y.2.2.length (aO y.2.2),JQ b1 r (.slice a1 r.sr.length dJ) (.slice a2 r.de.length cU) (.slice a3 r.ti.length dC) (.slice a4 r.po.length fS)]) (fun y=>r.po.length-y.1) ?_ ?_
 ·apply aJ (0,x,dZ r) ⟨Zi _,by unfold Am;simp⟩
  case hs1=>exact cd
  case ht=>
   exact .cons .here (.cons .here .nil)
 rintro ⟨k,v',L⟩ ⟨hk,hL⟩
 dsimp only at hk hL ⊢
 have FG:L.length=(dZ r).length+2*k:=by rw [hL,Al r k hk]
 have hlen:(aO L).length=L.length*1:=by rw [dd];omega
 by_cases aL:k<r.po.length
 ·have cE:=Gb (jZ aL)
  obtain ⟨ij,aC⟩:=zg k _ (ib aL)
  unfold Po.cells at aC
  have c1:=aC 1 _ rfl
  have c2:=aC 2 _ rfl
  have ko:=wY (r:=r) aL
  rw [← hL] at ko
  generalize r.po[k]=q at aC c1 c2 ko
  (refine Jq<|Jr<|Jv rfl<|bF rfl rfl ae ?_;refine JL rfl (.there .here) rfl<|JI rfl<|JA rfl<|Jn<|Jd rfl fun ar=>Jk<|Jq<|J0 ?_)
  with_reducible refine cC 14 (by kernel_rfl) ?_
  (refine ak kG rfl ?_;refine ak j9 rfl ?_;refine ak (gz (.there .here)) rfl ?_;refine ak kG rfl ?_;refine ak (fH cE ar) rfl ?_;refine ak j9 rfl ?_;refine ak (ag (.of rfl) (At.base c1 rfl)) rfl ?_;refine ak j9 rfl ?_;refine ak (gz (.there .here)) rfl ?_;refine ak kG rfl ?_;refine ak (fH cE ar) rfl ?_;refine ak j9 rfl ?_;refine ak (ag (.of rfl) (At.base c2 rfl)) rfl ?_;refine dX (aA (.cons (.of rfl) (.cons (.of rfl) .nil)) rfl rfl rfl rfl) rfl rfl ?_)
  with_reducible refine df rfl fun bq mg=>?_
  refine bB (.of rfl) (.of rfl) (.there .here) .here an (by rfl) (gF rfl rfl) (by rfl) (by rfl) (by rfl) eH (by rfl) ?_
  intro z
  refine Ja rfl<|Jx<|Jj<|Jt<|Jg<|Jv rfl<|JB rfl (by omega)<|Ja rfl<|Jn ?_
  apply aK (k+1,z,L++[q.ou,q.ip]) ⟨(show k+1≤r.po.length from aL),ko.symm⟩ (by show r.po.length-(k+1)<r.po.length-k;omega)
  case hs1=>exact cd
  case ht=>
   show bo _ [row 9 1 z (L++[q.ou,q.ip]).length (aO (L++[q.ou,q.ip])),JQ b1 r (.slice a1 r.sr.length dJ) (.slice a2 r.de.length cU) (.slice a3 r.ti.length dC) (.slice a4 r.po.length fS)] _
   rw [show aO (L++[q.ou,q.ip])=aO L++[.string q.ou,.string q.ip] from eO _ _,Zg,show [q.ou,q.ip].length=2 from rfl]
   exact .cons .here (.cons (.there .here) .nil)
 obtain rfl:k=r.po.length:=by omega
 clear hk aL
 have e:An r=GU L:=by unfold An;rw [hA,← hL];rfl
 rw [e]
 (refine Jq<|Jr<|Jv rfl<|bF rfl rfl ae ?_;refine JL rfl (.there .here) rfl<|JI rfl<|JA rfl<|Jn<|Jc rfl fun ar=>Jp<|Jl<|Jo<|Jt<|Jr<|Jv rfl ?_)
 refine ai bI rfl (fun w' au=>GV (ez au (by exact .here) rfl)) ?_
 refine Ja rfl<|Jn<|Je<|JT ?_
 rfl
theorem IH {l:List Int}:aW (0::l)=aW l:=by
 conv=>lhs;unfold aW
 rw [if_neg (by decide)]
theorem QM (a:Int):aW [a]=a:=by
 unfold aW
 split
 ·rfl
 ·rename_i q;rw [Decidable.not_not] at q;rw [q];rfl
theorem IG {a:Int} {l:List Int} (h:a≠0):aW (a::l)=a:=by unfold aW;rw [if_pos h]
def mZ (B:List Bool) (m:Int):Bool:=B.getD m.toNat false
def F4 (r:Ro) (v:Int) (so:ByteArray) (B:List Bool) (x:Ti):Bool:=fV r.po v x.nm&&decide (jB r v x.nm=so)||!fV r.po v x.nm&&mZ B x.fr
structure sf (r:Ro) (v:Int) (so:ByteArray) (B:List Bool):Prop where
 len:B.length=r.ma.toNat
 xS:mZ B (jL r so)=true
 rc:∀ m:Int,0≤m→mZ B m=true→(fj r r.po v so).Rc m
theorem yT {B:List Bool} {k:Nat} (hk:k<B.length) {m:Int} (hm:0≤m):mZ (B.set k true) m=if m=(k:Nat) then true else mZ B m:=by
 unfold mZ
 rw [List.getD_eq_getElem?_getD,List.getD_eq_getElem?_getD,List.getElem?_set]
 by_cases e:m=(k:Nat)
 ·rw [if_pos (by omega),if_pos (by omega),if_pos e];rfl
 ·rw [if_neg (by omega),if_neg e]
theorem LX {n k:Nat} (hk:k<n) {m:Int} (hm:0≤m):mZ ((List.replicate n false).set k true) m=decide (m=(k:Nat)):=by
 rw [yT (by rw [List.length_replicate];exact hk) hm]
 have:mZ (List.replicate n false) m=false:=by
  unfold mZ
  rw [List.getD_eq_getElem?_getD,List.getElem?_replicate]
  split <;> rfl
 rw [this]
 by_cases e:m=(k:Nat) <;> simp [e]
theorem rz {r:Ro} (dB:oF r) {so:ByteArray} (hs:so∈cm r):0≤jL r so∧jL r so<r.ma:=by
 obtain ⟨me,_⟩:=er (dz hs)
 have sW:(cm r).length=r.sr.length:=by unfold cm;rw [Zd]
 have hl:=Nat.lt_of_lt_of_eq me sW
 unfold jL
 rw [List.getD_eq_getElem?_getD,Zc hl]
 exact dB.sm _ (Zj hl)
theorem FM {r:Ro} (dB:oF r) {de:ByteArray} (hs:de∈ct r):0≤j6 r de∧j6 r de<r.ma:=by
 obtain ⟨me,_⟩:=er (dz hs)
 have sW:(ct r).length=r.de.length:=by unfold ct;rw [Zd]
 have hl:=Nat.lt_of_lt_of_eq me sW
 unfold j6
 rw [List.getD_eq_getElem?_getD,Zc hl]
 exact dB.dm _ (Zj hl)
theorem sf.start {r:Ro} (dB:oF r) {v:Int} {so:ByteArray} (hs:so∈cm r):sf r v so ((List.replicate r.ma.toNat false).set (jL r so).toNat true):=by
 have hr:=rz dB hs
 have e:∀ m:Int,0≤m→mZ ((List.replicate r.ma.toNat false).set (jL r so).toNat true) m=decide (m=jL r so):=fun m hm=>by
  rw [LX (by omega) hm]
  have:(((jL r so).toNat:Nat):Int)=jL r so:=by omega
  rw [this]
 refine ⟨by rw [List.length_set,List.length_replicate],by rw [e _ hr.1];simp,fun m hm h=>?_⟩
 rw [e m hm,decide_eq_true_eq] at h
 rw [h,← mD hs]
 exact Wn.Rc.xS
theorem tu {r:Ro} {v:Int} {so:ByteArray} {i:Nat} (hi:i<r.ti.length):sO r v so i=(fV r.po v r.ti[i].nm&&decide (jB r v r.ti[i].nm=so)):=by
 unfold sO gn fJ
 rw [List.getD_eq_getElem?_getD,Zc hi];rfl
theorem nD {r:Ro} {i:Nat} (hi:i<r.ti.length):fJ r i=r.ti[i]:=by
 unfold fJ
 rw [List.getD_eq_getElem?_getD,Zc hi];rfl
theorem sf.tie {r:Ro} (dB:oF r) {v:Int} {so:ByteArray} {B:List Bool} (h:sf r v so B) {i:Nat} (hi:i<r.ti.length) (ht:F4 r v so B r.ti[i]=true):(fj r r.po v so).Rc (r.ti[i]).to:=by
 unfold F4 at ht
 rw [Bool.or_eq_true] at ht
 have e:(fj r r.po v so).to i=(r.ti[i]).to:=by show (fJ r i).to=_;rw [nD hi]
 rw [← e]
 rcases ht with ht | ht
 ·refine Wn.Rc.ca hi ?_
  rw [← pX dB.yS dB.val,tu hi];exact ht
 ·rw [Bool.and_eq_true] at ht
  refine Wn.Rc.fe hi ?_ ?_
  ·show (!fV r.po v (gn r i))=true
   unfold gn;rw [nD hi];exact ht.1
  ·show (fj r r.po v so).Rc (fJ r i).fr
   rw [nD hi]
   exact h.rc _ (dB.tm _ (Zj hi)).1.1 ht.2
theorem sf.set {r:Ro} (dB:oF r) {v:Int} {so:ByteArray} {B:List Bool} (h:sf r v so B) {i:Nat} (hi:i<r.ti.length) (ht:F4 r v so B r.ti[i]=true):sf r v so (B.set (r.ti[i]).to.toNat true):=by
 have H3:=(dB.tm _ (Zj hi)).2.1
 have hl:=h.len
 have e:(((r.ti[i]).to.toNat:Nat):Int)=(r.ti[i]).to:=by omega
 refine ⟨by rw [List.length_set];exact hl,?_,fun m hm hb=>?_⟩
 ·by_cases hs:0≤jL r so
  ·rw [yT (by omega) hs]
   split
   ·rfl
   ·exact h.xS
  ·have:=h.xS
   unfold mZ at this ⊢
   rw [List.getD_eq_getElem?_getD] at this ⊢
   rw [List.getElem?_set]
   split
   ·rw [if_pos (by omega)];rfl
   ·exact this
 ·rw [yT (by omega) hm,e] at hb
  split at hb
  ·rename_i q;rw [q];exact h.tie dB hi ht
  ·exact h.rc m hm hb
theorem sf.done {r:Ro} (dB:oF r) {v:Int} {so:ByteArray} (hs:so∈cm r) {B:List Bool} (h:sf r v so B) (hc:∀ (i:Nat) (hi:i<r.ti.length),mZ B (r.ti[i]).to=true∨F4 r v so B r.ti[i]=false) {m:Int} (hm:0≤m):mZ B m=AJ r v so m:=by
 have SS:(fj r r.po v so).Re (fun m=>0≤m∧mZ B m=true):=by
  refine ⟨⟨by show 0≤jz r so;rw [mD hs];exact (rz dB hs).1,by show mZ B (jz r so)=true;rw [mD hs];exact h.xS⟩,fun i hi q=>?_⟩
  have sY:i<r.ti.length:=hi
  have H3:=(dB.tm _ (Zj sY)).2.1
  refine ⟨by show 0≤(fJ r i).to;rw [nD sY];exact H3.1,?_⟩
  show mZ B (fJ r i).to=true
  rw [nD sY]
  refine (hc i sY).elim id fun q2=>?_
  unfold F4 at q2
  rw [Bool.or_eq_false_iff] at q2
  rcases q with q | ⟨q,q3⟩
  ·rw [← pX dB.yS dB.val,tu sY,q2.1] at q;cases q
  ·have q4:(!fV r.po v (gn r i))=true:=q
   have q5:mZ B (fJ r i).fr=true:=q3.2
   unfold gn at q4;rw [nD sY] at q4 q5
   rw [q4,q5] at q2
   exact absurd q2.2 (by decide)
 have e1:mZ B m=true↔AJ r v so m=true:=by
  rw [Cw]
  exact ⟨h.rc m hm,fun q=>(Wn.NL SS q).2⟩
 cases a:mZ B m <;> cases b:AJ r v so m <;> rw [a,b] at e1 <;> simp at e1 <;> rfl
theorem M5 {r:Ro} {v:Int} {so:ByteArray} {B:List Bool} (h:∀ m:Int,0≤m→mZ B m=AJ r v so m):((List.range r.ma.toNat).filter fun i=>mZ B (i:Nat)).map (fun i:Nat=>(i:Int))=pU r v so:=by
 unfold pU
 rw [List.filter_map]
 congr 1
 exact List.filter_congr fun i _=>h _ (by omega)
def Fp (r:Ro) (v:Int) (so de:ByteArray) (L:List Int):Bool:=
 L.contains (jL r so)&&!L.contains (j6 r de)&&r.ti.all fun x=>L.contains x.to||!(fV r.po v x.nm&&decide (jB r v x.nm=so)||!fV r.po v x.nm&&L.contains x.fr)
theorem Mc {r:Ro} (dB:oF r) {v:Int} {so de:ByteArray} (L:List Int):Fp r v so de L=!M6 r v so de L:=by
 rw [Bool.eq_iff_iff]
 unfold Fp M6
 simp only [Bool.and_eq_true,Bool.not_eq_true',Bool.or_eq_false_iff,List.all_eq_true,List.any_eq_false,Bool.not_eq_true,Bool.or_eq_true]
 constructor
 ·rintro ⟨⟨h1,h2⟩,h3⟩
  refine ⟨⟨fun x hx=>?_,fun m hm=>?_⟩,h2⟩
  ·have:=h3 x hx
   unfold pn
   rcases this with this | ⟨_,this⟩
   ·rw [this];simp
   ·cases b:fV r.po v x.nm <;> cases c:L.contains x.fr <;> rw [b,c] at this <;> simp at this ⊢
  ·have key:∀ k,k≤r.ti.length→∀ m∈fK r v so k,L.contains m=true:=by
    intro k
    induction k with
    | zero=>intro _ m hm;rw [show fK r v so 0=[jL r so] from rfl,List.mem_singleton] at hm;rw [hm];exact h1
    | succ k ih =>
     intro hk m hm
     rw [fK] at hm
     split at hm
     ·rename_i hq
      rcases List.mem_append.1 hm with hm | hm
      ·exact ih (by omega) m hm
      ·rw [List.mem_singleton] at hm
       rw [hm]
       have hc:sO r v so k=true:=by
        cases Qz:sO r v so k
        ·rw [Qz] at hq;simp at hq
        ·rfl
       rw [tu (by omega)] at hc
       have:=h3 _ (Zj (show k<r.ti.length by omega))
       rw [hc] at this
       rw [nD (by omega)]
       simpa using this
     ·exact ih (by omega) m hm
   rw [key _ (Nat.le_refl _) m hm];decide
 ·rintro ⟨⟨h1,h2⟩,h3⟩
  refine ⟨⟨?_,h3⟩,fun x hx=>?_⟩
  ·have:=h2 _ (Av r v so r.ti.length)
   simpa using this
  ·obtain ⟨i,hi,rfl⟩:=List.getElem_of_mem hx
   have a1:=h1 _ hx
   unfold pn at a1
   by_cases hc:sO r v so i=true
   ·have:=h2 _ (DP hi hc)
    rw [nD hi] at this
    left
    simpa using this
   ·rw [tu hi] at hc
    rw [Bool.not_eq_true] at hc
    rw [hc]
    cases a:L.contains r.ti[i].to <;> cases b:fV r.po v r.ti[i].nm <;> cases c:L.contains r.ti[i].fr <;> rw [a,b,c] at a1 <;> first | (left;rfl) | (right;exact ⟨rfl,rfl⟩) | (exact absurd a1 (by decide))
def Cz (r:Ro) (L:List Int) (k:Nat):Int:=(L[k]?.map fun x=>aW [ep r x,bO (decide (0<k∧x≤L.getD (k-1) 0)) 11]).getD 0
theorem Hc {r:Ro} {L:List Int} {k:Nat} (h:k<L.length):Cz r L k=aW [ep r L[k],bO (decide (0<k∧L[k]≤L.getD (k-1) 0)) 11]:=by
 unfold Cz;rw [Zc h];rfl
theorem Pq (r:Ro) (L:List Int) (k:Nat):Cz r L k=M9 r L k:=by
 by_cases hk:k<L.length
 ·rw [Hc hk,I2 hk]
  by_cases h0:k=0
  ·subst h0
   by_cases hm:ep r L[0]=0
   ·have:=il.1 hm
    have e1:decide (0<0∧L[0]≤L.getD (0-1) 0)=false:=decide_eq_false (by omega)
    have e2:decide (L[0]≤qO L 0)=false:=decide_eq_false (by unfold qO;rw [if_pos rfl];omega)
    rw [e1,e2]
   ·unfold aW;rw [if_pos hm,if_pos hm]
  ·have:decide (0<k∧L[k]≤L.getD (k-1) 0)=decide (L[k]≤qO L k):=by
    unfold qO;rw [if_neg h0]
    rw [decide_eq_decide]
    exact ⟨fun h=>h.2,fun h=>⟨by omega,h⟩⟩
   rw [this]
 ·unfold Cz M9
  rw [List.getElem?_eq_none (by omega)];rfl
def yH (r:Ro) (L:List Int):Int:=if (4:Int)<(L.length:Nat) then 5 else iL (Cz r L) L.length
theorem J8 {r:Ro} {s d t p:Value} (v:Int) (so de:ByteArray) {w:World} (h:RR w r s d t p) (hf:mX r):aj Tryz.prog 39 [.agg #[.int .i64 v,.string so,.string de],RA r s d t p] w (.int .i64 (jn r v so de)):=by
 have h1:=Rd.one h.sr
 have h2:=Rd.one h.de
 have h3:=Rd.one h.ti
 have h4:=Rd.one h.po
 have hcr:∀ {w'},aG [] w w'→aj Tryz.prog 25 [.agg #[.int .i64 r.lv,.int .i64 r.ma,s,d,t,p]] w' (.int .i64 (fU r)):=fun hk=>wj (h.keeps hk) hf
 have qX:∀ {w'},aG [] w w'→aj Tryz.prog 26 [.agg #[.int .i64 r.lv,.int .i64 r.ma,s,d,t,p],.string de] w' (.int .i64 (sM r de)):=fun hk=>Dc de (h.keeps hk)
 have Ij:∀ {w'},aG [] w w'→aj Tryz.prog 27 [.agg #[.int .i64 r.lv,.int .i64 r.ma,s,d,t,p],.int .i64 v] w' (.int .i64 (AZ r v)):=fun hk=>zu v (h.keeps hk)
 have hsrc:∀ {w'},aG [] w w'→aj Tryz.prog 29 [.agg #[.int .i64 r.lv,.int .i64 r.ma,s,d,t,p],.string so] w' (.int .i64 (Ks r so)):=fun hk=>Da so (h.keeps hk)
 unfold RA
 refine ah Tryz.func39 rfl rfl ?_
 (refine Jr<|Jy rfl rfl fun _ _=>Jy rfl rfl fun _ _=>Ja rfl<|Jn<|Jq<|Jr<|ab (cz .here) rfl ?_;refine ai bI rfl (fun w' au=>(hcr (Mem.keeps au))) ?_;refine Ja rfl<|Ji<|Jv rfl<|JD rfl<|Jn<|gm rfl (fun ar=>?_) fun ar=>?_;refine Jr<|Jv rfl<|Ja rfl<|Jn<|Ju<|JT ?_;rotate_left;refine Jk<|Jq ?_;rotate_right)
 ·rw [show jn r v so de=fU r from IG ar]
 have e:jn r v so de=aW [AZ r v,Ks r so,sM r de]:=by unfold jn;rw [Decidable.not_not.1 ar,IH]
 rw [e]
 with_reducible refine cC 13 (by kernel_rfl) ?_
 (refine ak (cz .here) rfl ?_;refine ak j9 rfl ?_;refine ak (gz (.there .here)) rfl ?_;refine aT aZ rfl (fun w' au=>(Ij (Mem.keeps au))) ?_;refine ak (cz .here) rfl ?_;refine ak j9 rfl ?_;refine ak (gz (.there .here)) rfl ?_;refine aT aZ rfl (fun w' au=>(hsrc (Mem.keeps au))) ?_;refine ak (cz .here) rfl ?_;refine ak j9 rfl ?_;refine ak (gz (.there .here)) rfl ?_;refine aT aZ rfl (fun w' au=>(qX (Mem.keeps au))) ?_;refine dX (aA (.cons (.of rfl) (.cons (.of rfl) (.cons (.of rfl) .nil))) rfl rfl rfl rfl) rfl rfl ?_)
 with_reducible refine df rfl fun bq mg=>?_
 (refine ai bI rfl (fun w' au=>(jS (Mem.dh au .here rfl rfl) (bP.cons (bP.cons (bP.cons bP.nil))))) ?_;refine Ja rfl<|Jn<|Je<|JT ?_)
 rfl
theorem QD {lv:Value} {l:List Int} (o:Int) {w:World} (h:Rd w lv 1 (ints l)):aj Tryz.prog 163 [lv,.int .i64 o] w (.bool (l.contains o)):=by
 obtain ⟨a,cp,b,o',rfl,db,bT,ha,hc⟩:=h
 rw [bW] at *
 unfold maxLen at bT
 refine ah Tryz.func163 rfl rfl ?_
 refine Jr<|Ja rfl<|Jn<|Jq<|Jr<|Ja rfl<|Jn<|J0 ?_
 refine aX (ι:=Nat) (fun k=>k≤l.length∧∀ j (hj:j<l.length),j<k→l[j]≠o) (fun k=>[(5,.int .i64 (k:Nat)),(0,.slice a l.length cp),(1,.int .i64 o)]) (fun _=>[]) (fun k=>l.length-k) ?_ ?_
 ·apply aJ (0:Nat) ⟨Zi _,fun j _ hj=>absurd hj (Nat.not_lt_zero _)⟩
  case hs1=>exact cd
  case ht=>(try simp only [Ze,Zf,Za]);exact .nil
 rintro k ⟨hk,hf⟩
 by_cases aL:k<l.length
 ·have cE:=ha (ic aL)
  have c0:w.cell? ⟨b,o'+k*1,none⟩=some (.int .i64 l[k]):=(hc k _ (fC aL)).2 0 _ rfl
  have hm:=Zj aL
  have we:l[k]≠o→∀ j (hj:j<l.length),j<k+1→l[j]≠o:=fun q j hj Tm=>by
   by_cases e:j=k
   ·subst e;exact q
   ·exact hf j hj (by omega)
  generalize l[k]=x at c0 hm we
  (refine Jq<|Jr<|Jv rfl<|Jv rfl<|JI rfl<|JA rfl<|Jn<|Jd rfl fun ar=>Jk<|Jq<|J0<|Jr<|Jv rfl<|Jv rfl<|ab (fH cE ar) rfl ?_;refine ab (ag (.of rfl) (At.base c0 rfl)) rfl ?_;refine Jv rfl<|JC rfl<|Jn<|gm rfl (fun ar=>?_) fun ar=>?_;refine Jr<|Ja rfl<|Jn<|Je<|Jm<|Jh<|Jh<|Jm<|Jh<|JT ?_;rotate_left;refine Jw<|Jj<|Jt<|Jg<|Jv rfl<|JB rfl (by omega)<|Ja rfl<|Jn ?_;rotate_right)
  ·have qi:x=o:=ar
   rw [List.contains_iff_mem.2 (qi ▸ hm)]
  ·have qi:¬ x=o:=ar
   apply aK (k+1) ⟨(show k+1≤l.length from aL),we qi⟩ (show l.length-(k+1)<l.length-k by omega)
   case hs1=>exact cd
   case ht=>(try simp only [Ze,Zf,Za]);exact .nil
 ·have e:l.contains o=false:=by
   rw [← Bool.not_eq_true,List.contains_iff_mem]
   intro q
   obtain ⟨j,hj,e⟩:=List.getElem_of_mem q
   exact hf j hj (by omega) e
  obtain rfl:k=l.length:=by omega
  rw [e]
  refine Jq<|Jr<|Jv rfl<|Jv rfl<|JI rfl<|JA rfl<|Jn<|Jc rfl fun ar=>Jp<|Jl<|Jo<|Jt<|Jr<|Ja rfl<|Jn<|Je<|JT ?_
  rfl
def PO (l1 l2:List Int) (e bad:Int):Bool:=decide (e=bad)&&((decide (bad≠0)&&decide ((l1.length:Int)=0))||(decide (bad=0)&&decide (l1=l2)))
theorem HL {v1 v2:Value} {l1 l2:List Int} {e bad:Int} {w:World} (h1:Rd w v1 1 (ints l1)) (h2:Rd w v2 1 (ints l2)):aj Tryz.prog 43 [v1,.int .i64 e,.int .i64 bad,v2] w (.bool (PO l1 l2 e bad)):=by
 have zR:=h1
 obtain ⟨a,cap,b,o,rfl,db,bT,ha,hc⟩:=zR
 have Qo:=bW l1
 refine ah Tryz.func43 rfl rfl ?_
 (refine Jr<|Ja rfl<|Ji<|Jv rfl<|Jv rfl<|JC rfl<|Jv rfl<|je rfl rfl rfl rfl ?_;refine aF rfl rfl inferInstance (fun hg bj=>(jw (.bE hg rfl) (.of rfl))) rfl ?_;refine aF rfl rfl inferInstance (fun hg bj=>(aR (.bE hg rfl))) rfl ?_;refine cT rfl rfl inferInstance (fun hg bj=>(aR (.of rfl))) rfl ?_;refine cT rfl rfl inferInstance (fun hg bj=>(bZ (.bE hg rfl))) rfl ?_;refine cT rfl rfl inferInstance (fun hg bj=>(kN (.bE hg rfl) (.of rfl))) rfl ?_;refine aF rfl rfl inferInstance (fun hg bj=>(eo hg (.bE hg rfl) rfl)) rfl ?_;refine aF rfl rfl inferInstance (fun hg bj=>(aR (.bE hg rfl))) rfl ?_;refine cT rfl rfl inferInstance (fun hg bj=>(aR (.of rfl))) rfl ?_;refine cT rfl rfl inferInstance (fun hg bj=>(kN (.bE hg rfl) (.of rfl))) rfl ?_;refine cT rfl rfl inferInstance (fun hg bj=>(aR (.bE hg rfl))) rfl ?_;refine cT rfl rfl inferInstance (fun hg bj=>(aR (.of rfl))) rfl ?_;refine cT rfl rfl inferInstance (fun hg bj=>(aR (.of rfl))) rfl ?_;refine lW rfl rfl (fun hg=>(bh (.of rfl) (.cons (.bE hg rfl) (.cons (.bE hg rfl) .nil)) inferInstance e9)) rfl (fun hg w' au=>(DL (Rd.keeps h1 (Mem.keeps au)) (Rd.keeps h2 (Mem.keeps au)))) ?_;refine cT rfl rfl inferInstance (fun hg bj=>(eo hg (.bE hg rfl) rfl)) rfl ?_;refine aF rfl rfl inferInstance (fun hg bj=>(jM hg (.bE hg rfl) rfl)) rfl ?_;refine ab (bV (.of rfl) rfl) rfl ?_;refine Ja rfl<|Jn<|Je<|JT ?_)
 rw [Qo];rfl
theorem L8 {l1 l2:List Int} {e bad:Int} (h1:e=bad) (h2:bad≠0→l1=[]) (h3:bad=0→l1=l2):PO l1 l2 e bad=true:=by
 subst h1
 unfold PO
 by_cases h:e=0
 ·rw [h3 h,h];simp
 ·rw [h2 h];simp [h]
theorem uM {v1 v2:Value} {l1 l2:List Int} {e bad:Int} {w:World} (h1:Rd w v1 1 (ints l1)) (h2:Rd w v2 1 (ints l2)) (e1:e=bad) (e2:bad≠0→l1=[]) (e3:bad=0→l1=l2):aj Tryz.prog 43 [v1,.int .i64 e,.int .i64 bad,v2] w (.bool true):=by
 have:=HL (e:=e) (bad:=bad) h1 h2
 rwa [L8 e1 e2 e3] at this
theorem LB {r:Ro} {L:List Int} (h:¬ (4:Int)<(L.length:Nat)):yH r L=iL (Cz r L) L.length:=if_neg h
theorem Db {r:Ro} {s d t p cv:Value} {L:List Int} {w:World} (h:RR w r s d t p) (hc:Rd w cv 1 (ints L)):aj Tryz.prog 41 [RA r s d t p,cv] w (.int .i64 (yH r L)):=by
 have h1:=Rd.one h.sr
 have h2:=Rd.one h.de
 have h3:=Rd.one h.ti
 have h4:=Rd.one h.po
 have iQ:∀ (m:Int) {w'},aG [] w w'→aj Tryz.prog 162 [.agg #[.int .i64 r.lv,.int .i64 r.ma,s,d,t,p],.int .i64 m] w' (.int .i64 (ep r m)):=fun m _ hk=>BD m (h.keeps hk)
 obtain ⟨a,cp,b,o',rfl,db,bT,ha,Qz⟩:=hc
 rw [bW] at *
 unfold maxLen at bT
 unfold RA
 refine ah Tryz.func41 rfl rfl ?_
 (refine Jr<|Jy rfl rfl fun _ _=>Ja rfl<|Jn<|Jq<|Jr<|Jv rfl<|JI rfl<|JE rfl<|Jn<|gm rfl (fun ar=>?_) fun ar=>?_;refine Jr<|Ja rfl<|Jn<|Ju<|JT ?_;rotate_left;refine Jk<|Jq<|Jr<|Ja rfl<|Jn<|J0 ?_;rotate_right)
 ·rw [show yH r L=5 from if_pos ar]
 rw [LB ar]
 rename_i b2 tb
 refine aX (ι:=Nat) (fun k=>k≤L.length∧∀ i,i<k→Cz r L i=0) (fun k=>[(5,.int .i64 (k:Nat)),(1,.slice a L.length cp),(2,.pointer (some ⟨b2,0,none⟩))]) (fun _=>[JQ b2 r s d t p]) (fun k=>L.length-k) ?_ ?_
 ·apply aJ (0:Nat) ⟨Zi _,fun i hi=>absurd hi (Nat.not_lt_zero _)⟩
  case hs1=>exact cd
  case ht=>(try simp only [Ze,Zf,Za]);exact .cons .here .nil
 rintro k ⟨hk,hf⟩
 by_cases aL:k<L.length
 ·have cE:=ha (ic aL)
  have c0:w.cell? ⟨b,o'+k*1,none⟩=some (.int .i64 L[k]):=(Qz k _ (fC aL)).2 0 _ rfl
  have Mw:k-1<L.length:=by omega
  have c1:w.cell? ⟨b,o'+(max 0 ((k:Int)-1)).toNat*1,none⟩=some (.int .i64 L[k-1]):=by
   rw [show (max 0 ((k:Int)-1)).toNat=k-1 by omega]
   exact (Qz (k-1) _ (fC Mw)).2 0 _ rfl
  have jb:=Hc (r:=r) aL
  rw [List.getD_eq_getElem?_getD,Zc Mw,Option.getD_some] at jb
  have ko:Cz r L k=0→∀ i,i<k+1→Cz r L i=0:=fun e i hi=>by
   by_cases e2:i=k
   ·rw [e2];exact e
   ·exact hf i (by omega)
  have MB:Cz r L k≠0→iL (Cz r L) L.length=Cz r L k:=fun e=>eP hf aL e
  generalize L[k-1]=y at c1 jb
  generalize L[k]=x at c0 jb
  have e:aW [ep r x,bO (decide ((0:Int)<(k:Nat))&&decide (x≤y)) 11]=Cz r L k:=by
   rw [jb,show (decide ((0:Int)<(k:Nat))&&decide (x≤y))=decide (0<k∧x≤y) by rw [Bool.eq_iff_iff];simp]
  refine Jq<|Jr<|Jv rfl<|Jv rfl<|JI rfl<|JA rfl<|Jn<|Jd rfl fun ar=>Jk<|Jq<|J0<|Jq ?_
  with_reducible refine cC 23 (by kernel_rfl) ?_
  (refine ak (cz .here) rfl ?_;refine ak kG rfl ?_;refine ak kG rfl ?_;refine ak (fH cE ar) rfl ?_;refine ak (ag (.of rfl) (At.base c0 rfl)) rfl ?_;refine aT aZ rfl (fun w' au=>(iQ x (Mem.keeps au))) ?_;refine ak kG rfl ?_;refine ak (kM (.of rfl) (.of rfl)) rfl ?_;refine ak kG rfl ?_;refine gW rfl rfl inferInstance (fun hg bj=>(aR (.of rfl))) rfl ?_;refine gW rfl rfl inferInstance (fun hg bj=>(aR (.of rfl))) rfl ?_;refine gW rfl rfl inferInstance (fun hg bj=>(az (.bE hg rfl) (.bE hg rfl) cE (by omega) ar ba)) rfl ?_;refine gW rfl rfl inferInstance (fun hg bj=>(ag (.bE hg rfl) (At.base c0 rfl))) rfl ?_;refine gW rfl rfl inferInstance (fun hg bj=>(aR (.of rfl))) rfl ?_;refine gW rfl rfl inferInstance (fun hg bj=>(aR (.of rfl))) rfl ?_;refine gW rfl rfl inferInstance (fun hg bj=>(rD (.bE hg rfl) (.of rfl) (PS (by omega)))) rfl ?_;refine gW rfl rfl inferInstance (fun hg bj=>(Lu (.of rfl) (.bE hg rfl))) rfl ?_;refine gW rfl rfl inferInstance (fun hg bj=>(az (.bE hg rfl) (.bE hg rfl) cE (by omega) (by omega) ba)) rfl ?_;refine gW rfl rfl inferInstance (fun hg bj=>(ag (.bE hg rfl) (At.base c1 rfl))) rfl ?_;refine gW rfl rfl inferInstance (fun hg bj=>(jY (.bE hg rfl) (.bE hg rfl))) rfl ?_;refine ak (bV (.of rfl) rfl) rfl ?_;refine aT aZ rfl (fun w' au=>(kH _ 11 w')) ?_;refine dX (aA (.cons (.of rfl) (.cons (.of rfl) .nil)) rfl rfl rfl rfl) rfl rfl ?_)
  with_reducible refine df rfl fun bq mg=>?_
  (refine ai bI rfl (fun w' au=>(jS (Mem.dh au .here rfl rfl) (bP.cons (bP.cons bP.nil)))) ?_;refine Ja rfl<|Ji<|Jv rfl<|JD rfl<|Jn<|gm rfl (fun ar=>?_) fun ar=>?_;refine Jr<|Jv rfl<|Ja rfl<|Jn<|Je<|Jm<|Jh<|Jh<|Jm<|Jh<|JT ?_;rotate_left;refine Jw<|Jj<|Jt<|Jg<|Jv rfl<|JB rfl (by omega)<|Ja rfl<|Jn ?_;rotate_right)
  ·rw [e] at ar ⊢
   rw [MB ar]
  apply aK (k+1) ⟨(show k+1≤L.length from aL),ko (by rw [← e];exact Decidable.not_not.1 ar)⟩ (show L.length-(k+1)<L.length-k by omega)
  case hs1=>exact cd
  case ht=>(try simp only [Ze,Zf,Za]);exact .cons (.there .here) .nil
 ·obtain rfl:k=L.length:=by omega
  rw [dN.2 hf]
  refine Jq<|Jr<|Jv rfl<|Jv rfl<|JI rfl<|JA rfl<|Jn<|Jc rfl fun ar=>Jp<|Jl<|Jo<|Jt<|Jr<|Ja rfl<|Jn<|Je<|JT ?_
  rfl
theorem Dg {r:Ro} (h:fU r=0) (v:Int) (x:ByteArray):(ee r.po v x).getD ⟨#[]⟩≠⟨#[]⟩↔fV r.po v x=true:=by
 unfold fV
 cases e:ee r.po v x with
 | none=>simp
 | some i =>
  obtain ⟨p,hp,_,_,rfl⟩:=fa e
  simpa using NV h p hp
theorem JO {r:Ro} (h:fU r=0) (v:Int) (x:ByteArray):(ee r.po v x).getD ⟨#[]⟩=⟨#[]⟩↔fV r.po v x=false:=by
 have:=Dg h v x
 rw [← Bool.not_eq_true,← this,Decidable.not_not]
theorem NH {r:Ro} {so:ByteArray} (hs:so∈cm r):∃ i:Nat,∃ hi:i<r.sr.length,bu (cm r) so=(i:Nat)∧jL r so=r.sr[i].mx:=by
 obtain ⟨me,_⟩:=er (dz hs)
 have sW:(cm r).length=r.sr.length:=by unfold cm;rw [Zd]
 have hl:=Nat.lt_of_lt_of_eq me sW
 have:=dz hs
 refine ⟨(bu (cm r) so).toNat,hl,by omega,?_⟩
 unfold jL
 rw [List.getD_eq_getElem?_getD,Zc hl];rfl
theorem OE {r:Ro} {de:ByteArray} (hs:de∈ct r):∃ i:Nat,∃ hi:i<r.de.length,bu (ct r) de=(i:Nat)∧j6 r de=r.de[i].mx:=by
 obtain ⟨me,_⟩:=er (dz hs)
 have sW:(ct r).length=r.de.length:=by unfold ct;rw [Zd]
 have hl:=Nat.lt_of_lt_of_eq me sW
 have:=dz hs
 refine ⟨(bu (ct r) de).toNat,hl,by omega,?_⟩
 unfold j6
 rw [List.getD_eq_getElem?_getD,Zc hl];rfl
theorem ND {r:Ro} (h:fU r=0) {i:Nat} (hi:i<r.ti.length):r.ti[i].nm≠⟨#[]⟩:=(EB h).ne (.inr (.inr (List.mem_map.2 ⟨_,Zj hi,rfl⟩)))
def NW (r:Ro) (v:Int) (so:ByteArray) (L:List Int) (x:Ti):Bool:=L.contains x.to||!(fV r.po v x.nm&&decide (jB r v x.nm=so)||!fV r.po v x.nm&&L.contains x.fr)
theorem HS (r:Ro) (v:Int) (so de:ByteArray) (L:List Int):Fp r v so de L=(L.contains (jL r so)&&!L.contains (j6 r de)&&r.ti.all (NW r v so L)):=rfl
set_option maxHeartbeats 1000000 in
theorem Mb {r:Ro} {s d t p cv:Value} (v:Int) (so de:ByteArray) {L:List Int} {w:World} (h:RR w r s d t p) (hb:fU r=0) (hs:so∈cm r) (hd:de∈ct r) (hc:Rd w cv 1 (ints L)):aj Tryz.prog 42 [RA r s d t p,.int .i64 v,.string so,.string de,cv] w (.bool (Fp r v so de L)):=by
 have h1:=Rd.one h.sr
 have h2:=Rd.one h.de
 have h3:=Rd.one h.ti
 have h4:=Rd.one h.po
 have h5:=Rd.one hc
 obtain ⟨i0,rP,Xx,Xv⟩:=NH hs
 obtain ⟨j0,sX,Xw,Xu⟩:=OE hd
 have Mx:∀ {w'},aG [] w w'→aj Tryz.prog 130 [.agg #[.int .i64 r.lv,.int .i64 r.ma,s,d,t,p],.string so] w' (.int .i64 (i0:Nat)):=fun hk=>by rw [← Xx];exact q9 so (h.keeps hk)
 have Oc:∀ {w'},aG [] w w'→aj Tryz.prog 56 [.agg #[.int .i64 r.lv,.int .i64 r.ma,s,d,t,p],.string de] w' (.int .i64 (j0:Nat)):=fun hk=>by rw [← Xw];exact rb de (h.keeps hk)
 have mw:∀ (o:Int) {w'},Rd w' cv 1 (ints L)→aj Tryz.prog 163 [cv,.int .i64 o] w' (.bool (L.contains o)):=fun o _ hk=>QD o hk
 have Be:∀ (o:ByteArray) {w'},aG [] w w'→aj Tryz.prog 133 [.agg #[.int .i64 r.lv,.int .i64 r.ma,s,d,t,p],.int .i64 v,.string o] w' (.string ((ee r.po v o).getD ⟨#[]⟩)):=fun o _ hk=>tK v o (h.keeps hk)
 have QB:∀ (o:ByteArray),o≠⟨#[]⟩→∀ {w'},aG [] w w'→aj Tryz.prog 131 [.agg #[.int .i64 r.lv,.int .i64 r.ma,s,d,t,p],.int .i64 v,.string o] w' (.string (jB r v o)):=fun o ho _ hk=>by rw [← EE hb v ho];exact xP v o ho (h.keeps hk)
 have A8:=h.sr
 have Bg:=h.de
 have wa:=h.ti
 obtain ⟨a1,dJ,Gd,F6,rfl,ng,gr,kF,jJ⟩:=A8
 obtain ⟨a2,cU,Gc,F5,rfl,jt,eA,iW,jq⟩:=Bg
 obtain ⟨a3,dC,FY,Fg,rfl,lC,fD,qY,oe⟩:=wa
 rw [cu] at *
 rw [bU] at *
 rw [bJ] at *
 unfold maxLen at gr eA fD
 have vd:=kF (gB rP)
 have og:=iW (gl sX)
 have cS:w.cell? ⟨Gd,F6+i0*2+1,none⟩=some (.int .i64 (jL r so)):=by rw [Xv];exact (jJ i0 _ (fm rP)).2 1 _ rfl
 have cD:w.cell? ⟨Gc,F5+j0*3+1,none⟩=some (.int .i64 (j6 r de)):=by rw [Xu];exact (jq j0 _ (eX sX)).2 1 _ rfl
 rw [HS]
 unfold RA
 refine ah Tryz.func42 rfl rfl ?_
 refine Jr<|Jy rfl rfl fun _ _=>Ja rfl<|Jn<|Jq<|Jq ?_
 rename_i b5 KF
 with_reducible refine dP 23 (by kernel_rfl) ?_
 (refine k7 rfl rfl ?_;refine nC rfl rfl ae ?_;refine aH (gz .here) rfl ?_;refine aH (cz .here) rfl ?_;refine k7 rfl rfl ?_;refine fc aZ rfl (fun w' au=>(Mx (Mem.keeps au))) ?_;refine aH (az (.of rfl) (.of rfl) vd (by omega) (by omega) ba) rfl ?_;refine nC rfl rfl ae ?_;refine aH (ag (.of rfl) (At.base cS rfl)) rfl ?_;refine fc aZ rfl (fun w' au=>(mw _ (Rd.keeps hc (Mem.keeps au)))) ?_;refine aH (eU (.of rfl)) rfl ?_;refine k7 rfl rfl ?_;refine cJ rfl rfl inferInstance (fun hg bj=>(aR (.of rfl))) rfl ?_;refine cJ rfl rfl inferInstance (fun hg bj=>(ao (.of rfl) ae)) rfl ?_;refine cJ rfl rfl inferInstance (fun hg bj=>(ag (.bE hg rfl) (At.lit .here rfl))) rfl ?_;refine cJ rfl rfl inferInstance (fun hg bj=>(cA (.of rfl) .here an (by rfl))) rfl ?_;refine cJ rfl rfl inferInstance (fun hg bj=>(aR (.of rfl))) rfl ?_;refine mV rfl rfl (fun hg=>(bh (.of rfl) (.cons (.bE hg rfl) (.cons (.bE hg rfl) .nil)) inferInstance e9)) rfl (fun hg w' au=>(Oc (Mem.keeps au))) ?_;refine cJ rfl rfl inferInstance (fun hg bj=>(az (.bE hg rfl) (.bE hg rfl) og (by omega) (by omega) ba)) rfl ?_;refine cJ rfl rfl inferInstance (fun hg bj=>(ao (.bE hg rfl) ae)) rfl ?_;refine cJ rfl rfl inferInstance (fun hg bj=>(ag (.bE hg rfl) (At.base cD rfl))) rfl ?_;refine mV rfl rfl (fun hg=>(bh (.of rfl) (.cons (.bE hg rfl) (.cons (.bE hg rfl) .nil)) inferInstance e9)) rfl (fun hg w' au=>(mw _ (Rd.keeps hc (Mem.keeps au)))) ?_;refine aH (bR (.of rfl) rfl) rfl ?_)
 with_reducible refine dY ?_
 (refine Jn<|nB rfl (fun ar=>?_) fun ar=>?_;refine Jr<|Ja rfl<|Jn<|Ju<|JT ?_;rotate_left;refine Jk<|Jq<|Jr<|Ja rfl<|Jn<|J0 ?_;rotate_right)
 ·have e:(L.contains (jL r so)&&!L.contains (j6 r de))=false:=by
   rcases ar with z | z
   ·rw [z];rfl
   ·rw [z,Bool.not_true,Bool.and_false]
  rw [e,Bool.false_and]
 have e:(L.contains (jL r so)&&!L.contains (j6 r de))=true:=by
  rw [ar.1,ar.2];rfl
 rw [e,Bool.true_and]
 clear ar
 refine aX (ι:=Nat) (fun k=>k≤r.ti.length∧∀ (i:Nat) (hi:i<r.ti.length),i<k→NW r v so L r.ti[i]=true) (fun k=>[(11,.int .i64 (k:Nat)),(1,.int .i64 v),(2,.string so),(4,cv),(5,.pointer (some ⟨b5,0,none⟩))]) (fun _=>[JQ b5 r (.slice a1 r.sr.length dJ) (.slice a2 r.de.length cU) (.slice a3 r.ti.length dC) p]) (fun k=>r.ti.length-k) ?_ ?_
 ·apply aJ (0:Nat) ⟨Zi _,fun i _ hi=>absurd hi (Nat.not_lt_zero _)⟩
  case hs1=>exact cd
  case ht=>(try simp only [Ze,Zf,Za]);exact .cons .here .nil
 rintro k ⟨hk,hf⟩
 by_cases aL:k<r.ti.length
 ·have cE:=qY (eT aL)
  obtain ⟨ij,aC⟩:=oe k _ (dQ aL)
  unfold Ti.cells at aC
  have ko:NW r v so L r.ti[k]=true→∀ (i:Nat) (hi:i<r.ti.length),i<k+1→NW r v so L r.ti[i]=true:=fun e i hi RE=>by
   by_cases e2:i=k
   ·subst e2;exact e
   ·exact hf i hi (by omega)
  have MB:NW r v so L r.ti[k]=false→r.ti.all (NW r v so L)=false:=fun e=>List.all_eq_false.2 ⟨_,Zj aL,by rw [e];decide⟩
  have tM:=fun {w'}=>QB r.ti[k].nm (ND hb aL) (w':=w')
  have g1:=Dg hb v r.ti[k].nm
  have g2:=JO hb v r.ti[k].nm
  have WE:NW r v so L r.ti[k]=(L.contains r.ti[k].to||!(fV r.po v r.ti[k].nm&&decide (jB r v r.ti[k].nm=so)||!fV r.po v r.ti[k].nm&&L.contains r.ti[k].fr)):=rfl
  generalize r.ti[k]=x at aC ko MB tM g1 g2 WE
  (refine Jq<|Jr<|Jv rfl<|bF rfl rfl ae ?_;refine JL rfl .here rfl<|JI rfl<|JA rfl<|Jn<|Jd rfl fun ar=>Jk<|Jq<|J0<|Jr<|bF rfl rfl ae ?_;refine JL rfl .here rfl<|Jv rfl<|ab (fH cE ar) rfl ?_;refine ab (iv (eF.base aC rfl)) rfl ?_;refine Jz rfl rfl fun _ _=>aq (.of rfl) (.of rfl) .here rfl rfl (fh rfl rfl rfl) (bC rfl) an ?_;refine Ji<|ab (cz (.there .here)) rfl ?_;refine Jv rfl<|bF rfl rfl ae ?_;refine JL rfl .here rfl<|ai eh rfl (fun w' au=>(Be _ (Mem.keeps au))) ?_;refine ab (hY (.of rfl) (.of rfl)) rfl ?_;refine Ja rfl<|Ji<|Jv rfl<|bF rfl rfl ae ?_;refine JL rfl .here rfl<|ai aZ rfl (fun w' au=>(mw _ (Rd.keeps hc (Mem.keeps au)))) ?_;refine JH rfl<|Jv rfl<|je rfl rfl rfl rfl ?_;refine aF rfl rfl inferInstance (fun hg bj=>(aR (.bE hg rfl))) rfl ?_;refine cT rfl rfl inferInstance (fun hg bj=>(cA (.of rfl) (.there .here) an (by rfl))) rfl ?_;refine cT rfl rfl inferInstance (fun hg bj=>(aR (.of rfl))) rfl ?_;refine cT rfl rfl inferInstance (fun hg bj=>(ao (.of rfl) ae)) rfl ?_;refine cT rfl rfl inferInstance (fun hg bj=>(ag (.bE hg rfl) (At.lit .here rfl))) rfl ?_;refine lW rfl rfl (fun hg=>(bh (.of rfl) (.cons (.bE hg rfl) (.cons (.bE hg rfl) (.cons (.bE hg rfl) .nil))) inferInstance e9)) rfl (fun hg w' au=>(tM (Mem.keeps au))) ?_;refine cT rfl rfl inferInstance (fun hg bj=>(aR (.of rfl))) rfl ?_;refine cT rfl rfl inferInstance (fun hg bj=>(dR (.bE hg rfl) (.bE hg rfl))) rfl ?_;refine aF rfl rfl inferInstance (fun hg bj=>(eo hg (.bE hg rfl) rfl)) rfl ?_;refine aF rfl rfl inferInstance (fun hg bj=>(aR (.bE hg rfl))) rfl ?_;refine cT rfl rfl inferInstance (fun hg bj=>(aR (.of rfl))) rfl ?_;refine cT rfl rfl inferInstance (fun hg bj=>(eU (.bE hg rfl))) rfl ?_;refine cT rfl rfl inferInstance (fun hg bj=>(aR (.bE hg rfl))) rfl ?_;refine cT rfl rfl inferInstance (fun hg bj=>(aR (.of rfl))) rfl ?_;refine cT rfl rfl inferInstance (fun hg bj=>(ao (.of rfl) ae)) rfl ?_;refine cT rfl rfl inferInstance (fun hg bj=>(ag (.bE hg rfl) (At.lit .here rfl))) rfl ?_;refine lW rfl rfl (fun hg=>(bh (.of rfl) (.cons (.bE hg rfl) (.cons (.bE hg rfl) .nil)) inferInstance e9)) rfl (fun hg w' au=>(mw _ (Rd.keeps hc (Mem.keeps au)))) ?_;refine cT rfl rfl inferInstance (fun hg bj=>(eo hg (.bE hg rfl) rfl)) rfl ?_;refine aF rfl rfl inferInstance (fun hg bj=>(jM hg (.bE hg rfl) rfl)) rfl ?_;refine ab (bV (.of rfl) rfl) rfl ?_;refine Jn<|nB rfl (fun ar=>?_) fun ar=>?_;refine Jr<|Ja rfl<|Jn<|Je<|Jm<|Jh<|Jh<|Jm<|Jh<|JT ?_;rotate_left;refine Jw<|Jj<|Jt<|Jg<|Jv rfl<|JB rfl (by omega)<|Ja rfl<|Jn ?_;rotate_right)
  ·rw [MB (by
    obtain ⟨z1,z2⟩:=ar
    rw [WE,z1]
    rcases z2 with ⟨z3,z4⟩ | ⟨z3,z4⟩
    ·rw [g1.1 z3,decide_eq_true z4];rfl
    ·rw [g2.1 (Decidable.not_not.1 z3),z4];rfl)]
  apply aK (k+1) ⟨(show k+1≤r.ti.length from aL),ko (by
   rw [WE]
   rcases ar with z | ⟨z1,z2⟩
   ·rw [z];rfl
   ·cases eb:fV r.po v x.nm
    ·have z3:L.contains x.fr=false:=z2.resolve_left fun q=>by rw [g1.1 q] at eb;cases eb
     rw [z3];simp
    ·have z3:¬ jB r v x.nm=so:=z1.resolve_left fun q=>q (g1.2 eb)
     rw [decide_eq_false z3];simp)⟩ (show r.ti.length-(k+1)<r.ti.length-k by omega)
  case hs1=>exact cd
  case ht=>(try simp only [Ze,Zf,Za]);exact .cons (.there .here) .nil
 ·obtain rfl:k=r.ti.length:=by omega
  have e2:r.ti.all (NW r v so L)=true:=List.all_eq_true.2 fun x hx=>by
   obtain ⟨i,hi,rfl⟩:=List.getElem_of_mem hx
   exact hf i hi hi
  rw [e2]
  (refine Jq<|Jr<|Jv rfl<|bF rfl rfl ae ?_;refine JL rfl .here rfl<|JI rfl<|JA rfl<|Jn<|Jc rfl fun ar=>Jp<|Jl<|Jo<|Jt<|Jr<|Ja rfl<|Jn<|Je<|JT ?_)
  rfl
def tU (B:List Bool):List Value:=B.map Value.bool
theorem tS (B:List Bool):(tU B).length=B.length:=by simp [tU]
theorem Nl (n:Nat):(List.replicate n [Value.bool false]).flatten=tU (List.replicate n false):=by
 unfold tU
 induction n with
 | zero=>rfl
 | succ n ih=>rw [List.replicate_succ,List.flatten_cons,ih,List.replicate_succ,List.map_cons];rfl
theorem tT {B:List Bool} {m:Int} (h:m.toNat<B.length):(tU B)[m.toNat*1]? = some (.bool (mZ B m)):=by
 unfold tU mZ
 rw [Nat.mul_one,List.getElem?_map,List.getD_eq_getElem?_getD,Zc h];rfl
theorem EF {B:List Bool} {m:Int} (h:m.toNat<B.length):setCells (tU B) (m.toNat*1) [.bool true]=tU (B.set m.toNat true):=by
 rw [Nat.mul_one,lJ _ _ _ (by rw [tS];exact h)]
 unfold tU
 rw [List.map_set]
theorem I0 {B:List Bool} {m:Int} (h:m.toNat<B.length) (hf:mZ B m=false):(B.set m.toNat true).count false<B.count false:=by
 unfold mZ at hf
 rw [List.getD_eq_getElem?_getD,Zc h] at hf
 have u4:B[m.toNat]=false:=hf
 rw [List.count_set h,u4]
 have:0<B.count false:=List.count_pos_iff.2 (u4 ▸ Zj h)
 simp
 omega
structure Dq (r:Ro) (v:Int) (so:ByteArray) (B0:List Bool) (k:Nat) (B:List Bool) (q:Bool):Prop where
 cq:sf r v so B
 no:q=false→B=B0∧∀ (i:Nat) (hi:i<r.ti.length),i<k→mZ B (r.ti[i]).to=true∨F4 r v so B r.ti[i]=false
 ys:q=true→B.count false<B0.count false
theorem Dq.set {r:Ro} (dB:oF r) {v:Int} {so:ByteArray} {B0 B:List Bool} {k:Nat} {q:Bool} (h:Dq r v so B0 k B q) (hk:k<r.ti.length) (H3:(r.ti[k]).to.toNat<B.length) (hm:mZ B (r.ti[k]).to=false) (ht:F4 r v so B r.ti[k]=true):Dq r v so B0 (k+1) (B.set (r.ti[k]).to.toNat true) true:=
 ⟨h.cq.set dB hk ht,fun e=>(nomatch e),fun _=>by
  have:=I0 H3 hm
  cases q with
  | false=>rw [(h.no rfl).1] at this ⊢;exact this
  | true=>exact Nat.lt_trans this (h.ys rfl)⟩
theorem Dq.skip {r:Ro} {v:Int} {so:ByteArray} {B0 B:List Bool} {k:Nat} {q:Bool} (h:Dq r v so B0 k B q) (hk:k<r.ti.length) (hm:mZ B (r.ti[k]).to=true∨F4 r v so B r.ti[k]=false):Dq r v so B0 (k+1) B q:=
 ⟨h.cq,fun e=>⟨(h.no e).1,fun i hi RE=>by
  by_cases e2:i=k
  ·subst e2;exact hm
  ·exact (h.no e).2 i hi (by omega)⟩,h.ys⟩
def AX (B:List Bool) (k:Nat):List Int:=((List.range k).filter fun i=>mZ B (i:Nat)).map (fun i:Nat=>(i:Int))
theorem PI {B:List Bool} {k:Nat} (h:mZ B (k:Nat)=true):AX B (k+1)=AX B k++[(k:Int)]:=by
 unfold AX
 rw [List.range_succ,List.filter_append,List.map_append,List.filter_cons,h];rfl
theorem LU {B:List Bool} {k:Nat} (h:mZ B (k:Nat)=false):AX B (k+1)=AX B k:=by
 unfold AX
 rw [List.range_succ,List.filter_append,List.map_append,List.filter_cons,h];simp
theorem LV (B:List Bool) (k:Nat):(AX B k).length≤k:=by
 unfold AX
 rw [Zd]
 exact Nat.le_trans (List.length_filter_le _ _) (by rw [List.length_range];exact Nat.le_refl k)
def Sk (r:Ro) (v:Int) (so de:ByteArray):Int:=if AJ r v so (j6 r de) then 24 else 0
def NM (r:Ro) (v:Int) (so de:ByteArray):List Int:=if AJ r v so (j6 r de) then [] else pU r v so
set_option maxHeartbeats 2000000 in
theorem T7 {r:Ro} {s d t p:Value} (v:Int) (so de:ByteArray) {w:World} (h:RR w r s d t p) (hb:fU r=0) (hs:so∈cm r) (hd:de∈ct r) :
  bd Tryz.prog 40 [RA r s d t p,.int .i64 v,.string so,.string de] w [] (fun _:Value=>True) (fun x=>.tuple #[x,.int .i64 (Sk r v so de)]) (fun x=>[row 3 1 x (NM r v so de).length ((NM r v so de).map (Value.int .i64))]):=by
 have h1:=Rd.one h.sr
 have h2:=Rd.one h.de
 have h3:=Rd.one h.ti
 have h4:=Rd.one h.po
 have dB:=DZ hb
 obtain ⟨n,hn⟩:∃ n:Nat,r.ma=(n:Nat):=⟨r.ma.toNat,by have:=dB.lim.2.2.1;omega⟩
 have hn4:n≤4:=by have:=dB.lim.2.2.2;omega
 have hsm:=rz dB hs
 have Tx:=FM dB hd
 have Rv:∀ x∈r.ti,(0≤x.fr∧x.fr<(n:Nat))∧(0≤x.to∧x.to<(n:Nat)):=fun x hx=>by
  have:=dB.tm x hx
  rw [hn] at this
  exact ⟨this.1,this.2.1⟩
 have qV:r.ma.toNat=n:=by omega
 rw [hn] at hsm Tx
 obtain ⟨i0,rP,Xx,Xv⟩:=NH hs
 obtain ⟨j0,sX,Xw,Xu⟩:=OE hd
 have Mx:∀ {w'},aG [] w w'→aj Tryz.prog 130 [.agg #[.int .i64 r.lv,.int .i64 (n:Nat),s,d,t,p],.string so] w' (.int .i64 (i0:Nat)):=fun hk=>by rw [← Xx,← hn];exact q9 so (h.keeps hk)
 have Oc:∀ {w'},aG [] w w'→aj Tryz.prog 56 [.agg #[.int .i64 r.lv,.int .i64 (n:Nat),s,d,t,p],.string de] w' (.int .i64 (j0:Nat)):=fun hk=>by rw [← Xw,← hn];exact rb de (h.keeps hk)
 have Be:∀ (o:ByteArray) {w'},aG [] w w'→aj Tryz.prog 133 [.agg #[.int .i64 r.lv,.int .i64 (n:Nat),s,d,t,p],.int .i64 v,.string o] w' (.string ((ee r.po v o).getD ⟨#[]⟩)):=fun o _ hk=>by rw [← hn];exact tK v o (h.keeps hk)
 have QB:∀ (o:ByteArray),o≠⟨#[]⟩→∀ {w'},aG [] w w'→aj Tryz.prog 131 [.agg #[.int .i64 r.lv,.int .i64 (n:Nat),s,d,t,p],.int .i64 v,.string o] w' (.string (jB r v o)):=fun o ho _ hk=>by rw [← EE hb v ho,← hn];exact xP v o ho (h.keeps hk)
 have A8:=h.sr
 have Bg:=h.de
 have wa:=h.ti
 obtain ⟨a1,dJ,Gd,F6,rfl,ng,gr,kF,jJ⟩:=A8
 obtain ⟨a2,cU,Gc,F5,rfl,jt,eA,iW,jq⟩:=Bg
 obtain ⟨a3,dC,FY,Fg,rfl,lC,fD,qY,oe⟩:=wa
 rw [cu] at *
 rw [bU] at *
 rw [bJ] at *
 unfold maxLen at gr eA fD
 have vd:=kF (gB rP)
 have og:=iW (gl sX)
 have cS:w.cell? ⟨Gd,F6+i0*2+1,none⟩=some (.int .i64 (jL r so)):=by rw [Xv];exact (jJ i0 _ (fm rP)).2 1 _ rfl
 have cD:w.cell? ⟨Gc,F5+j0*3+1,none⟩=some (.int .i64 (j6 r de)):=by rw [Xu];exact (jq j0 _ (eX sX)).2 1 _ rfl
 unfold RA
 rw [hn]
 refine aQ Tryz.func40 rfl rfl ?_
 (refine Jr<|Jy rfl rfl fun _ _=>Ja rfl<|Ja rfl<|Ji<|bF rfl rfl ae ?_;refine JL rfl .here rfl ?_)
 rename_i b4 u9
 with_reducible apply bb
 case hr=>
  with_reducible apply DR (l:=n) (cp:=n)
  case hx=>exact Is.of rfl
  case hy=>exact Is.of rfl
  case hl=>exact Nat.le_refl _
  case hb=>omega
  case hz=>rfl
  case hsz=>rfl
  case h63=>omega
 case hd=>rfl
 intro bg Oi
 have eB:(List.replicate n (Value.bool false).cells.toList).flatten=tU (List.replicate n false):=Nl n
 rw [eB]
 clear eB
 obtain ⟨B0,U4⟩:∃ B0,B0=List.replicate n false:=⟨_,rfl⟩
 rw [← U4]
 have me:B0.length=n:=by rw [U4,List.length_replicate]
 have F7:sf r v so (B0.set (jL r so).toNat true):=by rw [U4,← qV];exact sf.start dB hs
 have P7:setCells (tU B0) ((jL r so).toNat*1) [.bool true]=tU (B0.set (jL r so).toNat true):=EF (by omega)
 have rm:(jL r so).toNat*1+1≤(tU B0).length:=by rw [tS];omega
 refine Ja rfl<|Jn<|Jq ?_
 with_reducible refine dP 10 (by kernel_rfl) ?_
 (refine k7 rfl rfl ?_;refine nC rfl rfl ae ?_;refine aH (gz (.there .here)) rfl ?_;refine aH (cz (.there .here)) rfl ?_;refine k7 rfl rfl ?_;refine fc aZ rfl (fun w' au=>(Mx (Mem.keeps au))) ?_;refine aH (az (.of rfl) (.of rfl) vd (by omega) (by omega) ba) rfl ?_;refine nC rfl rfl ae ?_;refine aH (ag (.of rfl) (At.base cS rfl)) rfl ?_;refine aH (az (.of rfl) (.of rfl) rfl (by omega) (by omega) ba) rfl ?_)
 with_reducible refine dY ?_
 (refine aq (.of rfl) (.of rfl) .here rfl rfl (ed rfl) rm P7 ?_;refine Jn<|Jq<|Jr<|Ja rfl<|Jn<|J0 ?_)
 obtain ⟨B1,Xy⟩:∃ B1,B1=B0.set (jL r so).toNat true:=⟨_,rfl⟩
 rw [← Xy]
 rw [← Xy] at F7
 clear P7 rm me U4 Xy cS vd
 refine aX (ι:=List Bool×Bool) (fun y=>sf r v so y.1∧(y.2=false→∀ (i:Nat) (hi:i<r.ti.length),mZ y.1 (r.ti[i]).to=true∨F4 r v so y.1 r.ti[i]=false)) (fun y=>[(11,.bool y.2),(1,.int .i64 v),(2,.string so),(3,.string de),(4,.pointer (some ⟨b4,0,none⟩)),(8,.slice none 0 0),(9,.int .i64 0),(10,.slice (some ⟨bg,0,none⟩) n n)])
  (fun y=>[bA bg (.cells (tU y.1).toArray 4 (0,0)),bA b4 (.cells #[.int .i64 r.lv,.int .i64 (n:Nat),.slice a1 r.sr.length dJ,.slice a2 r.de.length cU,.slice a3 r.ti.length dC,p] 27 (0,0))]) (fun y=>2*y.1.count false+(if y.2=true then 1 else 0)) ?_ ?_
 ·apply aJ (B1,true) ⟨F7,fun e=>(nomatch e)⟩
  case hs1=>exact cd
  case ht=>(try simp only [Ze,Zf,Za]);exact .cons .here (.cons .here .nil)
 clear F7
 rintro ⟨B,q⟩ ⟨hq,hz⟩
 dsimp only at hq hz ⊢
 cases q with
 | true =>
  clear hz
  (refine Jq<|Jr<|Jv rfl<|Jn<|cB (.of rfl) ?_;refine Jk<|J0<|Jr<|Ja rfl<|Ji<|Ja rfl<|Jn<|J0 ?_)
  refine aX (ι:=Nat×List Bool×Bool) (fun y=>y.1≤r.ti.length∧Dq r v so B y.1 y.2.1 y.2.2) (fun y=>[(12,.int .i64 (y.1:Nat)),(11,.bool y.2.2),(1,.int .i64 v),(2,.string so),(3,.string de),(4,.pointer (some ⟨b4,0,none⟩)),(8,.slice none 0 0),(9,.int .i64 0),(10,.slice (some ⟨bg,0,none⟩) n n)])
   (fun y=>[bA bg (.cells (tU y.2.1).toArray 4 (0,0)),bA b4 (.cells #[.int .i64 r.lv,.int .i64 (n:Nat),.slice a1 r.sr.length dJ,.slice a2 r.de.length cU,.slice a3 r.ti.length dC,p] 27 (0,0))]) (fun y=>r.ti.length-y.1) ?_ ?_
  ·apply aJ (0,B,false) ⟨Zi _,hq,fun _=>⟨rfl,fun i _ hi=>absurd hi (Nat.not_lt_zero _)⟩,fun e=>(nomatch e)⟩
   case hs1=>exact cd
   case ht=>(try simp only [Ze,Zf,Za]);exact .cons .here (.cons .here .nil)
  rintro ⟨k,B',q⟩ ⟨hk,hK⟩
  dsimp only at hk hK ⊢
  by_cases aL:k<r.ti.length
  ·have cE:=qY (eT aL)
   obtain ⟨ij,aC⟩:=oe k _ (dQ aL)
   unfold Ti.cells at aC
   have hrg:=Rv _ (Zj aL)
   have Wq:B'.length=n:=by rw [hK.cq.len,qV]
   have mO:=hK.set dB aL (by omega)
   have NZ:=hK.skip aL
   have tM:=fun {w'}=>QB r.ti[k].nm (ND hb aL) (w':=w')
   have g1:=Dg hb v r.ti[k].nm
   have g2:=JO hb v r.ti[k].nm
   have VO:F4 r v so B' r.ti[k]=(fV r.po v r.ti[k].nm&&decide (jB r v r.ti[k].nm=so)||!fV r.po v r.ti[k].nm&&mZ B' r.ti[k].fr):=rfl
   generalize r.ti[k]=x at aC hrg mO NZ tM g1 g2 VO
   have fv:(tU B').length=n:=by rw [tS,Wq]
   have lt:=tT (B:=B') (m:=x.to) (by omega)
   have lf:=tT (B:=B') (m:=x.fr) (by omega)
   have P7:setCells (tU B') (x.to.toNat*1) [.bool true]=tU (B'.set x.to.toNat true):=EF (by omega)
   have rm:x.to.toNat*1+1≤(tU B').length:=by omega
   (refine Jq<|Jr<|Jv rfl<|bF rfl rfl ae ?_;refine JL rfl (.there .here) rfl<|JI rfl<|JA rfl<|Jn<|Jd rfl fun ar=>Jk<|Jq<|J0<|Jr<|bF rfl rfl ae ?_;refine JL rfl (.there .here) rfl<|Jv rfl<|ab (fH cE ar) rfl ?_;refine ab (iv (eF.base aC rfl)) rfl ?_;refine Jz rfl rfl fun _ _=>aq (.of rfl) (.of rfl) .here rfl rfl (fh rfl rfl rfl) (bC rfl) an ?_;refine Ji<|ab (cz bN) rfl ?_;refine Jv rfl<|bF rfl rfl ae ?_;refine JL rfl .here rfl<|ai eh rfl (fun w' au=>(Be _ (Mem.keeps au))) ?_;refine ab (hY (.of rfl) (.of rfl)) rfl ?_;refine Ja rfl<|Ji<|Jv rfl<|bF rfl rfl ae ?_;refine JL rfl .here rfl<|ab (az (.of rfl) (.of rfl) rfl (by omega) (by omega) ba) rfl ?_;refine ab (ag (.of rfl) (At.kz (.there .here) lt)) rfl ?_;refine JH rfl<|Jv rfl<|je rfl rfl rfl rfl ?_;refine aF rfl rfl inferInstance (fun hg bj=>(aR (.bE hg rfl))) rfl ?_;refine cT rfl rfl inferInstance (fun hg bj=>(cA (.of rfl) bN an (by rfl))) rfl ?_;refine cT rfl rfl inferInstance (fun hg bj=>(aR (.of rfl))) rfl ?_;refine cT rfl rfl inferInstance (fun hg bj=>(ao (.of rfl) ae)) rfl ?_;refine cT rfl rfl inferInstance (fun hg bj=>(ag (.bE hg rfl) (At.lit .here rfl))) rfl ?_;refine lW rfl rfl (fun hg=>(bh (.of rfl) (.cons (.bE hg rfl) (.cons (.bE hg rfl) (.cons (.bE hg rfl) .nil))) inferInstance e9)) rfl (fun hg w' au=>(tM (Mem.keeps au))) ?_;refine cT rfl rfl inferInstance (fun hg bj=>(aR (.of rfl))) rfl ?_;refine cT rfl rfl inferInstance (fun hg bj=>(dR (.bE hg rfl) (.bE hg rfl))) rfl ?_;refine aF rfl rfl inferInstance (fun hg bj=>(eo hg (.bE hg rfl) rfl)) rfl ?_;refine aF rfl rfl inferInstance (fun hg bj=>(aR (.bE hg rfl))) rfl ?_;refine cT rfl rfl inferInstance (fun hg bj=>(aR (.of rfl))) rfl ?_;refine cT rfl rfl inferInstance (fun hg bj=>(eU (.bE hg rfl))) rfl ?_;refine cT rfl rfl inferInstance (fun hg bj=>(aR (.bE hg rfl))) rfl ?_;refine cT rfl rfl inferInstance (fun hg bj=>(aR (.of rfl))) rfl ?_;refine cT rfl rfl inferInstance (fun hg bj=>(ao (.of rfl) ae)) rfl ?_;refine cT rfl rfl inferInstance (fun hg bj=>(ag (.bE hg rfl) (At.lit .here rfl))) rfl ?_;refine cT rfl rfl inferInstance (fun hg bj=>(az (.bE hg rfl) (.bE hg rfl) rfl (by omega) (by omega) ba)) rfl ?_;refine cT rfl rfl inferInstance (fun hg bj=>(ag (.bE hg rfl) (At.kz (.there .here) lf))) rfl ?_;refine cT rfl rfl inferInstance (fun hg bj=>(eo hg (.bE hg rfl) rfl)) rfl ?_;refine aF rfl rfl inferInstance (fun hg bj=>(jM hg (.bE hg rfl) rfl)) rfl ?_;refine ab (bV (.of rfl) rfl) rfl ?_;refine Jn<|nB rfl (fun ar=>?_) fun ar=>?_;refine Jr<|Jv rfl<|bF rfl rfl ae ?_;refine JL rfl .here rfl<|ab (az (.of rfl) (.of rfl) rfl (by omega) (by omega) ba) rfl ?_;refine aq (.of rfl) (.of rfl) (.there .here) rfl rfl (ed rfl) rm P7 ?_;refine Jn<|Jg<|Ja rfl<|Jx<|Jj<|Jt<|Jg<|Jv rfl<|JB rfl (by omega)<|Ja rfl<|Jn ?_;rotate_left;refine Jw<|Jj<|Jt<|Jg<|Jv rfl<|JB rfl (by omega)<|Ja rfl<|Jn ?_;rotate_right)
   ·have eto:mZ B' x.to=false:=ar.1
    have etg:F4 r v so B' x=true:=by
     rw [VO]
     rcases ar.2 with ⟨z1,z2⟩ | ⟨z1,z2⟩
     ·rw [g1.1 z1,decide_eq_true z2];rfl
     ·rw [g2.1 (Decidable.not_not.1 z1),z2];simp
    apply aK (k+1,B'.set x.to.toNat true,true) ⟨(show k+1≤r.ti.length from aL),mO eto etg⟩ (show r.ti.length-(k+1)<r.ti.length-k by omega)
    case hs1=>exact cd
    case ht=>(try simp only [Ze,Zf,Za]);exact .cons .here (.cons (.there .here) .nil)
   ·have Fx:mZ B' x.to=true∨F4 r v so B' x=false:=ar.imp id fun z=>by
     rw [VO]
     cases eb:fV r.po v x.nm
     ·have z3:mZ B' x.fr=false:=z.2.resolve_left fun q=>by rw [g1.1 q] at eb;cases eb
      rw [z3];simp
     ·have z3:¬ jB r v x.nm=so:=z.1.resolve_left fun q=>q (g1.2 eb)
      rw [decide_eq_false z3];simp
    apply aK (k+1,B',q) ⟨(show k+1≤r.ti.length from aL),NZ Fx⟩ (show r.ti.length-(k+1)<r.ti.length-k by omega)
    case hs1=>exact cd
    case ht=>(try simp only [Ze,Zf,Za]);exact .cons (.there .here) (.cons (.there .here) .nil)
  ·obtain rfl:k=r.ti.length:=by omega
   (refine Jq<|Jr<|Jv rfl<|bF rfl rfl ae ?_;refine JL rfl (.there .here) rfl<|JI rfl<|JA rfl<|Jn<|Jc rfl fun ar=>Jp<|Jl<|Jo<|Jj<|Jt ?_)
   apply aK (B',q) ⟨hK.cq,fun e i hi=>by rw [(hK.no e).1];rw [(hK.no e).1] at *;exact (hK.no e).2 i hi hi⟩ (by
    dsimp only
    cases q with
    | false=>rw [(hK.no rfl).1];simp
    | true=>have:=hK.ys rfl;simp;omega)
   case hs1=>exact cd
   case ht=>(try simp only [Ze,Zf,Za]);exact .cons .here (.cons .here .nil)
 | false =>
  have hz:=hz rfl
  have fw:=fun {m:Int}=>hq.done (m:=m) dB hs hz
  have Wq:B.length=n:=by rw [hq.len,qV]
  have fv:(tU B).length=n:=by rw [tS,Wq]
  have ld:=tT (B:=B) (m:=j6 r de) (by omega)
  have W1:AX B n=pU r v so:=by rw [← M5 (fun m hm=>fw hm),qV];rfl
  rw [fw Tx.1] at ld
  unfold Sk NM
  (refine Jq<|Jr<|Jv rfl<|Jn<|bL (.of rfl) ?_;refine Jp<|Jl<|Jo<|Jt<|Jq<|Jq ?_)
  with_reducible refine dP 11 (by kernel_rfl) ?_
  (refine k7 rfl rfl ?_;refine nC rfl rfl ae ?_;refine aH (gz (.there .here)) rfl ?_;refine aH (cz (.there .here)) rfl ?_;refine k7 rfl rfl ?_;refine fc aZ rfl (fun w' au=>(Oc (Mem.keeps au))) ?_;refine aH (az (.of rfl) (.of rfl) og (by omega) (by omega) ba) rfl ?_;refine nC rfl rfl ae ?_;refine aH (ag (.of rfl) (At.base cD rfl)) rfl ?_;refine aH (az (.of rfl) (.of rfl) rfl (by omega) (by omega) ba) rfl ?_;refine aH (ag (.of rfl) (At.kz .here ld)) rfl ?_)
  with_reducible refine dY ?_
  (refine Jn<|nB rfl (fun ar=>?_) fun ar=>?_;refine Jr<|Ja rfl<|Ja rfl<|Jn<|Ju ?_;rotate_left;refine Jk<|Jr<|Ja rfl<|Jn<|Jq<|Jr<|Ja rfl<|Jn<|J0 ?_;rotate_right)
  ·rw [if_pos ar,if_pos ar]
   refine aP 3 1 ?_
   first | with_reducible apply aM | with_reducible apply aN
   case he=>exact fF rfl rfl rfl
   case hR=>
    intro w' au
    exact aB (.slice none 0 0) trivial (by exact .cons .here .nil) au rfl
  rw [if_neg (by rw [ar];decide),if_neg (by rw [ar];decide)]
  clear ar ld hq hz cD og
  refine aP 3 1 ?_
  refine aX (ι:=Nat×Value) (fun y=>y.1≤n) (fun y=>[(16,.int .i64 (y.1:Nat)),(15,y.2),(4,.pointer (some ⟨b4,0,none⟩)),(10,.slice (some ⟨bg,0,none⟩) n n)])
   (fun y=>[row 3 1 y.2 (AX B y.1).length ((AX B y.1).map (Value.int .i64)),bA bg (.cells (tU B).toArray 4 (0,0)),bA b4 (.cells #[.int .i64 r.lv,.int .i64 (n:Nat),.slice a1 r.sr.length dJ,.slice a2 r.de.length cU,.slice a3 r.ti.length dC,p] 27 (0,0))]) (fun y=>n-y.1) ?_ ?_
  ·apply aJ (0,.slice none 0 0) (Zi _)
   case hs1=>exact cd
   case ht=>
    exact .cons .here (.cons .here (.cons .here .nil))
  rintro ⟨k,v'⟩ hk
  dsimp only at hk ⊢
  by_cases aL:k<n
  ·have lk:(tU B)[k*1]? = some (.bool (mZ B (k:Nat))):=tT (m:=(k:Nat)) (show k<_ by omega)
   have ht:=PI (B:=B) (k:=k)
   have hf:=LU (B:=B) (k:=k)
   have N6:((AX B k).map (Value.int .i64)).length=(AX B k).length*1:=by rw [Zd,Nat.mul_one]
   have RD:=LV B k
   cases em:mZ B (k:Nat) with
   | false =>
    rw [em] at lk
    have hf:=hf em
    (refine Jq<|Jr<|Jv rfl<|bF rfl rfl ae ?_;refine JL rfl bN rfl<|JA rfl<|Jn<|Jd rfl fun ar=>Jk<|Jq<|J0<|Jr<|Jv rfl<|Jv rfl<|ab (az (.of rfl) (.of rfl) rfl (by omega) ar ba) rfl ?_;refine ab (ag (.of rfl) (At.kz (.there .here) lk)) rfl ?_;refine Jn<|bL (.of rfl) ?_;refine Jw<|Jj<|Jt<|Jg<|Jv rfl<|JB rfl (by omega)<|Ja rfl<|Jn ?_)
    apply aK (k+1,v') (show k+1≤n from aL) (show n-(k+1)<n-k by omega)
    case hs1=>exact cd
    case ht=>
     show bo _ [row 3 1 v' (AX B (k+1)).length ((AX B (k+1)).map (Value.int .i64)),bA bg (.cells (tU B).toArray 4 (0,0)),bA b4 (.cells #[.int .i64 r.lv,.int .i64 (n:Nat),.slice a1 r.sr.length dJ,.slice a2 r.de.length cU,.slice a3 r.ti.length dC,p] 27 (0,0))] _
     rw [hf]
     exact .cons .here (.cons .here (.cons .here .nil))
   | true =>
    rw [em] at lk
    have ht:=ht em
    clear hf
    (refine Jq<|Jr<|Jv rfl<|bF rfl rfl ae ?_;refine JL rfl bN rfl<|JA rfl<|Jn<|Jd rfl fun ar=>Jk<|Jq<|J0<|Jr<|Jv rfl<|Jv rfl<|ab (az (.of rfl) (.of rfl) rfl (by omega) ar ba) rfl ?_;refine ab (ag (.of rfl) (At.kz (.there .here) lk)) rfl ?_;refine Jn<|cB (.of rfl) ?_;refine Jg<|Jv rfl<|Jv rfl<|bb (aA (.cons (.of rfl) .nil) rfl rfl rfl rfl) rfl fun _ _=>?_)
    refine bB (.of rfl) (.of rfl) (.there .here) .here an (by rfl) (ed rfl) (by rfl) (by rfl) (by rfl) eH (by rfl) ?_
    intro v2
    refine Ja rfl<|Jx<|Jj<|Jt<|Jg<|Jv rfl<|JB rfl (by omega)<|Ja rfl<|Jn ?_
    apply aK (k+1,v2) (show k+1≤n from aL) (show n-(k+1)<n-k by omega)
    case hs1=>exact cd
    case ht=>
     show bo _ [row 3 1 v2 (AX B (k+1)).length ((AX B (k+1)).map (Value.int .i64)),bA bg (.cells (tU B).toArray 4 (0,0)),bA b4 (.cells #[.int .i64 r.lv,.int .i64 (n:Nat),.slice a1 r.sr.length dJ,.slice a2 r.de.length cU,.slice a3 r.ti.length dC,p] 27 (0,0))] _
     rw [ht,Zg,List.map_append]
     exact .cons .here (.cons (.there .here) (.cons (.there .here) .nil))
  obtain rfl:k=n:=by omega
  (refine Jq<|Jr<|Jv rfl<|bF rfl rfl ae ?_;refine JL rfl bN rfl<|JA rfl<|Jn<|Jc rfl fun ar=>Jp<|Jl<|Jo<|Jt<|Jr<|Jv rfl<|Ja rfl<|Ja rfl<|Jn<|Je ?_)
  rw [W1]
  first | with_reducible apply aM | with_reducible apply aN
  case he=>exact fF rfl rfl rfl
  case hR=>
   intro w' au
   exact aB v' trivial (by exact .cons .here .nil) au rfl
end Go.Proofs.A1
