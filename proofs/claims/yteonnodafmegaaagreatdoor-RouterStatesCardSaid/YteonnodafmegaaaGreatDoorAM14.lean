/- Parts of the proof: LV LW LX LY P6c P6e LZ MA MB MC. -/
import Derived.Test.YteonnodafmegaaaGreatDoorAM13
import Derived.Test.YteonnodafmegaaaGreatDoorAM04
import Derived.Test.YteonnodafmegaaaGreatDoorAM10
import Derived.Test.YteonnodafmegaaaGreatDoorAM12
import Derived.Test.YteonnodafmegaaaGreatDoorAM06
set_option linter.unusedSectionVars false
set_option linter.unusedVariables false
set_option linter.unusedSimpArgs false
namespace Go.Proofs.A1
open Go Go.SL
def rR (r:Ro) (v:Int) (o:ByteArray):ByteArray:=(sL r v o).headD ⟨#[]⟩
theorem xQ {r:Ro} {s d t p:Value} (v:Int) (o:ByteArray) (ho:o≠⟨#[]⟩) {w:World} (h:RR w r s d t p):aj Tryz.prog 131 [RA r s d t p,.int .i64 v,.string o] w (.string (rR r v o)):=by
 have h1:=Rd.one h.sr
 have h2:=Rd.one h.de
 have h3:=Rd.one h.ti
 have h4:=Rd.one h.po
 have Pm:∀ w',aF [] w w'→bd Tryz.prog 31 [.agg #[.int .i64 r.lv,.int .i64 r.ma,s,d,t,p],.int .i64 v,.string o] w' [] (fun _:Value=>True) id (fun x=>[row 9 1 x (sL r v o).length (aM (sL r v o))]):=fun w' hk=>yl v o ho (h.keeps hk)
 unfold rR
 generalize sL r v o=L at Pm ⊢
 unfold RA
 refine ah Tryz.func131 rfl rfl ?_
 (refine Jr<|Jy rfl rfl fun _ _=>Ja rfl<|Ji<|ab (cr .here) rfl ?_;refine Jv rfl<|Jv rfl ?_)
 refine JN dK rfl (fun w1 aJ=>Pm w1 aJ.keeps) ?_
 intro x _
 dsimp only [id_eq,List.cons_append,List.nil_append]
 cases L with
 | nil =>
  refine aW (E:=9) (sz:=1) (v:=x) (by exact .here) fun xa xc e=>?_
  subst e
  (refine Ja rfl<|Jn<|Jq<|Jr<|Jv rfl<|JI rfl<|JC rfl<|Jn<|fY rfl (fun aq=>?_) fun aq=>?_;refine Jr<|Ja rfl<|Jn<|Ju<|JT ?_;rotate_left;refine Jk<|Jr<|Jv rfl ?_;rotate_right)
  all_goals first | rfl | exact absurd rfl aq
 | cons y L =>
  refine db (E:=9) (sz:=1) (v:=x) (by exact .here) (by exact Nat.succ_pos _) ?_
  rintro g gc cur e df _ _ _
  subst e
  have jk:(aM (y::L)++cur)[0*1]? = some (.string y):=rfl
  have zj:(y::L).length=L.length+1:=rfl
  rw [zj]
  (refine Ja rfl<|Jn<|Jq<|Jr<|Jv rfl<|JI rfl<|JC rfl<|Jn<|Jc rfl fun aq=>Jk<|Jr<|Jv rfl<|ab (aC (.of rfl) (.of rfl) rfl (by omega) (by omega) bo) rfl ?_;refine JL rfl .here rfl<|Ja rfl<|Jn<|Je<|JT ?_)
  all_goals first | rfl | omega
def jV (r:Ro) (o:ByteArray):List ByteArray:=(List.range r.lv.toNat).map fun k=>rR r (k:Nat) o
theorem zl {r:Ro} {s d t p:Value} (o:ByteArray) (ho:o≠⟨#[]⟩) (zi:r.lv≤1000000) {w:World} (h:RR w r s d t p):bd Tryz.prog 30 [RA r s d t p,.string o] w [] (fun _:Value=>True) id (fun x=>[row 9 1 x (jV r o).length (aM (jV r o))]):=by
 have h1:=Rd.one h.sr
 have h2:=Rd.one h.de
 have h3:=Rd.one h.ti
 have h4:=Rd.one h.po
 have vB:∀ (v:Int) w',aF [] w w'→aj Tryz.prog 131 [.agg #[.int .i64 r.lv,.int .i64 r.ma,s,d,t,p],.int .i64 v,.string o] w' (.string (rR r v o)):=fun v w' hk=>xQ v o ho (h.keeps hk)
 unfold RA
 refine aR Tryz.func30 rfl rfl ?_
 refine Jr<|Jy rfl rfl fun _ _=>Ja rfl<|Ji<|Ja rfl<|Jn<|Jq<|Jr<|Ja rfl<|Jn<|J0 ?_
 rename_i b2 sQ
 refine aQ 9 1 ?_
 refine aX (ι:=Nat×Value) (fun y=>y.1≤r.lv.toNat) (fun y=>[(6,.int .i64 (y.1:Nat)),(5,y.2),(1,.string o),(2,.pointer (some ⟨b2,0,none⟩))]) (fun y=>[row 9 1 y.2 y.1 (aM ((jV r o).take y.1)),JQ b2 r s d t p]) (fun y=>r.lv.toNat-y.1) ?_ ?_
 ·apply aK (0,.slice none 0 0) (Nat.zero_le _)
  case hs1=>exact cn
  case ht=>
   exact .cons .here (.cons .here .nil)
 rintro ⟨k,v'⟩ hk
 dsimp only at hk ⊢
 have zj:(jV r o).length=r.lv.toNat:=by unfold jV;rw [List.length_map,List.length_range]
 by_cases aN:k<r.lv.toNat
 ·have CZ:((k:Nat):Int)<r.lv:=by omega
  have a7:aM ((jV r o).take (k+1))=aM ((jV r o).take k)++[.string (rR r (k:Nat) o)]:=by
   rw [List.take_succ_eq_append_getElem (by omega),dO]
   unfold jV
   rw [List.getElem_map,List.getElem_range];rfl
  have hlen:(aM ((jV r o).take k)).length=k*1:=by rw [cS,List.length_take];omega
  (refine Jq<|Jr<|Jv rfl<|bF rfl rfl ae ?_;refine JL rfl (.there .here) rfl<|JA rfl<|Jn<|Jd rfl fun aq=>Jk<|Jq<|J0<|Jg<|Jv rfl<|ab (cr (.there .here)) rfl ?_;refine Jv rfl<|Jv rfl<|ag dK rfl (fun w' az=>(vB _ w' (Mem.keeps az))) ?_;refine bb (aA (.cons (.of rfl) .nil) rfl rfl rfl rfl) rfl fun _ _=>?_)
  refine bz (.of rfl) (.of rfl) (.there .here) .here ak (by rfl) (dZ rfl) (by rfl) (by rfl) (by rfl) ep (by rfl) ?_
  intro z
  refine Ja rfl<|Jx<|Jj<|Jt<|Jg<|Jv rfl<|JB rfl (by omega)<|Ja rfl<|Jn ?_
  apply aL (k+1,z) (by show k+1≤r.lv.toNat;omega) (by show r.lv.toNat-(k+1)<r.lv.toNat-k;omega)
  case hs1=>exact cn
  case ht=>
   show bj _ [row 9 1 z (k+1) (aM ((jV r o).take (k+1))),JQ b2 r s d t p] _
   rw [a7]
   exact .cons .here (.cons (.there .here) .nil)
 ·obtain rfl:k=r.lv.toNat:=by omega
  rw [List.take_of_length_le (by omega),zj]
  (refine Jq<|Jr<|Jv rfl<|bF rfl rfl ae ?_;refine JL rfl (.there .here) rfl<|JA rfl<|Jn<|Jc rfl fun aq=>Jp<|Jl<|Jo<|Jt<|Jr<|Jv rfl<|Ja rfl<|Jn<|Je ?_)
  first | with_reducible apply aO | with_reducible apply aP
  case he=>exact dj rfl rfl
  case hR=>
   intro w' az
   exact aB v' trivial (by exact .cons .here .nil) az rfl
end Go.Proofs.A1
namespace Go.Proofs.A1
open Go Go.SL
def Ce (r:Ro) (v:Int) (so:ByteArray):List ByteArray:=(cm r).filter fun x=>decide (rR r v x=so)
theorem DA {r:Ro} {s d t p:Value} (v:Int) (so:ByteArray) (hne:∀ x∈cm r,x≠⟨#[]⟩) {w:World} (h:RR w r s d t p) (hf:mi r):bd Tryz.prog 33 [RA r s d t p,.int .i64 v,.string so] w [] (fun _:Value=>True) id (fun x=>[row 9 1 x (Ce r v so).length (aM (Ce r v so))]):=by
 have h1:=Rd.one h.sr
 have h2:=Rd.one h.de
 have h3:=Rd.one h.ti
 have h4:=Rd.one h.po
 have vB:∀ (o':ByteArray),o'≠⟨#[]⟩→∀ {w'},aF [] w w'→aj Tryz.prog 131 [.agg #[.int .i64 r.lv,.int .i64 r.ma,s,d,t,p],.int .i64 v,.string o'] w' (.string (rR r v o')):=fun o' ho _ hk=>xQ v o' ho (h.keeps hk)
 have hs:=h.de
 obtain ⟨a,cp,b,o',rfl,df,bO,ha,hc⟩:=hs
 rw [bX] at *
 obtain ⟨f1,f2,f3,f4⟩:=hf
 unfold maxLen at bO
 unfold RA
 refine aR Tryz.func33 rfl rfl ?_
 refine Jr<|Jy rfl rfl fun _ _=>Ja rfl<|Ji<|Ja rfl<|Jn<|Jq<|Jr<|Ja rfl<|Jn<|J0 ?_
 rename_i b3 rG
 refine aQ 9 1 ?_
 refine aX (ι:=Nat×Value×List ByteArray) (fun y=>y.1≤r.de.length∧y.2.2=((cm r).take y.1).filter fun x=>decide (rR r v x=so)) (fun y=>[(8,.int .i64 (y.1:Nat)),(7,y.2.1),(1,.int .i64 v),(2,.string so),(3,.pointer (some ⟨b3,0,none⟩))]) (fun y=>[row 9 1 y.2.1 y.2.2.length (aM y.2.2),JQ b3 r s (.slice a r.de.length cp) t p]) (fun y=>r.de.length-y.1) ?_ ?_
 ·apply aK (0,.slice none 0 0,[]) ⟨Nat.zero_le _,rfl⟩
  case hs1=>exact cn
  case ht=>
   exact .cons .here (.cons .here .nil)
 rintro ⟨k,v',L⟩ ⟨hk,hL⟩
 dsimp only at hk hL ⊢
 have n2:(cm r).length=r.de.length:=by unfold cm;rw [List.length_map]
 have Im:L.length≤k:=by
  rw [hL]
  exact Nat.le_trans (List.length_filter_le _ _) (by rw [List.length_take];omega)
 have hlen:(aM L).length=L.length*1:=by rw [cS];omega
 by_cases aN:k<r.de.length
 ·have cM:=ha (gm aN)
  have aD:=(hc k _ (fa aN)).2
  have hx:(cm r)[k]'(by omega)=(r.de[k]).nm:=by unfold cm;rw [List.getElem_map]
  have c0:w.cell? ⟨b,o'+k*3,none⟩=some (.string (r.de[k]).nm):=aD 0 _ rfl
  have C0:=sA (q:=fun x=>decide (rR r v x=so)) (l:=cm r) (k:=k) (by omega)
  rw [← hL,hx] at C0
  have mm:=fun {w'}=>vB (r.de[k]).nm (by rw [← hx];exact hne _ (List.getElem_mem _)) (w':=w')
  generalize (r.de[k]).nm=x at hx c0 C0 mm
  try dsimp only at C0
  (refine Jq<|Jr<|Jv rfl<|bF rfl rfl ae ?_;refine JL rfl (.there .here) rfl<|JI rfl<|JA rfl<|Jn<|Jd rfl fun aq=>Jk<|Jq<|J0<|Jq ?_)
  with_reducible refine dN 11 (by kernel_rfl) ?_
  (refine aH (cr (.there .here)) rfl ?_;refine kZ rfl rfl ?_;refine np rfl rfl ae ?_;refine aH (gp (.there .here)) rfl ?_;refine kZ rfl rfl ?_;refine aH (fM cM aq) rfl ?_;refine np rfl rfl ae ?_;refine aH (ai (.of rfl) (At.base c0 rfl)) rfl ?_;refine eZ dK rfl (fun w' az=>(mm (Mem.keeps az))) ?_;refine kZ rfl rfl ?_;refine aH (ee (.of rfl) (.of rfl)) rfl ?_)
  with_reducible refine dW ?_
  (refine Jn<|fY rfl (fun aq=>?_) fun aq=>?_;refine Jg<|Jv rfl<|bF rfl rfl ae ?_;refine JL rfl (.there .here) rfl<|Jv rfl<|ab (aC (.of rfl) (.of rfl) cM (by omega) (by assumption) bo) rfl ?_;refine bF rfl rfl ae ?_;refine ab (ai (.of rfl) (At.base c0 rfl)) rfl ?_;refine bb (aA (.cons (.of rfl) .nil) rfl rfl rfl rfl) rfl fun _ _=>?_;rotate_left;refine Jw<|Jj<|Jt<|Jg<|Jv rfl<|JB rfl (by omega)<|Ja rfl<|Jn ?_;rotate_right)
  ·have hq:rR r v x=so:=aq
   rw [if_pos (decide_eq_true hq)] at C0
   refine bz (.of rfl) (.of rfl) (.there .here) .here ak (by rfl) (dZ rfl) (by rfl) (by rfl) (by rfl) ep (by rfl) ?_
   intro z
   refine Ja rfl<|Jx<|Jj<|Jt<|Jg<|Jv rfl<|JB rfl (by omega)<|Ja rfl<|Jn ?_
   apply aL (k+1,z,L++[x]) ⟨by show k+1≤r.de.length;omega,C0.symm⟩ (by show r.de.length-(k+1)<r.de.length-k;omega)
   case hs1=>exact cn
   case ht=>
    show bj _ [row 9 1 z (L++[x]).length (aM (L++[x])),JQ b3 r s (.slice a r.de.length cp) t p] _
    rw [show aM (L++[x])=aM L++[.string x] from dO _ _,List.length_append,List.length_singleton]
    exact .cons .here (.cons (.there .here) .nil)
  ·have hq:¬ rR r v x=so:=aq
   rw [if_neg (by rw [decide_eq_false hq];decide),List.append_nil] at C0
   apply aL (k+1,v',L) ⟨by show k+1≤r.de.length;omega,C0.symm⟩ (by show r.de.length-(k+1)<r.de.length-k;omega)
   case hs1=>exact cn
   case ht=>
    exact .cons .here (.cons .here .nil)
 obtain rfl:k=r.de.length:=by omega
 have e:Ce r v so=L:=by
  rw [hL,List.take_of_length_le (by omega)];rfl
 rw [e]
 (refine Jq<|Jr<|Jv rfl<|bF rfl rfl ae ?_;refine JL rfl (.there .here) rfl<|JI rfl<|JA rfl<|Jn<|Jc rfl fun aq=>Jp<|Jl<|Jo<|Jt<|Jr<|Jv rfl<|Ja rfl<|Jn<|Je ?_)
 first | with_reducible apply aO | with_reducible apply aP
 case he=>exact dj rfl rfl
 case hR=>
  intro w' az
  exact aB v' trivial (by exact .cons .here .nil) az rfl
end Go.Proofs.A1
namespace Go.Proofs.A1
open Go Go.SL
theorem PW {lv:Value} {l:List ByteArray} (o:ByteArray) {w:World} (h:Rd w lv 1 (fg l)):aj Tryz.prog 59 [lv,.string o] w (.bool (iF l o)):=by
 obtain ⟨a,cp,b,o',rfl,df,bO,ha,hc⟩:=h
 rw [bV] at *
 unfold maxLen at bO
 refine ah Tryz.func59 rfl rfl ?_
 refine Jr<|Ja rfl<|Jn<|Jq<|Jr<|Ja rfl<|Jn<|J0 ?_
 refine aX (ι:=Nat) (fun k=>k≤l.length∧∀ j (hj:j<l.length),j<k→l[j]≠o) (fun k=>[(5,.int .i64 (k:Nat)),(0,.slice a l.length cp),(1,.string o)]) (fun _=>[]) (fun k=>l.length-k) ?_ ?_
 ·apply aK (0:Nat) ⟨Nat.zero_le _,fun j _ hj=>absurd hj (Nat.not_lt_zero _)⟩
  case hs1=>exact cn
  case ht=>(try simp only [List.take_zero,List.map_nil,List.nil_append]);exact .nil
 rintro k ⟨hk,hf⟩
 by_cases aN:k<l.length
 ·have cM:=ha (mw aN)
  have c0:w.cell? ⟨b,o'+k*1,none⟩=some (.string l[k]):=(hc k _ (jz aN)).2 0 _ rfl
  have hm:=List.getElem_mem aN
  have z7:l[k]≠o→∀ j (hj:j<l.length),j<k+1→l[j]≠o:=fun q j hj T3=>by
   by_cases e:j=k
   ·subst e;exact q
   ·exact hf j hj (by omega)
  generalize l[k]=x at c0 hm z7
  (refine Jq<|Jr<|Jv rfl<|Jv rfl<|JI rfl<|JA rfl<|Jn<|Jd rfl fun aq=>Jk<|Jq<|J0<|Jr<|Jv rfl<|Jv rfl<|ab (fM cM aq) rfl ?_;refine ab (ai (.of rfl) (At.base c0 rfl)) rfl ?_;refine Jv rfl<|ab (ee (.of rfl) (.of rfl)) rfl ?_;refine Jn<|fY rfl (fun aq=>?_) fun aq=>?_;refine Jr<|Ja rfl<|Jn<|Je<|Jm<|Jh<|Jh<|Jm<|Jh<|JT ?_;rotate_left;refine Jw<|Jj<|Jt<|Jg<|Jv rfl<|JB rfl (by omega)<|Ja rfl<|Jn ?_;rotate_right)
  ·have ss:x=o:=aq
   rw [eX.2 (ss ▸ hm)]
  ·have ss:¬ x=o:=aq
   apply aL (k+1) ⟨(show k+1≤l.length from aN),z7 ss⟩ (show l.length-(k+1)<l.length-k by omega)
   case hs1=>exact cn
   case ht=>(try simp only [List.take_zero,List.map_nil,List.nil_append]);exact .nil
 ·have e:iF l o=false:=by
   rw [← Bool.not_eq_true,eX]
   intro q
   obtain ⟨j,hj,e⟩:=List.getElem_of_mem q
   exact hf j hj (by omega) e
  obtain rfl:k=l.length:=by omega
  rw [e]
  refine Jq<|Jr<|Jv rfl<|Jv rfl<|JI rfl<|JA rfl<|Jn<|Jc rfl fun aq=>Jp<|Jl<|Jo<|Jt<|Jr<|Ja rfl<|Jn<|Je<|JT ?_
  rfl
end Go.Proofs.A1
namespace Go.Proofs.A1
open Go Go.SL
theorem D7 {r:Ro} {s d t p:Value} {w:World} (h:RR w r s d t p) (hf:mi r):bd Tryz.prog 77 [RA r s d t p] w [] (fun _:Value=>True) id (fun x=>[row 9 1 x (dX r).length (aM (dX r))]):=by
 have h1:=Rd.one h.sr
 have h2:=Rd.one h.de
 have h3:=Rd.one h.ti
 have h4:=Rd.one h.po
 have Fs:=h.sr
 have FA:=h.de
 have Bh:=h.ti
 obtain ⟨a1,eh,NW,M6,rfl,pg,iE,lo,jY⟩:=Fs
 obtain ⟨a2,dx,NV,M5,rfl,jX,eW,je,jH⟩:=FA
 obtain ⟨a3,dV,IX,Hg,rfl,mS,fX,sR,pL⟩:=Bh
 rw [cC] at *
 rw [bX] at *
 rw [bN] at *
 unfold maxLen at iE eW fX
 obtain ⟨f1,f2,f3,f4⟩:=hf
 unfold RA
 refine aR Tryz.func77 rfl rfl ?_
 refine Jr<|Jy rfl rfl fun _ _=>Ja rfl<|Ji<|Ja rfl<|Jn<|Jq<|Jr<|Ja rfl<|Jn<|J0 ?_
 rename_i b1 sy
 refine aQ 9 1 ?_
 refine aX (ι:=Nat×Value×List ByteArray) (fun y=>y.1≤r.sr.length∧y.2.2=([]:List ByteArray)++(cz r).take y.1) (fun y=>[(4,.int .i64 (y.1:Nat)),(3,y.2.1),(1,.pointer (some ⟨b1,0,none⟩))]) (fun y=>[row 9 1 y.2.1 y.2.2.length (aM y.2.2),JQ b1 r (.slice a1 r.sr.length eh) (.slice a2 r.de.length dx) (.slice a3 r.ti.length dV) p]) (fun y=>r.sr.length-y.1) ?_ ?_
 ·apply aK (0,.slice none 0 0,[]) ⟨Nat.zero_le _,rfl⟩
  case hs1=>exact cn
  case ht=>
   exact .cons .here (.cons .here .nil)
 rintro ⟨k,v1,L1⟩ ⟨hk,QR⟩
 dsimp only at hk QR ⊢
 have WN:(cz r).length=r.sr.length:=by unfold cz;rw [List.length_map]
 by_cases aN:k<r.sr.length
 ·have Im:L1.length=(([]:List ByteArray)).length+k:=by rw [QR,List.length_append,List.length_take];omega
  have XB:L1.length≤3000000:=by rw [Im];simp only [List.length_nil];omega
  have hlen:(aM L1).length=L1.length*1:=by rw [cS];omega
  have cM:=lo (im aN)
  have c0:w.cell? ⟨NW,M6+k*2,none⟩=some (.string (r.sr[k]).nm):=(jY k _ (fD aN)).2 0 _ rfl
  have hx:(cz r)[k]'(by omega)=(r.sr[k]).nm:=by unfold cz;rw [List.getElem_map]
  have tD:L1++[(r.sr[k]).nm]=([]:List ByteArray)++(cz r).take (k+1):=by rw [List.take_succ_eq_append_getElem (by omega),hx,← List.append_assoc,← QR]
  generalize (r.sr[k]).nm=x at c0 hx tD
  (refine Jq<|Jr<|Jv rfl<|bF rfl rfl ae ?_;refine JL rfl (.there .here) rfl<|JI rfl<|JA rfl<|Jn<|Jd rfl fun aq=>Jk<|Jq<|J0<|Jg<|Jv rfl<|bF rfl rfl ae ?_;refine JL rfl (.there .here) rfl<|Jv rfl<|ab (fM cM aq) rfl ?_;refine bF rfl rfl ae ?_;refine ab (ai (.of rfl) (At.base c0 rfl)) rfl ?_;refine bb (aA (.cons (.of rfl) .nil) rfl rfl rfl rfl) rfl fun _ _=>?_)
  refine bz (.of rfl) (.of rfl) (.there .here) .here ak (by rfl) (dZ rfl) (by rfl) (by rfl) (by rfl) ep (by rfl) ?_
  intro z
  refine Ja rfl<|Jx<|Jj<|Jt<|Jg<|Jv rfl<|JB rfl (by omega)<|Ja rfl<|Jn ?_
  apply aL (k+1,z,L1++[x]) ⟨by show k+1≤r.sr.length;omega,tD⟩ (by show r.sr.length-(k+1)<r.sr.length-k;omega)
  case hs1=>exact cn
  case ht=>
   show bj _ [row 9 1 z (L1++[x]).length (aM (L1++[x])),JQ b1 r (.slice a1 r.sr.length eh) (.slice a2 r.de.length dx) (.slice a3 r.ti.length dV) p] _
   rw [show aM (L1++[x])=aM L1++[.string x] from dO _ _,List.length_append,List.length_singleton]
   exact .cons .here (.cons (.there .here) .nil)
 obtain rfl:k=r.sr.length:=by omega
 rw [List.take_of_length_le (by omega)] at QR
 clear hk aN
 (refine Jq<|Jr<|Jv rfl<|bF rfl rfl ae ?_;refine JL rfl (.there .here) rfl<|JI rfl<|JA rfl<|Jn<|Jc rfl fun aq=>Jp<|Jl<|Jo<|Jt<|Jq<|Jr<|Ja rfl<|Jn<|J0 ?_)
 rw [List.nil_append] at QR
 refine aX (ι:=Nat×Value×List ByteArray) (fun y=>y.1≤r.de.length∧y.2.2=cz r++(cm r).take y.1) (fun y=>[(5,.int .i64 (y.1:Nat)),(3,y.2.1),(1,.pointer (some ⟨b1,0,none⟩))]) (fun y=>[row 9 1 y.2.1 y.2.2.length (aM y.2.2),JQ b1 r (.slice a1 r.sr.length eh) (.slice a2 r.de.length dx) (.slice a3 r.ti.length dV) p]) (fun y=>r.de.length-y.1) ?_ ?_
 ·apply aK (0,v1,L1) ⟨Nat.zero_le _,by rw [List.take_zero,List.append_nil];exact QR⟩
  case hs1=>exact cn
  case ht=>
   exact .cons .here (.cons .here .nil)
 rintro ⟨k,v2,L2⟩ ⟨hk,tD⟩
 dsimp only at hk tD ⊢
 have YM:(cm r).length=r.de.length:=by unfold cm;rw [List.length_map]
 by_cases aN:k<r.de.length
 ·have Im:L2.length=(cz r).length+k:=by rw [tD,List.length_append,List.length_take];omega
  have XB:L2.length≤3000000:=by rw [Im];rw [WN];omega
  have hlen:(aM L2).length=L2.length*1:=by rw [cS];omega
  have cM:=je (gm aN)
  have c0:w.cell? ⟨NV,M5+k*3,none⟩=some (.string (r.de[k]).nm):=(jH k _ (fa aN)).2 0 _ rfl
  have hx:(cm r)[k]'(by omega)=(r.de[k]).nm:=by unfold cm;rw [List.getElem_map]
  have tD:L2++[(r.de[k]).nm]=cz r++(cm r).take (k+1):=by rw [List.take_succ_eq_append_getElem (by omega),hx,← List.append_assoc,← tD]
  generalize (r.de[k]).nm=x at c0 hx tD
  (refine Jq<|Jr<|Jv rfl<|bF rfl rfl ae ?_;refine JL rfl (.there .here) rfl<|JI rfl<|JA rfl<|Jn<|Jd rfl fun aq=>Jk<|Jq<|J0<|Jg<|Jv rfl<|bF rfl rfl ae ?_;refine JL rfl (.there .here) rfl<|Jv rfl<|ab (fM cM aq) rfl ?_;refine bF rfl rfl ae ?_;refine ab (ai (.of rfl) (At.base c0 rfl)) rfl ?_;refine bb (aA (.cons (.of rfl) .nil) rfl rfl rfl rfl) rfl fun _ _=>?_)
  refine bz (.of rfl) (.of rfl) (.there .here) .here ak (by rfl) (dZ rfl) (by rfl) (by rfl) (by rfl) ep (by rfl) ?_
  intro z
  refine Ja rfl<|Jx<|Jj<|Jt<|Jg<|Jv rfl<|JB rfl (by omega)<|Ja rfl<|Jn ?_
  apply aL (k+1,z,L2++[x]) ⟨by show k+1≤r.de.length;omega,tD⟩ (by show r.de.length-(k+1)<r.de.length-k;omega)
  case hs1=>exact cn
  case ht=>
   show bj _ [row 9 1 z (L2++[x]).length (aM (L2++[x])),JQ b1 r (.slice a1 r.sr.length eh) (.slice a2 r.de.length dx) (.slice a3 r.ti.length dV) p] _
   rw [show aM (L2++[x])=aM L2++[.string x] from dO _ _,List.length_append,List.length_singleton]
   exact .cons .here (.cons (.there .here) .nil)
 obtain rfl:k=r.de.length:=by omega
 rw [List.take_of_length_le (by omega)] at tD
 clear hk aN
 (refine Jq<|Jr<|Jv rfl<|bF rfl rfl ae ?_;refine JL rfl (.there .here) rfl<|JI rfl<|JA rfl<|Jn<|Jc rfl fun aq=>Jp<|Jl<|Jo<|Jt<|Jq<|Jr<|Ja rfl<|Jn<|J0 ?_)
 refine aX (ι:=Nat×Value×List ByteArray) (fun y=>y.1≤r.ti.length∧y.2.2=(cz r++cm r)++(cK r).take y.1) (fun y=>[(6,.int .i64 (y.1:Nat)),(3,y.2.1),(1,.pointer (some ⟨b1,0,none⟩))]) (fun y=>[row 9 1 y.2.1 y.2.2.length (aM y.2.2),JQ b1 r (.slice a1 r.sr.length eh) (.slice a2 r.de.length dx) (.slice a3 r.ti.length dV) p]) (fun y=>r.ti.length-y.1) ?_ ?_
 ·apply aK (0,v2,L2) ⟨Nat.zero_le _,by rw [List.take_zero,List.append_nil];exact tD⟩
  case hs1=>exact cn
  case ht=>
   exact .cons .here (.cons .here .nil)
 rintro ⟨k,v3,L3⟩ ⟨hk,NC⟩
 dsimp only at hk NC ⊢
 have nn3:(cK r).length=r.ti.length:=by unfold cK;rw [List.length_map]
 by_cases aN:k<r.ti.length
 ·have Im:L3.length=((cz r++cm r)).length+k:=by rw [NC,List.length_append,List.length_take];omega
  have XB:L3.length≤3000000:=by rw [Im];rw [List.length_append,WN,YM];omega
  have hlen:(aM L3).length=L3.length*1:=by rw [cS];omega
  have cM:=sR (eT aN)
  have c0:w.cell? ⟨IX,Hg+k*3,none⟩=some (.string (r.ti[k]).nm):=(pL k _ (ed aN)).2 0 _ rfl
  have hx:(cK r)[k]'(by omega)=(r.ti[k]).nm:=by unfold cK;rw [List.getElem_map]
  have tD:L3++[(r.ti[k]).nm]=(cz r++cm r)++(cK r).take (k+1):=by rw [List.take_succ_eq_append_getElem (by omega),hx,← List.append_assoc,← NC]
  generalize (r.ti[k]).nm=x at c0 hx tD
  (refine Jq<|Jr<|Jv rfl<|bF rfl rfl ae ?_;refine JL rfl (.there .here) rfl<|JI rfl<|JA rfl<|Jn<|Jd rfl fun aq=>Jk<|Jq<|J0<|Jg<|Jv rfl<|bF rfl rfl ae ?_;refine JL rfl (.there .here) rfl<|Jv rfl<|ab (fM cM aq) rfl ?_;refine bF rfl rfl ae ?_;refine ab (ai (.of rfl) (At.base c0 rfl)) rfl ?_;refine bb (aA (.cons (.of rfl) .nil) rfl rfl rfl rfl) rfl fun _ _=>?_)
  refine bz (.of rfl) (.of rfl) (.there .here) .here ak (by rfl) (dZ rfl) (by rfl) (by rfl) (by rfl) ep (by rfl) ?_
  intro z
  refine Ja rfl<|Jx<|Jj<|Jt<|Jg<|Jv rfl<|JB rfl (by omega)<|Ja rfl<|Jn ?_
  apply aL (k+1,z,L3++[x]) ⟨by show k+1≤r.ti.length;omega,tD⟩ (by show r.ti.length-(k+1)<r.ti.length-k;omega)
  case hs1=>exact cn
  case ht=>
   show bj _ [row 9 1 z (L3++[x]).length (aM (L3++[x])),JQ b1 r (.slice a1 r.sr.length eh) (.slice a2 r.de.length dx) (.slice a3 r.ti.length dV) p] _
   rw [show aM (L3++[x])=aM L3++[.string x] from dO _ _,List.length_append,List.length_singleton]
   exact .cons .here (.cons (.there .here) .nil)
 obtain rfl:k=r.ti.length:=by omega
 rw [List.take_of_length_le (by omega)] at NC
 clear hk aN
 (refine Jq<|Jr<|Jv rfl<|bF rfl rfl ae ?_;refine JL rfl (.there .here) rfl<|JI rfl<|JA rfl<|Jn<|Jc rfl fun aq=>Jp<|Jl<|Jo<|Jt<|Jr<|Jv rfl<|Ja rfl<|Jn<|Je ?_)
 have e:dX r=L3:=NC.symm
 rw [e]
 first | with_reducible apply aO | with_reducible apply aP
 case he=>exact dj rfl rfl
 case hR=>
  intro w' az
  exact aB v3 trivial (by exact .cons .here .nil) az rfl
end Go.Proofs.A1
namespace Go.Proofs.A1
open Go Go.SL
theorem tH {r:Ro} (h:fN r=0):FW r:=prt (rQ h).2.1
theorem Ng {r:Ro} (h:fN r=0):∀ p∈r.po,p.ip≠⟨#[]⟩:=fun p hp=>
 (tH h).ne (((xj h).val.vR p hp).elim .inl fun q=>.inr (.inr q))
theorem Dj {r:Ro} (h:fN r=0) {v:Int} {o:ByteArray} (ho:o≠⟨#[]⟩):oe r.po v 8 o=o::eM r.po v 7 o:=tI (Ng h) 7 ho
theorem WA {r:Ro} (h:fN r=0) (v:Int) (o:ByteArray):eM r.po v 7 o=eM r.po v (r.ti.length+1) o:=by
 have hti:(cK r).length=r.ti.length:=by unfold cK;rw [List.length_map]
 have h6:=(xj h).len.2.2
 have:=(xj h).val.XP.short (xj h).xo v o 7 (by omega)
 rw [hti] at this
 exact this
theorem BJ {r:Ro} (h:fN r=0) {v:Int} {o:ByteArray} (ho:o≠⟨#[]⟩):(oe r.po v 8 o).getLastD ⟨#[]⟩=gl r.po v 7 o:=by
 rw [Dj h ho,List.getLastD_cons]
 unfold gl
 cases eM r.po v 7 o with
 | nil=>rfl
 | cons a l=>rw [List.getLastD_eq_getLast?]
theorem EG {r:Ro} (h:fN r=0) (v:Int) {o:ByteArray} (ho:o≠⟨#[]⟩):rR r v o=kQ r v o:=by
 rw [vf (xj h).xo (xj h).val]
 unfold rR sL qh
 rw [BJ h ho,Dj h ho]
 split
 ·rfl
 ·rw [List.reverse_cons]
  unfold gl
  cases e:eM r.po v 7 o with
  | nil=>rfl
  | cons a l =>
   rw [List.headD_eq_head?_getD,List.head?_append,List.head?_reverse]
   cases q:(a::l).getLast? with
   | none=>exact absurd (List.getLast?_eq_none_iff.1 q) (by simp)
   | some y=>rfl
theorem qS {r:Ro} (h:fN r=0) {o:ByteArray} (ho:o≠⟨#[]⟩):jV r o=cu r o:=by
 unfold jV cu
 exact List.map_congr_left fun k _=>EG h k ho
theorem DE {r:Ro} (h:fN r=0) (v:Int) {o:ByteArray} (ho:o∈cm r):sL r v o=Gh r v o:=by
 have hne:o≠⟨#[]⟩:=(tH h).ne (.inr (.inl ho))
 unfold sL Gh
 rw [BJ h hne,Dj h hne,← WA h v o]
 cases e:dY r.po v o with
 | none =>
  rw [oO e,q5 e,if_pos rfl,if_pos (bT.2 fun q=>(xj h).xo.sd _ q ho)]
 | some i =>
  have hs:=EF (xj h).xo (xj h).val 7 o (jf _ _ _ _) (by rw [e];rfl)
  rw [if_neg (by rw [bT];exact not_not_intro hs),if_neg (by rw [kN e];simp),List.reverse_cons]
theorem tJ {r:Ro} (h:fN r=0) (v:Int):zM r v=(cK r).filter (iT r.po v):=by
 unfold zM
 refine List.filter_congr fun x _=>?_
 unfold iT
 cases e:dY r.po v x with
 | none=>rfl
 | some i =>
  obtain ⟨p,hp,_,_,rfl⟩:=eV e
  simpa using Ng h p hp
theorem DB {r:Ro} (h:fN r=0) (v:Int) (so:ByteArray):Ce r v so=(cm r).filter fun x=>decide (kQ r v x=so):=by
 unfold Ce
 refine List.filter_congr fun x hx=>?_
 rw [EG h v ((tH h).ne (.inr (.inl hx)))]
def Wx (r:Ro):Int:=if mG r≠0 then mG r else if js r≠0 then js r else yM r
theorem Qi (r:Ro):Wx r=fN r:=by
 unfold Wx fN
 by_cases h1:mG r=0
 ·rw [if_neg (not_not_intro h1),if_neg (not_not_intro h1)]
  by_cases h2:js r=0
  ·rw [if_neg (not_not_intro h2),if_neg (not_not_intro h2),Lf (prt h2)]
  ·rw [if_pos h2,if_pos h2]
 ·rw [if_pos h1,if_pos h1]
end Go.Proofs.A1
namespace Go.Proofs.A1
open Go Go.SL
def yL (r:Ro) (k:Nat):Int:=((dX r)[k]?.map fun x=>aV [bS (!jD x) 8,bS (iF ((dX r).take k) x) 9]).getD 0
theorem Le {r:Ro} {k:Nat} (h:k<(dX r).length):yL r k=aV [bS (!jD (dX r)[k]) 8,bS (iF ((dX r).take k) (dX r)[k]) 9]:=by
 unfold yL;rw [List.getElem?_eq_getElem h];rfl
theorem rL (a b:Int) (l:List Int):aV (aV [a,b]::l)=aV (a::b::l):=by
 by_cases ha:a=0
 ·subst ha
  have e:aV [0,b]=b:=by
   unfold aV;rw [if_neg (by decide)]
   unfold aV
   split
   ·rfl
   ·rename_i q;rw [Decidable.not_not] at q;rw [q];rfl
  rw [e]
  conv=>rhs;unfold aV
  rw [if_neg (by decide)]
 ·have e:aV [a,b]=a:=by unfold aV;rw [if_pos ha]
  rw [e]
  unfold aV
  rw [if_pos ha,if_pos ha]
theorem C7 (a b:Int) (l:List Int):aV [a,b,aV l]=aV (a::b::l):=by
 have h1:∀ x:Int,∀ m,aV (x::m)=if x≠0 then x else aV m:=fun x m=>by rw [aV]
 have h2:∀ x:Int,aV [x]=x:=fun x=>by
  rw [h1]
  split
  ·rfl
  ·rename_i q;rw [Decidable.not_not] at q;rw [q];rfl
 rw [h1,h1 b,h2,h1 a,h1 b]
theorem I9 (r:Ro):(dX r).length=r.sr.length+r.de.length+r.ti.length:=by
 unfold dX cz cm cK
 simp only [List.length_append,List.length_map]
theorem I8 {r:Ro} {k:Nat} (h:k<r.sr.length):(dX r)[k]? = some (r.sr[k]).nm∧(dX r).take k=[]++(r.sr.take k).map Sr.nm:=by
 have e1:(cz r).length=r.sr.length:=by unfold cz;rw [List.length_map]
 unfold dX
 rw [List.append_assoc]
 refine ⟨?_,?_⟩
 ·rw [List.getElem?_append_left (by omega)]
  unfold cz
  rw [List.getElem?_map,List.getElem?_eq_getElem h];rfl
 ·rw [List.take_append_of_le_length (by omega)]
  unfold cz
  rw [List.map_take];rfl
theorem Jf {r:Ro} {k:Nat} (h:k<r.de.length):(dX r)[r.sr.length+k]? = some (r.de[k]).nm∧(dX r).take (r.sr.length+k)=cz r++(r.de.take k).map De.nm:=by
 have e1:(cz r).length=r.sr.length:=by unfold cz;rw [List.length_map]
 have e2:(cm r).length=r.de.length:=by unfold cm;rw [List.length_map]
 unfold dX
 rw [List.append_assoc]
 refine ⟨?_,?_⟩
 ·rw [List.getElem?_append_right (by omega),List.getElem?_append_left (by omega),show r.sr.length+k-(cz r).length=k by omega]
  unfold cm
  rw [List.getElem?_map,List.getElem?_eq_getElem h];rfl
 ·rw [← e1,List.take_length_add_append,List.take_append_of_le_length (by omega)]
  unfold cm
  rw [List.map_take]
theorem I7 {r:Ro} {k:Nat} (h:k<r.ti.length):(dX r)[r.sr.length+r.de.length+k]? = some (r.ti[k]).nm∧(dX r).take (r.sr.length+r.de.length+k)=(cz r++cm r)++(r.ti.take k).map Ti.nm:=by
 have e1:(cz r++cm r).length=r.sr.length+r.de.length:=by unfold cz cm;rw [List.length_append,List.length_map,List.length_map]
 have e2:(cK r).length=r.ti.length:=by unfold cK;rw [List.length_map]
 unfold dX
 refine ⟨?_,?_⟩
 ·rw [List.getElem?_append_right (by omega),e1,show r.sr.length+r.de.length+k-(r.sr.length+r.de.length)=k by omega]
  unfold cK
  rw [List.getElem?_map,List.getElem?_eq_getElem h];rfl
 ·rw [← e1,List.take_length_add_append]
  unfold cK
  rw [List.map_take]
theorem CC {r:Ro} {j:Nat} {x:ByteArray} {l:List ByteArray} (h:(dX r)[j]? = some x) (h2:(dX r).take j=l):yL r j=aV [bS (!jD x) 8,bS (iF l x) 9]:=by
 unfold yL;rw [h,h2];rfl
theorem Rn {r:Ro} {k:Nat} (h:k<r.sr.length):aV [yL r k,eP r (r.sr[k]).mx]=vO [] Sr.nm (fun x=>eP r x.mx) r.sr k:=by
 rw [nG h,CC (I8 h).1 (I8 h).2,rL]
theorem Rp {r:Ro} {k:Nat} (h:k<r.de.length):aV [yL r (r.sr.length+k),eP r (r.de[k]).mx]=vO (cz r) De.nm (fun x=>eP r x.mx) r.de k:=by
 rw [nG h,CC (Jf h).1 (Jf h).2,rL]
theorem Rm {r:Ro} {k:Nat} (h:k<r.ti.length):aV [yL r (r.sr.length+r.de.length+k),eP r (r.ti[k]).fr,eP r (r.ti[k]).to,bS (decide ((r.ti[k]).fr=(r.ti[k]).to)) 24]=vO (cz r++cm r) Ti.nm (mX r) r.ti k:=by
 rw [nG h,CC (I7 h).1 (I7 h).2,rL]
 unfold mX
 rw [C7]
theorem CD {r:Ro} (h1:eN 8 [] Sr.nm (fun x=>eP r x.mx) r.sr=0) (h2:eN 8 (cz r) De.nm (fun x=>eP r x.mx) r.de=0):js r=eN 6 (cz r++cm r) Ti.nm (mX r) r.ti:=by
 rw [TK h1 h2]
 unfold aV
 split
 ·rfl
 ·rename_i q;rw [Decidable.not_not] at q;rw [q];rfl
end Go.Proofs.A1
namespace Go.Proofs.A1
open Go Go.SL
theorem OG {c:Cx} {hs hs':List ba} {w:World} (hm:Mem c hs w) {g gc:Nat} {L:List ByteArray} {cur:List Value} {E:TypeId} {fz:Nat×Nat} (ht:Take hs (bD g (.cells (aM L++cur).toArray E fz)) hs') (hc:L.length≤gc) (hx:gc≤maxLen):Rd w (.slice (some ⟨g,0,none⟩) L.length gc) 1 (fg L):=by
 refine ⟨_,gc,g,0,by rw [bV],by rw [bV];exact hc,hx,fun _=>rfl,fun i r hr=>?_⟩
 have hi:=(List.getElem?_eq_some_iff.1 hr).1
 rw [bV] at hi
 rw [jz hi] at hr
 obtain rfl:=Option.some.inj hr
 refine ⟨rfl,fun j u hu=>?_⟩
 cases j with
 | zero =>
  simp only [List.getElem?_cons_zero,Option.some.injEq] at hu
  subst hu
  rw [cell_of_block (hm.bD ht)]
  simp [aM,List.getElem?_append_left,hi]
 | succ j=>simp at hu
theorem G0 {c:Cx} {hs hs':List ba} {w:World} (hm:Mem c hs w) {g gc:Nat} {L:List ByteArray} {cur:List Value} {E:TypeId} {fz:Nat×Nat} (ht:Take hs (bD g (.cells (aM L++cur).toArray E fz)) hs') (hc:L.length≤gc) (hx:gc≤maxLen) {k:Nat} (hk:k≤L.length):Rd w (Go.sliced (some ⟨g,0,none⟩) 0 (k:Int).toNat gc 1) 1 (fg (L.take k)):=by
 have:=(OG hm ht hc hx).sliced (l:=0) (m:=k) (Nat.zero_le _) hk
 rw [Int.toNat_natCast]
 rwa [List.drop_zero,show (fg L).take k=fg (L.take k) by unfold fg;rw [List.map_take]] at this
theorem IP {r:Ro} {s d t p:Value} (m:Int) {w w1:World} (h:RR w1 r s d t p):aj Tryz.prog 162 [RA r s d t p,.int .i64 m] w (.int .i64 (eP r m)):=by
 have h1:=Rd.one h.sr
 have h2:=Rd.one h.de
 have h3:=Rd.one h.ti
 have h4:=Rd.one h.po
 unfold RA
 refine ah Tryz.func162 rfl rfl ?_
 (refine Jr<|Jy rfl rfl fun _ _=>Ja rfl<|Ji<|Jv rfl<|JA rfl<|Jv rfl<|jT rfl rfl rfl rfl ?_;refine aI rfl rfl inferInstance (fun hg bL=>(ar (.of rfl) ae)) rfl ?_;refine aI rfl rfl inferInstance (fun hg bL=>(ai (.cA hg rfl) (At.lit .here rfl))) rfl ?_;refine aI rfl rfl inferInstance (fun hg bL=>(yH (.cA hg rfl) (.cA hg rfl))) rfl ?_;refine ab (bW (.of rfl) rfl) rfl ?_;refine ag aZ rfl (fun w' az=>(lz _ 10 w')) ?_;refine Ja rfl<|Jn<|Je<|JT ?_)
 rfl
theorem BI {r:Ro} {s d t p:Value} (k:Nat) {w:World} (h:RR w r s d t p) (hf:mi r) (hk:k<(dX r).length):aj Tryz.prog 229 [RA r s d t p,.int .i64 (k:Nat)] w (.int .i64 (yL r k)):=by
 have h1:=Rd.one h.sr
 have h2:=Rd.one h.de
 have h3:=Rd.one h.ti
 have h4:=Rd.one h.po
 have B3:∀ w',aF [] w w'→bd Tryz.prog 77 [.agg #[.int .i64 r.lv,.int .i64 r.ma,s,d,t,p]] w' [] (fun _:Value=>True) id (fun x=>[row 9 1 x (dX r).length (aM (dX r))]):=fun w' hk=>D7 (h.keeps hk) hf
 rw [Le hk]
 have zj:(dX r).length≤3000000:=by
  obtain ⟨f1,f2,f3,f4⟩:=hf
  unfold dX cz cm cK
  simp only [List.length_append,List.length_map]
  omega
 generalize dX r=L at B3 hk zj ⊢
 have VD:k≤L.length:=by omega
 unfold RA
 refine ah Tryz.func229 rfl rfl ?_
 refine Jr<|Jy rfl rfl fun _ _=>Ja rfl<|Ji<|ab (cr .here) rfl ?_
 refine JN bC rfl (fun w1 aJ=>B3 w1 aJ.keeps) ?_
 intro x _
 dsimp only [id_eq,List.cons_append,List.nil_append]
 refine db (E:=9) (sz:=1) (v:=x) (by exact .here) (by omega) ?_
 rintro g gc cur e df zh _ _
 subst e
 have jk:(aM L++cur)[k*1]? = some (.string L[k]):=ql L cur hk
 refine Ja rfl<|Jn<|Jq ?_
 with_reducible refine cQ 15 (by kernel_rfl) ?_
 (refine an lx rfl ?_;refine an lx rfl ?_;refine an (aC (.of rfl) (.of rfl) rfl (by omega) (by omega) bo) rfl ?_;refine an (ai (.of rfl) (At.mO .here jk)) rfl ?_;refine aU bC rfl (fun w' az=>(UJ _ w')) ?_;refine an lx rfl ?_;refine an lx rfl ?_;refine an (gI (.of rfl) (.of rfl) (by omega) (by omega)) rfl ?_;refine an lx rfl ?_;refine an lx rfl ?_;refine an (aC (.of rfl) (.of rfl) rfl (by omega) (by omega) bo) rfl ?_;refine an (ai (.of rfl) (At.mO .here jk)) rfl ?_;refine aU aZ rfl (fun w' az=>(PW _ (G0 az .here df zh VD))) ?_;refine aU aZ rfl (fun w' az=>(lz _ 9 w')) ?_;refine en (aA (.cons (.of rfl) (.cons (.of rfl) .nil)) rfl rfl rfl rfl) rfl rfl ?_)
 with_reducible refine dy rfl fun bq mT=>?_
 (refine ag bC rfl (fun w' az=>(l7 (Mem.dh az .here rfl rfl) (bU.cons (bU.cons bU.nil)))) ?_;refine Ja rfl<|Jn<|Je<|JT ?_)
 rfl
set_option maxHeartbeats 1000000 in
theorem zG {r:Ro} {s d t p:Value} {w:World} (h:RR w r s d t p) (hf:mi r):aj Tryz.prog 127 [RA r s d t p] w (.int .i64 (js r)):=by
 have h1:=Rd.one h.sr
 have h2:=Rd.one h.de
 have h3:=Rd.one h.ti
 have h4:=Rd.one h.po
 have Px:∀ k,k<(dX r).length→∀ w',aF [] w w'→aj Tryz.prog 229 [.agg #[.int .i64 r.lv,.int .i64 r.ma,s,d,t,p],.int .i64 (k:Nat)] w' (.int .i64 (yL r k)):=fun k hk w' VD=>BI k (h.keeps VD) hf hk
 have jd:∀ (m:Int) {w'},aF [] w w'→aj Tryz.prog 162 [.agg #[.int .i64 r.lv,.int .i64 r.ma,s,d,t,p],.int .i64 m] w' (.int .i64 (eP r m)):=fun m _ hk=>IP m (h.keeps hk)
 have dR:=I9 r
 have Fs:=h.sr
 have FA:=h.de
 have Bh:=h.ti
 obtain ⟨a1,eh,NW,M6,rfl,pg,iE,lo,jY⟩:=Fs
 obtain ⟨a2,dx,NV,M5,rfl,jX,eW,je,jH⟩:=FA
 obtain ⟨a3,dV,IX,Hg,rfl,mS,fX,sR,pL⟩:=Bh
 rw [cC] at *
 rw [bX] at *
 rw [bN] at *
 unfold maxLen at iE eW fX
 obtain ⟨f1,f2,f3,f4⟩:=hf
 unfold RA
 refine ah Tryz.func127 rfl rfl ?_
 (refine Jr<|Jy rfl rfl fun _ _=>Ja rfl<|Ji<|Ja rfl<|Jn<|Jq<|Jr<|bF rfl rfl ae ?_;refine JL rfl .here rfl<|JI rfl<|JE rfl<|Jn<|fY rfl (fun aq=>?_) fun aq=>?_;refine Jr<|Ja rfl<|Jn<|Ju<|JT ?_;rotate_left;refine Jk<|Jq<|Jr<|Ja rfl<|Jn<|J0 ?_;rotate_right)
 ·skip
  have e:eN 8 [] Sr.nm (fun x=>eP r x.mx) r.sr=5:=by unfold eN;rw [if_pos (show (8:Int)<(r.sr.length:Int) by omega)]
  rw [UC (by rw [e];decide),e]
 rename_i b1 sy
 refine aX (ι:=Nat) (fun x=>x≤r.sr.length∧∀ i,i<x→vO [] Sr.nm (fun x=>eP r x.mx) r.sr i=0) (fun x=>[(4,.int .i64 (x:Nat)),(3,.int .i64 ((x:Nat):Int)),(1,.pointer (some ⟨b1,0,none⟩))]) (fun x=>[JQ b1 r (.slice a1 r.sr.length eh) (.slice a2 r.de.length dx) (.slice a3 r.ti.length dV) p]) (fun x=>r.sr.length-x) ?_ ?_
 ·apply aK (0:Nat) ⟨Nat.zero_le _,fun i h=>absurd h (Nat.not_lt_zero _)⟩
  case hs1=>exact cn
  case ht=>(try simp only [List.take_zero,List.map_nil,List.nil_append]);exact .cons .here .nil
 rintro k ⟨hk,hz⟩
 by_cases aN:k<r.sr.length
 ·have cM:=lo (im aN)
  obtain ⟨iD,aD⟩:=jY k _ (fD aN)
  unfold Sr.cells at aD
  have XL:=aD 0 _ rfl
  have Um:=aD 1 _ rfl
  have Py:=Px (k) (by omega)
  have hq:=Rn (r:=r) aN
  (refine Jq<|Jr<|Jv rfl<|bF rfl rfl ae ?_;refine JL rfl .here rfl<|JI rfl<|JA rfl<|Jn<|Jd rfl fun aq=>Jk<|Jq<|J0<|Jq<|Jq ?_)
  with_reducible refine cQ 12 (by kernel_rfl) ?_
  (refine an (cr .here) rfl ?_;refine an lx rfl ?_;refine aU aZ rfl (fun w' az=>(Py w' (Mem.keeps az))) ?_;refine an (cr .here) rfl ?_;refine an kr rfl ?_;refine an (gp .here) rfl ?_;refine an lx rfl ?_;refine an (fM cM aq) rfl ?_;refine an kr rfl ?_;refine an (ai (.of rfl) (At.base Um rfl)) rfl ?_;refine aU aZ rfl (fun w' az=>(jd _ (Mem.keeps az))) ?_;refine en (aA (.cons (.of rfl) (.cons (.of rfl) .nil)) rfl rfl rfl rfl) rfl rfl ?_)
  with_reducible refine dy rfl fun bq mT=>?_
  (refine ag bC rfl (fun w' az=>(l7 (Mem.dh az .here rfl rfl) (bU.cons (bU.cons bU.nil)))) ?_;refine Ja rfl<|Ji<|Jv rfl<|JD rfl<|Jn<|fY rfl (fun aq=>?_) fun aq=>?_;refine Jr<|Jv rfl<|Ja rfl<|Jn<|Ju<|Jm<|Jh<|Jh<|Jm<|Jh<|JT ?_;rotate_left;refine Jk<|Jg<|Jv rfl<|JB rfl (by omega)<|Ja rfl<|Jx<|Jj<|Jt<|Jg<|Jv rfl<|JB rfl (by omega)<|Ja rfl<|Jn ?_;rotate_right)
  ·rw [hq] at aq ⊢
   have hb:eN 8 [] Sr.nm (fun x=>eP r x.mx) r.sr=vO [] Sr.nm (fun x=>eP r x.mx) r.sr k:=by unfold eN;rw [if_neg (by omega)];exact eY hz aN aq
   rw [UC (by rw [hb];exact aq),hb]
  have HN:vO [] Sr.nm (fun x=>eP r x.mx) r.sr k=0:=by rw [← hq];exact Decidable.not_not.1 aq
  apply aL (k+1) ⟨(show k+1≤r.sr.length from aN),fun i hi=>by
   by_cases e:i=k
   ·rw [e];exact HN
   ·exact hz i (by omega)⟩ (show r.sr.length-(k+1)<r.sr.length-k by omega)
  case hs1=>exact cn
  case ht=>(try simp only [List.take_zero,List.map_nil,List.nil_append]);exact .cons (.there .here) .nil
 obtain rfl:k=r.sr.length:=by omega
 have z1:eN 8 [] Sr.nm (fun x=>eP r x.mx) r.sr=0:=by unfold eN;rw [if_neg (by omega)];exact dT.2 hz
 clear hk aN hz
 (refine Jq<|Jr<|Jv rfl<|bF rfl rfl ae ?_;refine JL rfl .here rfl<|JI rfl<|JA rfl<|Jn<|Jc rfl fun aq=>Jp<|Jl<|Jo<|Jt<|Jq<|Jr<|bF rfl rfl ae ?_;refine JL rfl .here rfl<|JI rfl<|JE rfl<|Jn<|fY rfl (fun aq=>?_) fun aq=>?_;refine Jr<|Ja rfl<|Jn<|Ju<|JT ?_;rotate_left;refine Jk<|Jq<|Jr<|Ja rfl<|Jn<|J0 ?_;rotate_right)
 ·have e:eN 8 (cz r) De.nm (fun x=>eP r x.mx) r.de=5:=by unfold eN;rw [if_pos (show (8:Int)<(r.de.length:Int) by omega)]
  rw [UB z1 (by rw [e];decide),e]
 refine aX (ι:=Nat) (fun x=>x≤r.de.length∧∀ i,i<x→vO (cz r) De.nm (fun x=>eP r x.mx) r.de i=0) (fun x=>[(6,.int .i64 (x:Nat)),(3,.int .i64 ((r.sr.length+x:Nat):Int)),(1,.pointer (some ⟨b1,0,none⟩))]) (fun x=>[JQ b1 r (.slice a1 r.sr.length eh) (.slice a2 r.de.length dx) (.slice a3 r.ti.length dV) p]) (fun x=>r.de.length-x) ?_ ?_
 ·apply aK (0:Nat) ⟨Nat.zero_le _,fun i h=>absurd h (Nat.not_lt_zero _)⟩
  case hs1=>exact cn
  case ht=>(try simp only [List.take_zero,List.map_nil,List.nil_append]);exact .cons .here .nil
 rintro k ⟨hk,hz⟩
 by_cases aN:k<r.de.length
 ·have cM:=je (gm aN)
  obtain ⟨iD,aD⟩:=jH k _ (fa aN)
  unfold De.cells at aD
  have XL:=aD 0 _ rfl
  have Um:=aD 1 _ rfl
  have Py:=Px (r.sr.length+k) (by omega)
  have hq:=Rp (r:=r) aN
  (refine Jq<|Jr<|Jv rfl<|bF rfl rfl ae ?_;refine JL rfl .here rfl<|JI rfl<|JA rfl<|Jn<|Jd rfl fun aq=>Jk<|Jq<|J0<|Jq<|Jq ?_)
  with_reducible refine cQ 12 (by kernel_rfl) ?_
  (refine an (cr .here) rfl ?_;refine an lx rfl ?_;refine aU aZ rfl (fun w' az=>(Py w' (Mem.keeps az))) ?_;refine an (cr .here) rfl ?_;refine an kr rfl ?_;refine an (gp .here) rfl ?_;refine an lx rfl ?_;refine an (fM cM aq) rfl ?_;refine an kr rfl ?_;refine an (ai (.of rfl) (At.base Um rfl)) rfl ?_;refine aU aZ rfl (fun w' az=>(jd _ (Mem.keeps az))) ?_;refine en (aA (.cons (.of rfl) (.cons (.of rfl) .nil)) rfl rfl rfl rfl) rfl rfl ?_)
  with_reducible refine dy rfl fun bq mT=>?_
  (refine ag bC rfl (fun w' az=>(l7 (Mem.dh az .here rfl rfl) (bU.cons (bU.cons bU.nil)))) ?_;refine Ja rfl<|Ji<|Jv rfl<|JD rfl<|Jn<|fY rfl (fun aq=>?_) fun aq=>?_;refine Jr<|Jv rfl<|Ja rfl<|Jn<|Ju<|Jm<|Jh<|Jh<|Jm<|Jh<|JT ?_;rotate_left;refine Jk<|Jg<|Jv rfl<|JB rfl (by omega)<|Ja rfl<|Jx<|Jj<|Jt<|Jg<|Jv rfl<|JB rfl (by omega)<|Ja rfl<|Jn ?_;rotate_right)
  ·rw [hq] at aq ⊢
   have hb:eN 8 (cz r) De.nm (fun x=>eP r x.mx) r.de=vO (cz r) De.nm (fun x=>eP r x.mx) r.de k:=by unfold eN;rw [if_neg (by omega)];exact eY hz aN aq
   rw [UB z1 (by rw [hb];exact aq),hb]
  have HN:vO (cz r) De.nm (fun x=>eP r x.mx) r.de k=0:=by rw [← hq];exact Decidable.not_not.1 aq
  apply aL (k+1) ⟨(show k+1≤r.de.length from aN),fun i hi=>by
   by_cases e:i=k
   ·rw [e];exact HN
   ·exact hz i (by omega)⟩ (show r.de.length-(k+1)<r.de.length-k by omega)
  case hs1=>exact cn
  case ht=>(try simp only [List.take_zero,List.map_nil,List.nil_append]);exact .cons (.there .here) .nil
 obtain rfl:k=r.de.length:=by omega
 have z2:eN 8 (cz r) De.nm (fun x=>eP r x.mx) r.de=0:=by unfold eN;rw [if_neg (by omega)];exact dT.2 hz
 clear hk aN hz
 (refine Jq<|Jr<|Jv rfl<|bF rfl rfl ae ?_;refine JL rfl .here rfl<|JI rfl<|JA rfl<|Jn<|Jc rfl fun aq=>Jp<|Jl<|Jo<|Jt<|Jq<|Jr<|bF rfl rfl ae ?_;refine JL rfl .here rfl<|JI rfl<|JE rfl<|Jn<|fY rfl (fun aq=>?_) fun aq=>?_;refine Jr<|Ja rfl<|Jn<|Ju<|JT ?_;rotate_left;refine Jk<|Jq<|Jr<|Ja rfl<|Jn<|J0 ?_;rotate_right)
 ·have e:eN 6 (cz r++cm r) Ti.nm (mX r) r.ti=5:=by unfold eN;rw [if_pos (show (6:Int)<(r.ti.length:Int) by omega)]
  rw [CD z1 z2,e]
 refine aX (ι:=Nat) (fun x=>x≤r.ti.length∧∀ i,i<x→vO (cz r++cm r) Ti.nm (mX r) r.ti i=0) (fun x=>[(8,.int .i64 (x:Nat)),(3,.int .i64 (((r.sr.length+r.de.length)+x:Nat):Int)),(1,.pointer (some ⟨b1,0,none⟩))]) (fun x=>[JQ b1 r (.slice a1 r.sr.length eh) (.slice a2 r.de.length dx) (.slice a3 r.ti.length dV) p]) (fun x=>r.ti.length-x) ?_ ?_
 ·apply aK (0:Nat) ⟨Nat.zero_le _,fun i h=>absurd h (Nat.not_lt_zero _)⟩
  case hs1=>exact cn
  case ht=>(try simp only [List.take_zero,List.map_nil,List.nil_append]);exact .cons .here .nil
 rintro k ⟨hk,hz⟩
 by_cases aN:k<r.ti.length
 ·have cM:=sR (eT aN)
  obtain ⟨iD,aD⟩:=pL k _ (ed aN)
  unfold Ti.cells at aD
  have XL:=aD 0 _ rfl
  have Um:=aD 1 _ rfl
  have Py:=Px ((r.sr.length+r.de.length)+k) (by omega)
  have hq:=Rm (r:=r) aN
  (refine Jq<|Jr<|Jv rfl<|bF rfl rfl ae ?_;refine JL rfl .here rfl<|JI rfl<|JA rfl<|Jn<|Jd rfl fun aq=>Jk<|Jq<|J0<|Jr<|bF rfl rfl ae ?_;refine JL rfl .here rfl<|Jv rfl<|ab (fM cM aq) rfl ?_;refine ab (iz (eG.base aD rfl)) rfl ?_;refine Jz rfl rfl fun _ _=>ao (.of rfl) (.of rfl) .here rfl rfl (fk rfl rfl rfl) (bE rfl) ak ?_;refine Jn<|Jq<|Jq ?_)
  with_reducible refine cQ 18 (by kernel_rfl) ?_
  (refine an (cr (.there .here)) rfl ?_;refine an lx rfl ?_;refine aU aZ rfl (fun w' az=>(Py w' (Mem.keeps az))) ?_;refine an (cr (.there .here)) rfl ?_;refine an kr rfl ?_;refine an (gp .here) rfl ?_;refine aU aZ rfl (fun w' az=>(jd _ (Mem.keeps az))) ?_;refine an (cr (.there .here)) rfl ?_;refine an kr rfl ?_;refine an (gp .here) rfl ?_;refine aU aZ rfl (fun w' az=>(jd _ (Mem.keeps az))) ?_;refine an kr rfl ?_;refine an (gp .here) rfl ?_;refine an kr rfl ?_;refine an (gp .here) rfl ?_;refine an (nF (.of rfl) (.of rfl)) rfl ?_;refine aU aZ rfl (fun w' az=>(lz _ 24 w')) ?_;refine en (aA (.cons (.of rfl) (.cons (.of rfl) (.cons (.of rfl) (.cons (.of rfl) .nil)))) rfl rfl rfl rfl) rfl rfl ?_)
  with_reducible refine dy rfl fun bq mT=>?_
  (refine ag bC rfl (fun w' az=>(l7 (Mem.dh az .here rfl rfl) (bU.cons (bU.cons (bU.cons (bU.cons bU.nil)))))) ?_;refine Ja rfl<|Ji<|Jv rfl<|JD rfl<|Jn<|fY rfl (fun aq=>?_) fun aq=>?_;refine Jr<|Jv rfl<|Ja rfl<|Jn<|Ju<|Jm<|Jh<|Jh<|Jm<|Jh<|JT ?_;rotate_left;refine Jk<|Jg<|Jv rfl<|JB rfl (by omega)<|Ja rfl<|Jx<|Jj<|Jt<|Jg<|Jv rfl<|JB rfl (by omega)<|Ja rfl<|Jn ?_;rotate_right)
  ·rw [hq] at aq ⊢
   have hb:eN 6 (cz r++cm r) Ti.nm (mX r) r.ti=vO (cz r++cm r) Ti.nm (mX r) r.ti k:=by unfold eN;rw [if_neg (by omega)];exact eY hz aN aq
   rw [CD z1 z2,hb]
  have HN:vO (cz r++cm r) Ti.nm (mX r) r.ti k=0:=by rw [← hq];exact Decidable.not_not.1 aq
  apply aL (k+1) ⟨(show k+1≤r.ti.length from aN),fun i hi=>by
   by_cases e:i=k
   ·rw [e];exact HN
   ·exact hz i (by omega)⟩ (show r.ti.length-(k+1)<r.ti.length-k by omega)
  case hs1=>exact cn
  case ht=>(try simp only [List.take_zero,List.map_nil,List.nil_append]);exact .cons bI .nil
 obtain rfl:k=r.ti.length:=by omega
 have z3:eN 6 (cz r++cm r) Ti.nm (mX r) r.ti=0:=by unfold eN;rw [if_neg (by omega)];exact dT.2 hz
 clear hk aN hz
 (refine Jq<|Jr<|Jv rfl<|bF rfl rfl ae ?_;refine JL rfl .here rfl<|JI rfl<|JA rfl<|Jn<|Jc rfl fun aq=>Jp<|Jl<|Jo<|Jt<|Jr<|Ja rfl<|Jn<|Je<|JT ?_)
 rw [CD z1 z2,z3]
end Go.Proofs.A1
namespace Go.Proofs.A1
open Go Go.SL
theorem OI {r:Ro} {k:Nat} (h:k<r.po.length):Fa r k=if Kc r r.po[k]≠0 then Kc r r.po[k] else if 0<k∧(r.po[k].lv<((r.po[k-1]?).getD r.po[k]).lv∨r.po[k].lv=((r.po[k-1]?).getD r.po[k]).lv∧dP r r.po[k].ou≤dP r ((r.po[k-1]?).getD r.po[k]).ou) then 11 else 0:=by
 unfold Fa;rw [List.getElem?_eq_getElem h];rfl
def FK (r:Ro) (v:Int) (x:Ti):Bool:=decide ((oe r.po v 8 x.nm).length=8)
def D4 (r:Ro) (v:Int) (x:Ti):Bool:=mW r.po v x.nm != !decide ((dY r.po v x.nm).getD ⟨#[]⟩=⟨#[]⟩)
theorem Lg (r:Ro):Rq r=if ju r (fun v=>r.ti.any (FK r v)) then 33 else if ju r (fun v=>r.ti.any (D4 r v)) then 32 else 0:=rfl
theorem BU {r:Ro} {q:Int→Ti→Bool} {v i:Nat} (hv:(v:Int)<r.lv) (hi:i<r.ti.length) (h:q v r.ti[i]=true):ju r (fun v=>r.ti.any (q v))=true:=by
 unfold ju
 exact List.any_eq_true.2 ⟨v,List.mem_range.2 (by omega),List.any_eq_true.2 ⟨_,List.getElem_mem hi,h⟩⟩
theorem xU {r:Ro} {q:Int→Ti→Bool} (h:∀ v:Nat,v<r.lv.toNat→∀ (i:Nat) (hi:i<r.ti.length),q v r.ti[i]=false):ju r (fun v=>r.ti.any (q v))=false:=by
 refine kO.2 fun v h0 h1=>List.any_eq_false.2 fun x hx=>?_
 obtain ⟨i,hi,rfl⟩:=List.getElem_of_mem hx
 have:=h v.toNat (by omega) i hi
 rw [show ((v.toNat:Nat):Int)=v by omega] at this
 rw [this];decide
set_option maxHeartbeats 2000000 in
theorem vZ {r:Ro} {s d t p:Value} {w:World} (h:RR w r s d t p) (hf:mi r) (aa5:1≤r.lv∧r.lv≤3):aj Tryz.prog 128 [RA r s d t p] w (.int .i64 (yM r)):=by
 have h1:=Rd.one h.sr
 have h2:=Rd.one h.de
 have h3:=Rd.one h.ti
 have h4:=Rd.one h.po
 have PC:∀ (o:ByteArray) {w'},aF [] w w'→aj Tryz.prog 230 [.agg #[.int .i64 r.lv,.int .i64 r.ma,s,d,t,p],.string o] w' (.int .i64 (dP r o)):=fun o _ hk=>Lp o (h.keeps hk) hf
 have Sy:∀ (o:ByteArray) {w'},aF [] w w'→aj Tryz.prog 231 [.agg #[.int .i64 r.lv,.int .i64 r.ma,s,d,t,p],.string o] w' (.int .i64 (jE r o)):=fun o _ hk=>LM o (h.keeps hk)
 have Vl:∀ (o:ByteArray) {w'},aF [] w w'→aj Tryz.prog 232 [.agg #[.int .i64 r.lv,.int .i64 r.ma,s,d,t,p],.string o] w' (.int .i64 (jU r o)):=fun o _ hk=>Hd o (h.keeps hk)
 have UW:∀ (v:Int) (o:ByteArray) {w'},aF [] w w'→aj Tryz.prog 233 [.agg #[.int .i64 r.lv,.int .i64 r.ma,s,d,t,p],.int .i64 v,.string o] w' (.bool (mW r.po v o)):=fun v o _ hk=>Oi v o (h.keeps hk)
 have L7:∀ (v:Int) (o:ByteArray) {w'},aF [] w w'→aj Tryz.prog 133 [.agg #[.int .i64 r.lv,.int .i64 r.ma,s,d,t,p],.int .i64 v,.string o] w' (.string ((dY r.po v o).getD ⟨#[]⟩)):=fun v o _ hk=>y8 v o (h.keeps hk)
 have PS:∀ (v:Int) (o:ByteArray) w',aF [] w w'→bd Tryz.prog 132 [.agg #[.int .i64 r.lv,.int .i64 r.ma,s,d,t,p],.int .i64 v,.string o,.int .i64 8] w' [] (fun _:Option Addr×Nat=>True) (fun z=>.slice z.1 (oe r.po v 8 o).length z.2) (fun z=>[row 9 1 (.slice z.1 (oe r.po v 8 o).length z.2) (oe r.po v 8 o).length (aM (oe r.po v 8 o))]):=fun v o w' hk=>bd.GG (val:=id) (ED v o 8 (by decide) (h.keeps hk))
 have HX:=h.po
 have Bh:=h.ti
 obtain ⟨a4,fP,Ts,OQ,rfl,xF,l5,F2,zo⟩:=HX
 obtain ⟨a3,dV,IX,Hg,rfl,mS,fX,sR,pL⟩:=Bh
 rw [cU] at *
 rw [bN] at *
 unfold maxLen at fX l5
 obtain ⟨f1,f2,f3,f4⟩:=hf
 unfold RA
 refine ah Tryz.func128 rfl rfl ?_
 refine Jr<|Jy rfl rfl fun _ _=>Ja rfl<|Jn<|Jq<|Jr<|Ja rfl<|Jn<|J0 ?_
 rename_i b1 sy
 refine aX (ι:=Nat) (fun x=>x≤r.po.length∧∀ i,i<x→Fa r i=0) (fun x=>[(3,.int .i64 (x:Nat)),(1,.pointer (some ⟨b1,0,none⟩))]) (fun x=>[JQ b1 r s d (.slice a3 r.ti.length dV) (.slice a4 r.po.length fP)]) (fun x=>r.po.length-x) ?_ ?_
 ·apply aK (0:Nat) ⟨Nat.zero_le _,fun i h=>absurd h (Nat.not_lt_zero _)⟩
  case hs1=>exact cn
  case ht=>(try simp only [List.take_zero,List.map_nil,List.nil_append]);exact .cons .here .nil
 rintro k ⟨hk,hz⟩
 by_cases aN:k<r.po.length
 ·have cM:=F2 (jO aN)
  obtain ⟨iD,aD⟩:=zo k _ (gY aN)
  unfold Po.cells at aD
  have jk:=OI (r:=r) aN
  have Ud:∀ e:Int,Fa r k=e→e≠0→yM r=e:=fun e he hne=>by
   have hb:jm (Fa r) r.po.length=e:=by rw [← he];exact eY hz aN (by rw [he];exact hne)
   unfold yM
   rw [hb,if_pos hne]
  have ll:Fa r k=0→∀ i,i<k+1→Fa r i=0:=fun e i hi=>by
   by_cases e2:i=k
   ·rw [e2];exact e
   ·exact hz i (by omega)
  generalize hx:r.po[k]=x at aD jk
  (refine Jq<|Jr<|Jv rfl<|bF rfl rfl ae ?_;refine JL rfl .here rfl<|JI rfl<|JA rfl<|Jn<|Jd rfl fun aq=>Jk<|Jq<|J0<|Jr<|bF rfl rfl ae ?_;refine JL rfl .here rfl<|Jv rfl<|ab (fM cM aq) rfl ?_;refine ab (iz (eG.base aD rfl)) rfl ?_;refine Jz rfl rfl fun _ _=>ao (.of rfl) (.of rfl) .here rfl rfl (fk rfl rfl rfl) (bE rfl) ak ?_;refine Jn<|Jq<|Jq ?_)
  with_reducible refine cQ 29 (by kernel_rfl) ?_
  (refine an kr rfl ?_;refine an (gp .here) rfl ?_;refine an kr rfl ?_;refine an (gp (.there .here)) rfl ?_;refine an (ud (.of rfl) (.of rfl) (QF (by omega))) rfl ?_;refine aU dK rfl (fun w' az=>(tp _ 0 _ w')) ?_;refine an (cr (.there .here)) rfl ?_;refine an kr rfl ?_;refine an (gp .here) rfl ?_;refine aU aZ rfl (fun w' az=>(PC _ (Mem.keeps az))) ?_;refine an (nD (.of rfl) (.of rfl)) rfl ?_;refine aU aZ rfl (fun w' az=>(lz _ 10 w')) ?_;refine an (cr (.there .here)) rfl ?_;refine an kr rfl ?_;refine an (gp .here) rfl ?_;refine aU aZ rfl (fun w' az=>(Sy _ (Mem.keeps az))) ?_;refine an (nD (.of rfl) (.of rfl)) rfl ?_;refine aU aZ rfl (fun w' az=>(lz _ 10 w')) ?_;refine an (cr (.there .here)) rfl ?_;refine an kr rfl ?_;refine an (gp .here) rfl ?_;refine aU aZ rfl (fun w' az=>(Vl _ (Mem.keeps az))) ?_;refine an (cr (.there .here)) rfl ?_;refine an kr rfl ?_;refine an (gp .here) rfl ?_;refine aU aZ rfl (fun w' az=>(Sy _ (Mem.keeps az))) ?_;refine an (jr (.of rfl) (.of rfl)) rfl ?_;refine aU aZ rfl (fun w' az=>(lz _ 24 w')) ?_;refine en (aA (.cons (.of rfl) (.cons (.of rfl) (.cons (.of rfl) (.cons (.of rfl) .nil)))) rfl rfl rfl rfl) rfl rfl ?_)
  with_reducible refine dy rfl fun bq mT=>?_
  (refine ag bC rfl (fun w' az=>(l7 (Mem.dh az .here rfl rfl) (bU.cons (bU.cons (bU.cons (bU.cons bU.nil)))))) ?_;refine Ja rfl<|Ji<|Jv rfl<|JD rfl<|Jn<|fY rfl (fun aq=>?_) fun aq=>?_;refine Jr<|Jv rfl<|Ja rfl<|Jn<|Ju<|Jm<|Jh<|Jh<|Jm<|Jh<|JT ?_;rotate_left;refine Jk<|Jr<|Jv rfl<|JE rfl<|Jn<|fY rfl (fun aq=>?_) fun aq=>?_;refine Jr<|bF rfl rfl ae ?_;refine JL rfl bI rfl<|Jv rfl<|JS rfl (by omega)<|ab (aC (.of rfl) (.of rfl) cM (by omega) (by omega) bo) rfl ?_;rotate_left;refine Jw<|Jj<|Jt<|Jg<|Jv rfl<|JB rfl (by omega)<|Ja rfl<|Jn ?_;rotate_right;rotate_right)
  ·have e:=Ud (Kc r x) (by rw [jk,if_pos (show Kc r x≠0 from aq)]) aq
   rw [e];rfl
  ·rename_i b4 vC hE
   have hE:Kc r x=0:=Decidable.not_not.1 hE
   have Kl:0<k:=by omega
   have QL:k-1<r.po.length:=by omega
   obtain ⟨W5,eL⟩:=zo (k-1) _ (gY QL)
   unfold Po.cells at eL
   rw [show OQ+(k-1)*3=OQ+((k:Int)-1).toNat*3 by rw [show ((k:Int)-1).toNat=k-1 by omega]] at eL
   rw [if_neg (not_not_intro hE),List.getElem?_eq_getElem QL,Option.getD_some] at jk
   generalize r.po[k-1]=y at eL jk
   (refine ab (iz (eG.base eL rfl)) rfl ?_;refine Jz rfl rfl fun _ _=>ao (.of rfl) (.of rfl) .here rfl rfl (fk rfl rfl rfl) (bE rfl) ak ?_;refine Jn<|Jq ?_)
   with_reducible refine dN 23 (by kernel_rfl) ?_
   (refine np rfl rfl ae ?_;refine aH (gp bI) rfl ?_;refine np rfl rfl ae ?_;refine aH (gp .here) rfl ?_;refine aH (nD (.of rfl) (.of rfl)) rfl ?_;refine kZ rfl rfl ?_;refine dA rfl rfl inferInstance (fun hg bL=>(ar (.of rfl) ae)) rfl ?_;refine dA rfl rfl inferInstance (fun hg bL=>(ai (.cA hg rfl) (At.lit bI rfl))) rfl ?_;refine dA rfl rfl inferInstance (fun hg bL=>(ar (.of rfl) ae)) rfl ?_;refine dA rfl rfl inferInstance (fun hg bL=>(ai (.cA hg rfl) (At.lit .here rfl))) rfl ?_;refine dA rfl rfl inferInstance (fun hg bL=>(nF (.cA hg rfl) (.cA hg rfl))) rfl ?_;refine dA rfl rfl inferInstance (fun hg bL=>(aY (.cA hg rfl))) rfl ?_;refine pZ rfl rfl inferInstance (fun hg bL=>(cF (.of rfl) cY ak (by rfl))) rfl ?_;refine pZ rfl rfl inferInstance (fun hg bL=>(ar (.of rfl) ae)) rfl ?_;refine pZ rfl rfl inferInstance (fun hg bL=>(ai (.cA hg rfl) (At.lit bI rfl))) rfl ?_;refine rT rfl rfl (fun hg=>(bh (.of rfl) (.cons (.cA hg rfl) (.cons (.cA hg rfl) .nil)) inferInstance gJ)) rfl (fun hg w' az=>(PC _ (Mem.keeps az))) ?_;refine pZ rfl rfl inferInstance (fun hg bL=>(cF (.of rfl) cY ak (by rfl))) rfl ?_;refine pZ rfl rfl inferInstance (fun hg bL=>(ar (.of rfl) ae)) rfl ?_;refine pZ rfl rfl inferInstance (fun hg bL=>(ai (.cA hg rfl) (At.lit .here rfl))) rfl ?_;refine rT rfl rfl (fun hg=>(bh (.of rfl) (.cons (.cA hg rfl) (.cons (.cA hg rfl) .nil)) inferInstance gJ)) rfl (fun hg w' az=>(PC _ (Mem.keeps az))) ?_;refine pZ rfl rfl inferInstance (fun hg bL=>(kB (.cA hg rfl) (.cA hg rfl))) rfl ?_;refine dA rfl rfl inferInstance (fun hg bL=>(gW hg (.cA hg rfl) rfl)) rfl ?_;refine aH (bW (.of rfl) rfl) rfl ?_)
   with_reducible refine dW ?_
   (refine Jn<|pV rfl (fun aq=>?_) fun aq=>?_;refine Jr<|Ja rfl<|Jn<|Je<|Jm<|Jh<|Jh<|Jm<|Jh<|JT ?_;rotate_left;refine Jw<|Jj<|Jt<|Jg<|Jv rfl<|JB rfl (by omega)<|Ja rfl<|Jn ?_;rotate_right)
   ·have hE2:0<k∧(x.lv<y.lv∨x.lv=y.lv∧dP r x.ou≤dP r y.ou):=⟨Kl,aq⟩
    have e:=Ud 11 (by rw [jk,if_pos hE2]) (by decide)
    rw [e]
   ·apply aL (k+1) ⟨(show k+1≤r.po.length from aN),ll (by rw [jk,if_neg (fun q=>q.2.elim aq.1 fun z=>aq.2.elim (fun z2=>z2 z.1) fun z2=>z2 z.2)])⟩ (show r.po.length-(k+1)<r.po.length-k by omega)
    case hs1=>exact cn
    case ht=>(try simp only [List.take_zero,List.map_nil,List.nil_append]);exact .cons cY .nil
  ·rename_i b4 vC hE
   have hE:Kc r x=0:=Decidable.not_not.1 hE
   apply aL (k+1) ⟨(show k+1≤r.po.length from aN),ll (by rw [jk,if_neg (not_not_intro hE),if_neg (fun q=>aq (by omega))])⟩ (show r.po.length-(k+1)<r.po.length-k by omega)
   case hs1=>exact cn
   case ht=>(try simp only [List.take_zero,List.map_nil,List.nil_append]);exact .cons bI .nil
 obtain rfl:k=r.po.length:=by omega
 have TO:jm (Fa r) r.po.length=0:=dT.2 hz
 have hqs:yM r=Rq r:=by unfold yM;rw [TO];rfl
 rw [hqs,Lg]
 clear hk aN hz
 (refine Jq<|Jr<|Jv rfl<|bF rfl rfl ae ?_;refine JL rfl .here rfl<|JI rfl<|JA rfl<|Jn<|Jc rfl fun aq=>Jp<|Jl<|Jo<|Jt<|Jq<|Jr<|Ja rfl<|Jn<|J0 ?_)
 refine aX (ι:=Nat) (fun v=>v≤r.lv.toNat∧∀ u,u<v→∀ (i:Nat) (hi:i<r.ti.length),FK r (u:Nat) r.ti[i]=false) (fun v=>[(7,.int .i64 (v:Nat)),(1,.pointer (some ⟨b1,0,none⟩))]) (fun _=>[JQ b1 r s d (.slice a3 r.ti.length dV) (.slice a4 r.po.length fP)]) (fun v=>r.lv.toNat-v) ?_ ?_
 ·apply aK (0:Nat) ⟨Nat.zero_le _,fun i h=>absurd h (Nat.not_lt_zero _)⟩
  case hs1=>exact cn
  case ht=>(try simp only [List.take_zero,List.map_nil,List.nil_append]);exact .cons .here .nil
 rintro v ⟨hv,hz⟩
 by_cases Pf:v<r.lv.toNat
 ·have Pg:((v:Nat):Int)<r.lv:=by omega
  (refine Jq<|Jr<|Jv rfl<|bF rfl rfl ae ?_;refine JL rfl .here rfl<|JA rfl<|Jn<|Jd rfl fun aq=>Jk<|Jq<|J0<|Jr<|Ja rfl<|Jn<|J0 ?_)
  refine aX (ι:=Nat) (fun i=>i≤r.ti.length∧∀ (j:Nat) (hj:j<r.ti.length),j<i→FK r (v:Nat) r.ti[j]=false) (fun i=>[(8,.int .i64 (i:Nat)),(7,.int .i64 (v:Nat)),(1,.pointer (some ⟨b1,0,none⟩))]) (fun _=>[JQ b1 r s d (.slice a3 r.ti.length dV) (.slice a4 r.po.length fP)]) (fun i=>r.ti.length-i) ?_ ?_
  ·apply aK (0:Nat) ⟨Nat.zero_le _,fun j _ h=>absurd h (Nat.not_lt_zero _)⟩
   case hs1=>exact cn
   case ht=>(try simp only [List.take_zero,List.map_nil,List.nil_append]);exact .cons .here .nil
  rintro i ⟨hi,hy⟩
  by_cases iK:i<r.ti.length
  ·have cM:=sR (eT iK)
   have c0:w.cell? ⟨IX,Hg+i*3,none⟩=some (.string r.ti[i].nm):=(pL i _ (ed iK)).2 0 _ rfl
   have Vb:∀ b,FK r (v:Nat) r.ti[i]=b→FK r (v:Nat) r.ti[i]=b:=fun _ h=>h
   unfold FK at Vb
   have ll:FK r (v:Nat) r.ti[i]=false→∀ (j:Nat) (hj:j<r.ti.length),j<i+1→FK r (v:Nat) r.ti[j]=false:=fun e j hj mR=>by
    by_cases e2:j=i
    ·subst e2;exact e
    ·exact hy j hj (by omega)
   have PL:FK r (v:Nat) r.ti[i]=true→ju r (fun v=>r.ti.any (FK r v))=true:=BU Pg iK
   generalize UU:r.ti[i].nm=x at c0
   (refine Jq<|Jr<|Jv rfl<|bF rfl rfl ae ?_;refine JL rfl .here rfl<|JI rfl<|JA rfl<|Jn<|Jd rfl fun aq=>Jk<|Jq<|J0<|Jq ?_)
   have SJ:=PS (v:Nat) x
   have QH:=zI r.po (v:Nat) 8 x
   have SH:FK r (v:Nat) r.ti[i]=decide ((oe r.po (v:Nat) 8 x).length=8):=by unfold FK;rw [UU]
   generalize oe r.po (v:Nat) 8 x=C at SJ QH SH
   with_reducible refine dM 9 (by kernel_rfl) ?_
   (refine au (fun β=>(cF (.of rfl) .here ak (by rfl))) bB rfl ?_;refine au (fun β=>(aY (.of rfl))) bB rfl ?_;refine au (fun β=>(ar (.of rfl) ae)) bB rfl ?_;refine au (fun β=>(ai (.of rfl) (At.lit .here rfl))) bB rfl ?_;refine au (fun β=>(aY (.of rfl))) bB rfl ?_;refine au (fun β=>(aC (.of rfl) (.of rfl) cM (by omega) aq bo)) bB rfl ?_;refine au (fun β=>(ar (.of rfl) ae)) bB rfl ?_;refine au (fun β=>(ai (.of rfl) (At.base c0 rfl))) bB rfl ?_)
   dsimp only [Nat.zero_add,Nat.reduceAdd]
   with_reducible apply fb (ι:=Option Addr×Nat) (Φ:=fun _=>True) (val:=fun z=>.slice z.1 C.length z.2) (own:=fun z=>[row 9 1 (.slice z.1 C.length z.2) C.length (aM C)]) (g:=S0) (B:=[]) (args:=fun _=>[.agg #[.int .i64 r.lv,.int .i64 r.ma,s,d,.slice a3 r.ti.length dV,.slice a4 r.po.length fP],.int .i64 (v:Nat),.string x,.int .i64 8])
   case hg=>exact Io
   case hB=>rfl
   case hr=>exact fun β=>bh (.of rfl) (.cons (.of rfl) (.cons (.of rfl) (.cons (.of rfl) (.cons (.of rfl) .nil)))) inferInstance rfl
   case hd=>rfl
   case hc=>exact fun β w' hb=>SJ w' hb.mem.keeps
   dsimp only [Nat.reduceAdd]
   refine fC fun β=>?_
   dsimp only [eI,List.nil_append,List.cons_append,List.append_eq,Nat.reduceAdd]
   generalize S0 (β 8)=y
   obtain ⟨ya,yc⟩:=y
   clear β
   dsimp only
   refine cV (rs:=[9]) (by kernel_rfl) (by simp) (List.forall_mem_cons.2 ⟨?_,fun _ h=>absurd h List.not_mem_nil⟩)
   refine c6 rfl ?_
   refine JI rfl<|Jn ?_
   refine cV (rs:=[10]) (by kernel_rfl) (by simp) (List.forall_mem_cons.2 ⟨?_,fun _ h=>absurd h List.not_mem_nil⟩)
   refine c6 rfl ?_
   refine JC rfl<|Jn ?_
   with_reducible refine cW (by kernel_rfl) ?_
   (refine Jt<|fY rfl (fun aq=>?_) fun aq=>?_;refine Jr<|Ja rfl<|Jn<|Je<|Jm<|Jh<|Jh<|Jm<|Jm<|Jh<|Jh<|Jm<|Jh<|JT ?_;rotate_left;refine Jw<|Jj<|Jt<|Jg<|Jv rfl<|JB rfl (by omega)<|Ja rfl<|Jn ?_;rotate_right)
   ·rw [if_pos (PL (by rw [SH];exact decide_eq_true (by omega)))]
   apply aL (i+1) ⟨(show i+1≤r.ti.length from iK),ll (by rw [SH];exact decide_eq_false (by omega))⟩ (show r.ti.length-(i+1)<r.ti.length-i by omega)
   case hs1=>exact cn
   case ht=>(try simp only [List.take_zero,List.map_nil,List.nil_append]);exact .cons (.there .here) .nil
  obtain rfl:i=r.ti.length:=by omega
  clear hi iK
  (refine Jq<|Jr<|Jv rfl<|bF rfl rfl ae ?_;refine JL rfl .here rfl<|JI rfl<|JA rfl<|Jn<|Jc rfl fun aq=>Jp<|Jl<|Jo<|Jj<|Jt<|Jg<|Jv rfl<|JB rfl (by omega)<|Ja rfl<|Jn ?_)
  apply aL (v+1) ⟨(show v+1≤r.lv.toNat from Pf),fun u hu j hj=>by
   by_cases e2:u=v
   ·subst e2;exact hy j hj hj
   ·exact hz u (by omega) j hj⟩ (show r.lv.toNat-(v+1)<r.lv.toNat-v by omega)
  case hs1=>exact cn
  case ht=>(try simp only [List.take_zero,List.map_nil,List.nil_append]);exact .cons .here .nil
 obtain rfl:v=r.lv.toNat:=by omega
 have aJ:ju r (fun v=>r.ti.any (FK r v))=false:=xU hz
 clear hv Pf hz
 (refine Jq<|Jr<|Jv rfl<|bF rfl rfl ae ?_;refine JL rfl .here rfl<|JA rfl<|Jn<|Jc rfl fun aq=>Jp<|Jl<|Jo<|Jt<|Jq<|Jr<|Ja rfl<|Jn<|J0 ?_)
 rw [if_neg (by rw [aJ];decide)]
 refine aX (ι:=Nat) (fun v=>v≤r.lv.toNat∧∀ u,u<v→∀ (i:Nat) (hi:i<r.ti.length),D4 r (u:Nat) r.ti[i]=false) (fun v=>[(9,.int .i64 (v:Nat)),(1,.pointer (some ⟨b1,0,none⟩))]) (fun _=>[JQ b1 r s d (.slice a3 r.ti.length dV) (.slice a4 r.po.length fP)]) (fun v=>r.lv.toNat-v) ?_ ?_
 ·apply aK (0:Nat) ⟨Nat.zero_le _,fun i h=>absurd h (Nat.not_lt_zero _)⟩
  case hs1=>exact cn
  case ht=>(try simp only [List.take_zero,List.map_nil,List.nil_append]);exact .cons .here .nil
 rintro v ⟨hv,hz⟩
 by_cases Pf:v<r.lv.toNat
 ·have Pg:((v:Nat):Int)<r.lv:=by omega
  (refine Jq<|Jr<|Jv rfl<|bF rfl rfl ae ?_;refine JL rfl .here rfl<|JA rfl<|Jn<|Jd rfl fun aq=>Jk<|Jq<|J0<|Jr<|Ja rfl<|Jn<|J0 ?_)
  refine aX (ι:=Nat) (fun i=>i≤r.ti.length∧∀ (j:Nat) (hj:j<r.ti.length),j<i→D4 r (v:Nat) r.ti[j]=false) (fun i=>[(10,.int .i64 (i:Nat)),(9,.int .i64 (v:Nat)),(1,.pointer (some ⟨b1,0,none⟩))]) (fun _=>[JQ b1 r s d (.slice a3 r.ti.length dV) (.slice a4 r.po.length fP)]) (fun i=>r.ti.length-i) ?_ ?_
  ·apply aK (0:Nat) ⟨Nat.zero_le _,fun j _ h=>absurd h (Nat.not_lt_zero _)⟩
   case hs1=>exact cn
   case ht=>(try simp only [List.take_zero,List.map_nil,List.nil_append]);exact .cons .here .nil
  rintro i ⟨hi,hy⟩
  by_cases iK:i<r.ti.length
  ·have cM:=sR (eT iK)
   have c0:w.cell? ⟨IX,Hg+i*3,none⟩=some (.string r.ti[i].nm):=(pL i _ (ed iK)).2 0 _ rfl
   have Vb:∀ b,D4 r (v:Nat) r.ti[i]=b→D4 r (v:Nat) r.ti[i]=b:=fun _ h=>h
   unfold D4 at Vb
   have ll:D4 r (v:Nat) r.ti[i]=false→∀ (j:Nat) (hj:j<r.ti.length),j<i+1→D4 r (v:Nat) r.ti[j]=false:=fun e j hj mR=>by
    by_cases e2:j=i
    ·subst e2;exact e
    ·exact hy j hj (by omega)
   have PL:D4 r (v:Nat) r.ti[i]=true→ju r (fun v=>r.ti.any (D4 r v))=true:=BU Pg iK
   generalize UU:r.ti[i].nm=x at c0
   (refine Jq<|Jr<|Jv rfl<|bF rfl rfl ae ?_;refine JL rfl .here rfl<|JI rfl<|JA rfl<|Jn<|Jd rfl fun aq=>Jk<|Jq<|J0<|Jr<|bF rfl rfl ae ?_;refine JL rfl .here rfl<|Jv rfl<|ab (fM cM aq) rfl ?_;refine bF rfl rfl ae ?_;refine ab (ai (.of rfl) (At.base c0 rfl)) rfl ?_;refine Ja rfl<|Jn<|Jq ?_)
   have Vm:D4 r (v:Nat) r.ti[i]=(mW r.po (v:Nat) x != !decide ((dY r.po (v:Nat) x).getD ⟨#[]⟩=⟨#[]⟩)):=by unfold D4;rw [UU]
   have Sh:D4 r (v:Nat) r.ti[i]=(mW r.po (v:Nat) x != decide ((dY r.po (v:Nat) x).getD ⟨#[]⟩≠⟨#[]⟩)):=by rw [Vm,decide_not]
   with_reducible refine dN 9 (by kernel_rfl) ?_
   (refine aH (cr .here) rfl ?_;refine kZ rfl rfl ?_;refine kZ rfl rfl ?_;refine eZ dK rfl (fun w' az=>(UW _ x (Mem.keeps az))) ?_;refine aH (cr .here) rfl ?_;refine kZ rfl rfl ?_;refine kZ rfl rfl ?_;refine eZ dK rfl (fun w' az=>(L7 _ x (Mem.keeps az))) ?_;refine aH (iI (.of rfl) (.of rfl)) rfl ?_)
   with_reducible refine dW ?_
   skip
   refine ab (AQ (.of rfl) (.of rfl)) rfl ?_
   (refine Jn<|pV rfl (fun aq=>?_) fun aq=>?_;refine Jr<|Ja rfl<|Jn<|Je<|Jm<|Jh<|Jh<|Jm<|Jm<|Jh<|Jh<|Jm<|Jh<|JT ?_;rotate_left;refine Jw<|Jj<|Jt<|Jg<|Jv rfl<|JB rfl (by omega)<|Ja rfl<|Jn ?_;rotate_right)
   ·rw [if_pos (PL (by rw [Sh];exact aq))]
   apply aL (i+1) ⟨(show i+1≤r.ti.length from iK),ll (by rw [Sh];exact aq)⟩ (show r.ti.length-(i+1)<r.ti.length-i by omega)
   case hs1=>exact cn
   case ht=>(try simp only [List.take_zero,List.map_nil,List.nil_append]);exact .cons .here .nil
  obtain rfl:i=r.ti.length:=by omega
  clear hi iK
  (refine Jq<|Jr<|Jv rfl<|bF rfl rfl ae ?_;refine JL rfl .here rfl<|JI rfl<|JA rfl<|Jn<|Jc rfl fun aq=>Jp<|Jl<|Jo<|Jj<|Jt<|Jg<|Jv rfl<|JB rfl (by omega)<|Ja rfl<|Jn ?_)
  apply aL (v+1) ⟨(show v+1≤r.lv.toNat from Pf),fun u hu j hj=>by
   by_cases e2:u=v
   ·subst e2;exact hy j hj hj
   ·exact hz u (by omega) j hj⟩ (show r.lv.toNat-(v+1)<r.lv.toNat-v by omega)
  case hs1=>exact cn
  case ht=>(try simp only [List.take_zero,List.map_nil,List.nil_append]);exact .cons .here .nil
 obtain rfl:v=r.lv.toNat:=by omega
 have lH:ju r (fun v=>r.ti.any (D4 r v))=false:=xU hz
 clear hv Pf hz
 (refine Jq<|Jr<|Jv rfl<|bF rfl rfl ae ?_;refine JL rfl .here rfl<|JA rfl<|Jn<|Jc rfl fun aq=>Jp<|Jl<|Jo<|Jt<|Jr<|Ja rfl<|Jn<|Je<|JT ?_)
 rw [if_neg (by rw [lH];decide)]
end Go.Proofs.A1
namespace Go.Proofs.A1
open Go Go.SL
theorem vY {r:Ro} {s d t p:Value} {w:World} (h:RR w r s d t p) (hf:mi r):aj Tryz.prog 25 [RA r s d t p] w (.int .i64 (fN r)):=by
 have h1:=Rd.one h.sr
 have h2:=Rd.one h.de
 have h3:=Rd.one h.ti
 have h4:=Rd.one h.po
 have hcp:∀ {w'},aF [] w w'→aj Tryz.prog 127 [.agg #[.int .i64 r.lv,.int .i64 r.ma,s,d,t,p]] w' (.int .i64 (js r)):=fun hk=>zG (h.keeps hk) hf
 have V3:mG r=0→∀ {w'},aF [] w w'→aj Tryz.prog 128 [.agg #[.int .i64 r.lv,.int .i64 r.ma,s,d,t,p]] w' (.int .i64 (yM r)):=fun e _ hk=>vZ (h.keeps hk) hf ⟨(uC e).1,(uC e).2.1⟩
 rw [← Qi]
 unfold RA Wx
 refine ah Tryz.func25 rfl rfl ?_
 refine Jr<|Jy rfl rfl fun _ _=>Ja rfl<|Jn<|Jq<|Jq ?_
 with_reducible refine cQ 7 (by kernel_rfl) ?_
 (refine an kr rfl ?_;refine an (gp .here) rfl ?_;refine aU dK rfl (fun w' az=>(tp _ 1 3 w')) ?_;refine an kr rfl ?_;refine an (gp .here) rfl ?_;refine aU dK rfl (fun w' az=>(tp _ 1 4 w')) ?_;refine en (aA (.cons (.of rfl) (.cons (.of rfl) .nil)) rfl rfl rfl rfl) rfl rfl ?_)
 with_reducible refine dy rfl fun bq mT=>?_
 refine ag bC rfl (fun w' az=>l7 (Mem.dh az .here rfl rfl) (bU.cons (bU.cons bU.nil))) ?_
 have hlE:mG r=aV [fR r.lv 1 3,fR r.ma 1 4]:=rfl
 rw [← hlE]
 (refine Ja rfl<|Ji<|Jv rfl<|JD rfl<|Jn<|fY rfl (fun aq=>?_) fun aq=>?_;refine Jr<|Jv rfl<|Ja rfl<|Jn<|Ju<|JT ?_;rotate_left;refine Jk<|Jq<|Jr<|ab (cr (.there .here)) rfl ?_;rotate_right)
 ·rw [if_pos aq]
 have hl:mG r=0:=Decidable.not_not.1 aq
 have QN:=fun {w'}=>V3 hl (w':=w')
 rw [if_neg (not_not_intro hl)]
 (refine ag bC rfl (fun w' az=>(hcp (Mem.keeps az))) ?_;refine Ja rfl<|Ji<|Jv rfl<|JD rfl<|Jn<|fY rfl (fun aq=>?_) fun aq=>?_;refine Jr<|Jv rfl<|Ja rfl<|Jn<|Ju<|JT ?_;rotate_left;refine Jk<|Jr<|ab (cr (.there .here)) rfl ?_;refine ag bC rfl (fun w' az=>(QN (Mem.keeps az))) ?_;refine Ja rfl<|Jn<|Je<|JT ?_;rotate_right)
 ·rw [if_pos aq]
 rw [if_neg aq]
def GH (l:List ByteArray):Bool:=l.all fun s=>decide (s.size≤40)
theorem GI {lv:Value} {l:List ByteArray} {w:World} (h:Rd w lv 1 (fg l)):aj Tryz.prog 69 [lv] w (.bool (GH l)):=by
 obtain ⟨a,cp,b,o',rfl,df,bO,ha,hc⟩:=h
 rw [bV] at *
 unfold maxLen at bO
 refine ah Tryz.func69 rfl rfl ?_
 refine Jr<|Ja rfl<|Jn<|Jq<|Jr<|Ja rfl<|Jn<|J0 ?_
 refine aX (ι:=Nat) (fun k=>k≤l.length∧∀ j (hj:j<l.length),j<k→l[j].size≤40) (fun k=>[(3,.int .i64 (k:Nat)),(0,.slice a l.length cp)]) (fun _=>[]) (fun k=>l.length-k) ?_ ?_
 ·apply aK (0:Nat) ⟨Nat.zero_le _,fun j _ hj=>absurd hj (Nat.not_lt_zero _)⟩
  case hs1=>exact cn
  case ht=>(try simp only [List.take_zero,List.map_nil,List.nil_append]);exact .nil
 rintro k ⟨hk,hf⟩
 by_cases aN:k<l.length
 ·have cM:=ha (mw aN)
  have c0:w.cell? ⟨b,o'+k*1,none⟩=some (.string l[k]):=(hc k _ (jz aN)).2 0 _ rfl
  have hm:=List.getElem_mem aN
  have z7:l[k].size≤40→∀ j (hj:j<l.length),j<k+1→l[j].size≤40:=fun q j hj T3=>by
   by_cases e:j=k
   ·subst e;exact q
   ·exact hf j hj (by omega)
  generalize l[k]=x at c0 hm z7
  (refine Jq<|Jr<|Jv rfl<|Jv rfl<|JI rfl<|JA rfl<|Jn<|Jd rfl fun aq=>Jk<|Jq<|J0<|Jr<|Jv rfl<|Jv rfl<|ab (fM cM aq) rfl ?_;refine ab (ai (.of rfl) (At.base c0 rfl)) rfl ?_;refine ab (eR (.of rfl)) rfl ?_;refine JE rfl<|Jn<|fY rfl (fun aq=>?_) fun aq=>?_;refine Jr<|Ja rfl<|Jn<|Je<|Jm<|Jh<|Jh<|Jm<|Jh<|JT ?_;rotate_left;refine Jw<|Jj<|Jt<|Jg<|Jv rfl<|JB rfl (by omega)<|Ja rfl<|Jn ?_;rotate_right)
  ·have ss:(40:Int)<(x.size:Nat):=aq
   have e:GH l=false:=List.all_eq_false.2 ⟨x,hm,by simp;omega⟩
   rw [e]
  ·have ss:¬ (40:Int)<(x.size:Nat):=aq
   apply aL (k+1) ⟨(show k+1≤l.length from aN),z7 (by omega)⟩ (show l.length-(k+1)<l.length-k by omega)
   case hs1=>exact cn
   case ht=>(try simp only [List.take_zero,List.map_nil,List.nil_append]);exact .nil
 ·have e:GH l=true:=List.all_eq_true.2 fun x hx=>by
   obtain ⟨j,hj,rfl⟩:=List.getElem_of_mem hx
   exact decide_eq_true (hf j hj (by omega))
  obtain rfl:k=l.length:=by omega
  rw [e]
  refine Jq<|Jr<|Jv rfl<|Jv rfl<|JI rfl<|JA rfl<|Jn<|Jc rfl fun aq=>Jp<|Jl<|Jo<|Jt<|Jr<|Ja rfl<|Jn<|Je<|JT ?_
  rfl
def Tw (so de:ByteArray):Bool:=decide ((so.size:Int)≤40)&&decide ((de.size:Int)≤40)
theorem Dq (v:Int) (so de:ByteArray) (w:World):aj Tryz.prog 19 [.agg #[.int .i64 v,.string so,.string de]] w (.bool (Tw so de)):=by
 refine ah Tryz.func19 rfl rfl ?_
 (refine Jr<|Jy rfl rfl fun _ _=>Ja rfl<|Ji<|bF rfl rfl ae ?_;refine JL rfl .here rfl<|ab (eR (.of rfl)) rfl ?_;refine JF rfl<|Jv rfl<|aI rfl rfl inferInstance (fun hg bL=>(ar (.of rfl) ae)) rfl ?_;refine aI rfl rfl inferInstance (fun hg bL=>(ai (.cA hg rfl) (At.lit .here rfl))) rfl ?_;refine aI rfl rfl inferInstance (fun hg bL=>(eR (.cA hg rfl))) rfl ?_;refine aI rfl rfl inferInstance (fun hg bL=>(kB (.cA hg rfl) (.of rfl))) rfl ?_;refine ab (c7 (.of rfl) rfl) rfl ?_;refine Ja rfl<|Jn<|Je<|JT ?_)
 rfl
def O0 (l1 l2:List ByteArray) (e bad:Int):Bool:=decide (e=bad)&&((decide (bad≠0)&&decide ((l1.length:Int)=0))||(decide (bad=0)&&decide (l1=l2)))
theorem Lz {v1 v2:Value} {l1 l2:List ByteArray} {e bad:Int} {w:World} (h1:Rd w v1 1 (fg l1)) (h2:Rd w v2 1 (fg l2)):aj Tryz.prog 35 [v1,.int .i64 e,.int .i64 bad,v2] w (.bool (O0 l1 l2 e bad)):=by
 have Ac:=h1
 obtain ⟨a,cap,b,o,rfl,df,bO,ha,hc⟩:=Ac
 have PH:=bV l1
 refine ah Tryz.func35 rfl rfl ?_
 (refine Jr<|Ja rfl<|Ji<|Jv rfl<|Jv rfl<|JC rfl<|Jv rfl<|jT rfl rfl rfl rfl ?_;refine aI rfl rfl inferInstance (fun hg bL=>(jr (.cA hg rfl) (.of rfl))) rfl ?_;refine aI rfl rfl inferInstance (fun hg bL=>(aY (.cA hg rfl))) rfl ?_;refine gE rfl rfl inferInstance (fun hg bL=>(aY (.of rfl))) rfl ?_;refine gE rfl rfl inferInstance (fun hg bL=>(ct (.cA hg rfl))) rfl ?_;refine gE rfl rfl inferInstance (fun hg bL=>(nF (.cA hg rfl) (.of rfl))) rfl ?_;refine aI rfl rfl inferInstance (fun hg bL=>(gW hg (.cA hg rfl) rfl)) rfl ?_;refine aI rfl rfl inferInstance (fun hg bL=>(aY (.cA hg rfl))) rfl ?_;refine gE rfl rfl inferInstance (fun hg bL=>(aY (.of rfl))) rfl ?_;refine gE rfl rfl inferInstance (fun hg bL=>(nF (.cA hg rfl) (.of rfl))) rfl ?_;refine gE rfl rfl inferInstance (fun hg bL=>(aY (.cA hg rfl))) rfl ?_;refine gE rfl rfl inferInstance (fun hg bL=>(aY (.of rfl))) rfl ?_;refine gE rfl rfl inferInstance (fun hg bL=>(aY (.of rfl))) rfl ?_;refine wE rfl rfl (fun hg=>(bh (.of rfl) (.cons (.cA hg rfl) (.cons (.cA hg rfl) .nil)) inferInstance gJ)) rfl (fun hg w' az=>(yB (Rd.keeps h1 (Mem.keeps az)) (Rd.keeps h2 (Mem.keeps az)))) ?_;refine gE rfl rfl inferInstance (fun hg bL=>(gW hg (.cA hg rfl) rfl)) rfl ?_;refine aI rfl rfl inferInstance (fun hg bL=>(nC hg (.cA hg rfl) rfl)) rfl ?_;refine ab (c7 (.of rfl) rfl) rfl ?_;refine Ja rfl<|Jn<|Je<|JT ?_)
 rw [PH];rfl
end Go.Proofs.A1
namespace Go.Proofs.A1
open Go Go.SL
def Ym (p:Po):List ByteArray:=[p.ou,p.ip]
def AE (r:Ro) (k:Nat):List ByteArray:=dX r++((r.po.take k).map Ym).flatten
def vL (r:Ro):Bool:=decide (r.sr.length≤10)&&decide (r.de.length≤10)&&decide (r.ti.length≤10)&&decide (r.po.length≤48)
def AF (r:Ro):Bool:=vL r&&GH (AE r r.po.length)
theorem wN {r:Ro} {k:Nat} (h:k<r.po.length):AE r (k+1)=AE r k++[r.po[k].ou,r.po[k].ip]:=by
 unfold AE
 rw [List.take_succ_eq_append_getElem h,List.map_append,List.flatten_append,List.append_assoc]
 rfl
theorem qt {r:Ro} (h:vL r=true):r.sr.length≤10∧r.de.length≤10∧r.ti.length≤10∧r.po.length≤48:=by
 unfold vL at h
 simp only [Bool.and_eq_true,decide_eq_true_eq] at h
 exact ⟨h.1.1.1,h.1.1.2,h.1.2,h.2⟩
theorem AG {r:Ro} (h:vL r=true):mi r:=by
 have:=qt h
 exact ⟨by omega,by omega,by omega,by omega⟩
theorem GJ {r:Ro} (h:vL r=true):mP r:=by
 have:=qt h
 exact ⟨by omega,by omega,by omega⟩
theorem AD (r:Ro):∀ k,k≤r.po.length→(AE r k).length=(dX r).length+2*k
 | 0,_=>by unfold AE;simp
 | k+1,h=>by rw [wN (by omega),List.length_append,AD r k (by omega)];simp;omega
theorem KZ {r:Ro} {s d t p:Value} {w:World} (h:RR w r s d t p):aj Tryz.prog 18 [RA r s d t p] w (.bool (AF r)):=by
 have h1:=Rd.one h.sr
 have h2:=Rd.one h.de
 have h3:=Rd.one h.ti
 have h4:=Rd.one h.po
 have Vq:vL r=true→∀ w',aF [] w w'→bd Tryz.prog 77 [.agg #[.int .i64 r.lv,.int .i64 r.ma,s,d,t,p]] w' [] (fun _:Value=>True) id (fun x=>[row 9 1 x (dX r).length (aM (dX r))]):=fun e w' hk=>D7 (h.keeps hk) (AG e)
 have Fs:=h.sr
 have FA:=h.de
 have HX:=h.po
 have Bh:=h.ti
 obtain ⟨a1,eh,NW,M6,rfl,pg,iE,lo,jY⟩:=Fs
 obtain ⟨a2,dx,NV,M5,rfl,jX,eW,je,jH⟩:=FA
 obtain ⟨a3,dV,IX,Hg,rfl,mS,fX,sR,pL⟩:=Bh
 obtain ⟨a4,fP,Ts,OQ,rfl,xF,l5,F2,zo⟩:=HX
 rw [cC] at *
 rw [bX] at *
 rw [bN] at *
 rw [cU] at *
 unfold maxLen at iE eW fX l5
 unfold RA
 refine ah Tryz.func18 rfl rfl ?_
 (refine Jr<|Jy rfl rfl fun _ _=>Ja rfl<|Jn<|Jq<|Jr<|bF rfl rfl ae ?_;refine JL rfl .here rfl<|JI rfl<|JE rfl<|Jv rfl<|aI rfl rfl inferInstance (fun hg bL=>(ar (.of rfl) ae)) rfl ?_;refine aI rfl rfl inferInstance (fun hg bL=>(ai (.cA hg rfl) (At.lit .here rfl))) rfl ?_;refine aI rfl rfl inferInstance (fun hg bL=>(ct (.cA hg rfl))) rfl ?_;refine aI rfl rfl inferInstance (fun hg bL=>(my (.cA hg rfl) (.of rfl))) rfl ?_;refine ab (bW (.of rfl) rfl) rfl ?_;refine Jv rfl<|aI rfl rfl inferInstance (fun hg bL=>(ar (.of rfl) ae)) rfl ?_;refine aI rfl rfl inferInstance (fun hg bL=>(ai (.cA hg rfl) (At.lit .here rfl))) rfl ?_;refine aI rfl rfl inferInstance (fun hg bL=>(ct (.cA hg rfl))) rfl ?_;refine aI rfl rfl inferInstance (fun hg bL=>(my (.cA hg rfl) (.of rfl))) rfl ?_;refine ab (bW (.of rfl) rfl) rfl ?_;refine Jv rfl<|aI rfl rfl inferInstance (fun hg bL=>(ar (.of rfl) ae)) rfl ?_;refine aI rfl rfl inferInstance (fun hg bL=>(ai (.cA hg rfl) (At.lit .here rfl))) rfl ?_;refine aI rfl rfl inferInstance (fun hg bL=>(ct (.cA hg rfl))) rfl ?_;refine aI rfl rfl inferInstance (fun hg bL=>(my (.cA hg rfl) (.of rfl))) rfl ?_;refine ab (bW (.of rfl) rfl) rfl ?_;refine Jn<|pV rfl (fun aq=>?_) fun aq=>?_;refine Jr<|Ja rfl<|Jn<|Ju<|JT ?_;rotate_left;refine Jk<|Jr<|ab (cr .here) rfl ?_;rotate_right)
 ·have e:AF r=false:=by
   unfold AF
   have e2:vL r=false:=by
    rw [← Bool.not_eq_true]
    intro q
    have:=qt q
    omega
   rw [e2];rfl
  rw [e]
 have hA:vL r=true:=by
  unfold vL
  simp only [Bool.and_eq_true,decide_eq_true_eq]
  omega
 obtain ⟨f1,f2,f3,f4⟩:=qt hA
 have B3:=Vq hA
 clear aq
 rename_i b1 sy
 have zj:(dX r).length≤30:=by
  unfold dX cz cm cK
  simp only [List.length_append,List.length_map]
  omega
 refine JN bC rfl (fun w1 aJ=>B3 w1 aJ.keeps) ?_
 intro x _
 dsimp only [id_eq,List.cons_append,List.nil_append]
 refine Ja rfl<|Jn<|Jq<|Jr<|Ja rfl<|Jn<|J0 ?_
 refine aX (ι:=Nat×Value×List ByteArray) (fun y=>y.1≤r.po.length∧y.2.2=AE r y.1) (fun y=>[(4,.int .i64 (y.1:Nat)),(3,y.2.1),(1,.pointer (some ⟨b1,0,none⟩))]) (fun y=>[row 9 1 y.2.1 y.2.2.length (aM y.2.2),JQ b1 r (.slice a1 r.sr.length eh) (.slice a2 r.de.length dx) (.slice a3 r.ti.length dV) (.slice a4 r.po.length fP)]) (fun y=>r.po.length-y.1) ?_ ?_
 ·apply aK (0,x,dX r) ⟨Nat.zero_le _,by unfold AE;simp⟩
  case hs1=>exact cn
  case ht=>
   exact .cons .here (.cons .here .nil)
 rintro ⟨k,v',L⟩ ⟨hk,hL⟩
 dsimp only at hk hL ⊢
 have FE:L.length=(dX r).length+2*k:=by rw [hL,AD r k hk]
 have hlen:(aM L).length=L.length*1:=by rw [cS];omega
 by_cases aN:k<r.po.length
 ·have cM:=F2 (jO aN)
  obtain ⟨iD,aD⟩:=zo k _ (gY aN)
  unfold Po.cells at aD
  have c1:=aD 1 _ rfl
  have c2:=aD 2 _ rfl
  have ll:=wN (r:=r) aN
  rw [← hL] at ll
  generalize r.po[k]=q at aD c1 c2 ll
  (refine Jq<|Jr<|Jv rfl<|bF rfl rfl ae ?_;refine JL rfl (.there .here) rfl<|JI rfl<|JA rfl<|Jn<|Jd rfl fun aq=>Jk<|Jq<|J0 ?_)
  with_reducible refine cQ 14 (by kernel_rfl) ?_
  (refine an lx rfl ?_;refine an kr rfl ?_;refine an (gp (.there .here)) rfl ?_;refine an lx rfl ?_;refine an (fM cM aq) rfl ?_;refine an kr rfl ?_;refine an (ai (.of rfl) (At.base c1 rfl)) rfl ?_;refine an kr rfl ?_;refine an (gp (.there .here)) rfl ?_;refine an lx rfl ?_;refine an (fM cM aq) rfl ?_;refine an kr rfl ?_;refine an (ai (.of rfl) (At.base c2 rfl)) rfl ?_;refine en (aA (.cons (.of rfl) (.cons (.of rfl) .nil)) rfl rfl rfl rfl) rfl rfl ?_)
  with_reducible refine dy rfl fun bq mT=>?_
  refine bz (.of rfl) (.of rfl) (.there .here) .here ak (by rfl) (gn rfl rfl) (by rfl) (by rfl) (by rfl) ep (by rfl) ?_
  intro z
  refine Ja rfl<|Jx<|Jj<|Jt<|Jg<|Jv rfl<|JB rfl (by omega)<|Ja rfl<|Jn ?_
  apply aL (k+1,z,L++[q.ou,q.ip]) ⟨(show k+1≤r.po.length from aN),ll.symm⟩ (by show r.po.length-(k+1)<r.po.length-k;omega)
  case hs1=>exact cn
  case ht=>
   show bj _ [row 9 1 z (L++[q.ou,q.ip]).length (aM (L++[q.ou,q.ip])),JQ b1 r (.slice a1 r.sr.length eh) (.slice a2 r.de.length dx) (.slice a3 r.ti.length dV) (.slice a4 r.po.length fP)] _
   rw [show aM (L++[q.ou,q.ip])=aM L++[.string q.ou,.string q.ip] from dO _ _,List.length_append,show [q.ou,q.ip].length=2 from rfl]
   exact .cons .here (.cons (.there .here) .nil)
 obtain rfl:k=r.po.length:=by omega
 clear hk aN
 have e:AF r=GH L:=by unfold AF;rw [hA,← hL];rfl
 rw [e]
 (refine Jq<|Jr<|Jv rfl<|bF rfl rfl ae ?_;refine JL rfl (.there .here) rfl<|JI rfl<|JA rfl<|Jn<|Jc rfl fun aq=>Jp<|Jl<|Jo<|Jt<|Jr<|Jv rfl ?_)
 refine ag bC rfl (fun w' az=>GI (br az (by exact .here) rfl)) ?_
 refine Ja rfl<|Jn<|Je<|JT ?_
 rfl
end Go.Proofs.A1
