/- Parts of the proof: K5 K6 GkLook K7 K8 K9 K9q. -/
import Derived.Test.YteonnodafmegaaaGreatDoorNM04
import Derived.Test.YteonnodafmegaaaGreatDoorNM03
import Derived.Test.YteonnodafmegaaaGreatDoorNM02
set_option linter.unusedSectionVars false
set_option linter.unusedVariables false
set_option linter.unusedSimpArgs false
namespace Go.Proofs.A1
open Go Go.SL
theorem FP {c:Cx} {D:List Nat} {sl:aG} {hs hs':List a8} {X:Act→World→Prop} {E:TypeId} {g:Nat} {xs:List Value} (n sz:Nat) (ht:Take hs (bG g (.cells xs.toArray E (0,0))) hs') (hl:xs.length=n*sz) (hn:Nat.ble n 1000=true)
  (k:Tr c D sl (row E sz (.slice (some ⟨g,0,none⟩) n n) n xs::hs') X):Tr c D sl hs X:=
 cN (cur:=[]) (by rw [ZU];exact ht) (Zz _) (by have:=Zav hn;unfold maxLen;omega) (by rw [ZU];exact hl) hl k
theorem bX {c:Cx} {D:List Nat} {sl:aG} {hs hs':List a8} {X:Act→World→Prop} {E:TypeId} {g:Nat} {xs ys:List Value} (n sz:Nat) (ht:Take hs (bG g (.cells xs.toArray E (0,0))) hs') (he:xs=ys) (hl:ys.length=n*sz) (hn:Nat.ble n 1000=true)
  (k:Tr c D sl (row E sz (.slice (some ⟨g,0,none⟩) n n) n ys::hs') X):Tr c D sl hs X:=by
 subst he
 exact FP n sz ht hl hn k
def iX (l:List ByteArray) (x:ByteArray):Bool:=l.any fun y=>decide (x=y)
theorem fc {l:List ByteArray} {x:ByteArray}:iX l x=true↔x∈l:=by
 unfold iX;rw [ZM]
 constructor
 ·rintro ⟨y,hy,h⟩
  rw [decide_eq_true_iff] at h;rw [h];exact hy
 ·intro h;exact ⟨x,h,by simp⟩
theorem Js {lv:Value} {l:List ByteArray} (x:ByteArray) {w:World} (h:Rd w lv 1 (iI l)) :
  aj Tryz.prog 181 [lv,.string x] w (.int .i64 (gP (fun y=>decide (x=y)) l)):=by
 obtain ⟨a,cp,b,o,rfl,c7,bQ,ha,hc⟩:=h
 rw [bV] at *
 unfold maxLen at bQ
 refine ah Tryz.func181 rfl rfl ?_
 refine Jr<|Ja rfl<|Jn<|Jq<|Jr<|Jv rfl<|JI rfl<|Jv rfl<|Jn<|J0 ?_
 refine aX (fun k:Nat=>k≤l.length∧∀ i,i<k→(l[i]?.map fun y=>decide (x=y)).getD false=false) (fun k=>[(8,.int .i64 k),(7,.int .i64 l.length),(0,.slice a l.length cp),(1,.string x)]) (fun _=>[]) (fun k=>l.length-k) ?_ ?_
 ·apply aI 0 ⟨Zi _,fun i h=>by omega⟩
  case hs1=>exact cd
  case ht=>(try simp only [Ze,Zf,Za]);exact .nil
 rintro k ⟨hk,hf⟩
 by_cases aK:k<l.length
 ·have cB:=ha (k6 aK)
  have c0:w.cell? ⟨b,o+k*1,none⟩=some (.string l[k]):=(hc k _ (jb aK)).2 0 _ rfl
  have hps:(l[k]?.map fun y=>decide (x=y)).getD false=decide (x=l[k]):=by simp [aK]
  (refine Jr<|JA rfl<|Jn<|Jq<|Jd rfl fun ar=>Jk<|Jq<|J0<|Jr<|Jv rfl<|Ja rfl<|Ji<|Jv rfl<|Jv rfl<|Jv rfl<|ab (fG cB ar) rfl<|ab (ag (.of rfl) (At.base c0 rfl)) rfl<|ab (dS (.of rfl) (.of rfl)) rfl<|Jn<|fP rfl (fun ar=>?_) fun ar=>?_;refine Jr<|Jv rfl<|Ja rfl<|Jn<|Je<|Jm<|Jh<|Jh<|Jm<|Jh<|JT ?_;rotate_left;refine Jw<|Jj<|Jt<|Jg<|JB rfl (by omega)<|Jv rfl<|Jn ?_;rotate_right)
  ·rw [gp hf aK (by simpa using ar)]
  ·apply aJ (k+1) ⟨by omega,fun i hi=>by
    by_cases e:i=k
    ·rw [e,hps];simpa using ar
    ·exact hf i (by omega)⟩ (by omega)
   case hs1=>exact cd
   case ht=>(try simp only [Ze,Zf,Za]);exact .nil
 ·obtain rfl:k=l.length:=by omega
  refine Jr<|JA rfl<|Jn<|Jq<|Jc rfl fun ar=>Jp<|Jl<|Jo<|Jt<|Jr<|Ja rfl<|Jn<|Je<|JT ?_
  rw [fv hf]
theorem oJ {lv:Value} {l:List ByteArray} (x:ByteArray) {w:World} (h:Rd w lv 1 (iI l)) :
  aj Tryz.prog 179 [lv,.string x] w (.bool (iX l x)):=by
 have iP:∀ w',aH [] w w'→aj Tryz.prog 181 [lv,.string x] w' (.int .i64 (gP (fun y=>decide (x=y)) l)):=fun w' hk=>Js x (h.keeps hk)
 have e:iX l x=l.any fun y=>decide (x=y):=rfl
 rw [e,← j4]
 refine ah Tryz.func179 rfl rfl ?_
 (refine Jr<|Ja rfl<|Ji<|Jv rfl<|Jv rfl<|ai bd rfl (fun w' aB=>(iP w' (Mem.keeps aB)))<|JG rfl<|Ja rfl<|Jn<|Je<|JT ?_)
 rfl
theorem Nq {lv:Value} {l:List Int} (x:Int) {w:World} (h:Rd w lv 1 (ints l)) :
  aj Tryz.prog 241 [lv,.int .i64 x] w (.int .i64 (gP (fun y=>decide (x=y)) l)):=by
 obtain ⟨a,cp,b,o,rfl,c7,bQ,ha,hc⟩:=h
 rw [cY] at *
 unfold maxLen at bQ
 refine ah Tryz.func241 rfl rfl ?_
 refine Jr<|Ja rfl<|Jn<|Jq<|Jr<|Jv rfl<|JI rfl<|Jv rfl<|Jn<|J0 ?_
 refine aX (fun k:Nat=>k≤l.length∧∀ i,i<k→(l[i]?.map fun y=>decide (x=y)).getD false=false) (fun k=>[(8,.int .i64 k),(7,.int .i64 l.length),(0,.slice a l.length cp),(1,.int .i64 x)]) (fun _=>[]) (fun k=>l.length-k) ?_ ?_
 ·apply aI 0 ⟨Zi _,fun i h=>by omega⟩
  case hs1=>exact cd
  case ht=>(try simp only [Ze,Zf,Za]);exact .nil
 rintro k ⟨hk,hf⟩
 by_cases aK:k<l.length
 ·have cB:=ha (jy aK)
  have c0:w.cell? ⟨b,o+k*1,none⟩=some (.int .i64 l[k]):=(hc k _ (hP aK)).2 0 _ rfl
  have hps:(l[k]?.map fun y=>decide (x=y)).getD false=decide (x=l[k]):=by simp [aK]
  (refine Jr<|JA rfl<|Jn<|Jq<|Jd rfl fun ar=>Jk<|Jq<|J0<|Jr<|Jv rfl<|Ja rfl<|Ji<|Jv rfl<|Jv rfl<|Jv rfl<|ab (fG cB ar) rfl<|ab (ag (.of rfl) (At.base c0 rfl)) rfl<|JC rfl<|Jn<|fP rfl (fun ar=>?_) fun ar=>?_;refine Jr<|Jv rfl<|Ja rfl<|Jn<|Je<|Jm<|Jh<|Jh<|Jm<|Jh<|JT ?_;rotate_left;refine Jw<|Jj<|Jt<|Jg<|JB rfl (by omega)<|Jv rfl<|Jn ?_;rotate_right)
  ·rw [gp hf aK (by simpa using ar)]
  ·apply aJ (k+1) ⟨by omega,fun i hi=>by
    by_cases e:i=k
    ·rw [e,hps];simpa using ar
    ·exact hf i (by omega)⟩ (by omega)
   case hs1=>exact cd
   case ht=>(try simp only [Ze,Zf,Za]);exact .nil
 ·obtain rfl:k=l.length:=by omega
  refine Jr<|JA rfl<|Jn<|Jq<|Jc rfl fun ar=>Jp<|Jl<|Jo<|Jt<|Jr<|Ja rfl<|Jn<|Je<|JT ?_
  rw [fv hf]
theorem lq {lv:Value} {l:List Int} (x:Int) {w:World} (h:Rd w lv 1 (ints l)) :
  aj Tryz.prog 154 [lv,.int .i64 x] w (.bool (l.contains x)):=by
 have iP:∀ w',aH [] w w'→aj Tryz.prog 241 [lv,.int .i64 x] w' (.int .i64 (gP (fun y=>decide (x=y)) l)):=fun w' hk=>Nq x (h.keeps hk)
 have e:l.contains x=l.any fun y=>decide (x=y):=by
  rw [List.contains_eq_any_beq];rfl
 rw [e,← j4]
 refine ah Tryz.func154 rfl rfl ?_
 (refine Jr<|Ja rfl<|Ji<|Jv rfl<|Jv rfl<|ai bd rfl (fun w' aB=>(iP w' (Mem.keeps aB)))<|JG rfl<|Ja rfl<|Jn<|Je<|JT ?_)
 rfl
theorem vG {lv:Value} {l:List ByteArray} {w:World} (h:Rd w lv 1 (iI l)) (hl:l.length≤1000) :
  bh Tryz.prog 234 [lv] w [] (fun _:Value=>True) id (fun v=>[row 9 1 v l.length (aM l)]):=by
 have h':=h
 obtain ⟨a,cp,b,o,rfl,c7,bQ,ha,hc⟩:=h
 refine aQ Tryz.func234 rfl rfl ?_
 cases a with
 | none =>
  have qi:l=[]:=by
   cases l with
   | nil=>rfl
   | cons x r=>exact absurd (ha (by simp [iI])) (by simp)
  subst qi
  (refine Jr<|Ja rfl<|Jn<|Jq<|Jr<|Jv rfl<|ab (gz (.of rfl) (.of rfl)) rfl<|Jn<|cF (.of rfl)<|Jr<|Ja rfl<|Jn<|Ju ?_)
  refine aP 9 1 ?_
  first | with_reducible apply aN | with_reducible apply aO
  case he=>exact dD rfl rfl
  case hR=>
   intro w' aB
   exact aF (.slice none 0 0) trivial (by exact .cons .here .nil) aB rfl
 | some ad =>
  (refine Jr<|Ja rfl<|Jn<|Jq<|Jr<|Jv rfl<|ab (gz (.of rfl) (.of rfl)) rfl<|Jn<|bN (.of rfl)<|Jk<|Jr<|bo (aD .nil rfl rfl rfl rfl) rfl fun _ _=>Jv rfl ?_)
  rename_i bq mN
  refine bX (g:=bq) (E:=9) (ys:=[]) 0 1 (by exact .here) rfl rfl rfl ?_
  with_reducible apply gV
  case hx=>exact Is.of rfl
  case hy=>exact Is.of rfl
  case ht=>exact .here
  case hsrc=>exact fun w' aB=>h'.keeps aB.keeps
  case h1=>exact yV l
  case hz=>exact rfl
  case hsz=>exact rfl
  case hb0=>exact rfl
  case hb=>rw [bV];omega
  case hd=>rfl
  intro v'
  rw [bV,← qI,ZB,Za]
  refine Ja rfl<|Jn<|Je ?_
  first | with_reducible apply aN | with_reducible apply aO
  case he=>exact dD rfl rfl
  case hR=>
   intro w' aB
   exact aF v' trivial (by exact .cons .here .nil) aB rfl
theorem Mv (l:List Sr):nR l=(uC l).flatten:=rfl
theorem GY {lv:Value} {l:List Sr} {w:World} (h:Rd w lv 2 (uC l)) (hl:l.length≤1000) :
  bh Tryz.prog 266 [lv] w [] (fun _:Value=>True) id (fun v=>[row 186 2 v l.length (nR l)]):=by
 have h':=h
 obtain ⟨a,cp,b,o,rfl,c7,bQ,ha,hc⟩:=h
 refine aQ Tryz.func266 rfl rfl ?_
 cases a with
 | none =>
  have qi:l=[]:=by
   cases l with
   | nil=>rfl
   | cons x r=>exact absurd (ha (by simp [uC])) (by simp)
  subst qi
  (refine Jr<|Ja rfl<|Jn<|Jq<|Jr<|Jv rfl<|ab (gz (.of rfl) (.of rfl)) rfl<|Jn<|cF (.of rfl)<|Jr<|Ja rfl<|Jn<|Ju ?_)
  refine aP 186 2 ?_
  first | with_reducible apply aN | with_reducible apply aO
  case he=>exact dD rfl rfl
  case hR=>
   intro w' aB
   exact aF (.slice none 0 0) trivial (by exact .cons .here .nil) aB rfl
 | some ad =>
  (refine Jr<|Ja rfl<|Jn<|Jq<|Jr<|Jv rfl<|ab (gz (.of rfl) (.of rfl)) rfl<|Jn<|bN (.of rfl)<|Jk<|Jr ?_)
  with_reducible apply bo
  case hr=>exact kF
  case hd=>rfl
  intro bq mN
  refine Nh rfl rfl ?_
  refine bX (g:=bq) (E:=186) (ys:=[]) 0 2 (by exact .here) rfl rfl rfl ?_
  with_reducible apply gV
  case hx=>exact Is.of rfl
  case hy=>exact Is.of rfl
  case ht=>exact .here
  case hsrc=>exact fun w' aB=>h'.keeps aB.keeps
  case h1=>exact Mx l
  case hz=>exact rfl
  case hsz=>exact rfl
  case hb0=>exact rfl
  case hb=>rw [cE];omega
  case hd=>rfl
  intro v'
  rw [cE,ZB,Za,← Mv]
  refine Ja rfl<|Jn<|Je ?_
  first | with_reducible apply aN | with_reducible apply aO
  case he=>exact dD rfl rfl
  case hR=>
   intro w' aB
   exact aF v' trivial (by exact .cons .here .nil) aB rfl
theorem Oh (l:List De):lS l=(ue l).flatten:=rfl
theorem G0 {lv:Value} {l:List De} {w:World} (h:Rd w lv 3 (ue l)) (hl:l.length≤1000) :
  bh Tryz.prog 267 [lv] w [] (fun _:Value=>True) id (fun v=>[row 90 3 v l.length (lS l)]):=by
 have h':=h
 obtain ⟨a,cp,b,o,rfl,c7,bQ,ha,hc⟩:=h
 refine aQ Tryz.func267 rfl rfl ?_
 cases a with
 | none =>
  have qi:l=[]:=by
   cases l with
   | nil=>rfl
   | cons x r=>exact absurd (ha (by simp [ue])) (by simp)
  subst qi
  (refine Jr<|Ja rfl<|Jn<|Jq<|Jr<|Jv rfl<|ab (gz (.of rfl) (.of rfl)) rfl<|Jn<|cF (.of rfl)<|Jr<|Ja rfl<|Jn<|Ju ?_)
  refine aP 90 3 ?_
  first | with_reducible apply aN | with_reducible apply aO
  case he=>exact dD rfl rfl
  case hR=>
   intro w' aB
   exact aF (.slice none 0 0) trivial (by exact .cons .here .nil) aB rfl
 | some ad =>
  (refine Jr<|Ja rfl<|Jn<|Jq<|Jr<|Jv rfl<|ab (gz (.of rfl) (.of rfl)) rfl<|Jn<|bN (.of rfl)<|Jk<|Jr ?_)
  with_reducible apply bo
  case hr=>exact kF
  case hd=>rfl
  intro bq mN
  refine Nh rfl rfl ?_
  refine bX (g:=bq) (E:=90) (ys:=[]) 0 3 (by exact .here) rfl rfl rfl ?_
  with_reducible apply gV
  case hx=>exact Is.of rfl
  case hy=>exact Is.of rfl
  case ht=>exact .here
  case hsrc=>exact fun w' aB=>h'.keeps aB.keeps
  case h1=>exact Oj l
  case hz=>exact rfl
  case hsz=>exact rfl
  case hb0=>exact rfl
  case hb=>rw [cg];omega
  case hd=>rfl
  intro v'
  rw [cg,ZB,Za,← Oh]
  refine Ja rfl<|Jn<|Je ?_
  first | with_reducible apply aN | with_reducible apply aO
  case he=>exact dD rfl rfl
  case hR=>
   intro w' aB
   exact aF v' trivial (by exact .cons .here .nil) aB rfl
theorem Mj (l:List Ti):pS l=(tK l).flatten:=rfl
theorem GX {lv:Value} {l:List Ti} {w:World} (h:Rd w lv 3 (tK l)) (hl:l.length≤1000) :
  bh Tryz.prog 268 [lv] w [] (fun _:Value=>True) id (fun v=>[row 187 3 v l.length (pS l)]):=by
 have h':=h
 obtain ⟨a,cp,b,o,rfl,c7,bQ,ha,hc⟩:=h
 refine aQ Tryz.func268 rfl rfl ?_
 cases a with
 | none =>
  have qi:l=[]:=by
   cases l with
   | nil=>rfl
   | cons x r=>exact absurd (ha (by simp [tK])) (by simp)
  subst qi
  (refine Jr<|Ja rfl<|Jn<|Jq<|Jr<|Jv rfl<|ab (gz (.of rfl) (.of rfl)) rfl<|Jn<|cF (.of rfl)<|Jr<|Ja rfl<|Jn<|Ju ?_)
  refine aP 187 3 ?_
  first | with_reducible apply aN | with_reducible apply aO
  case he=>exact dD rfl rfl
  case hR=>
   intro w' aB
   exact aF (.slice none 0 0) trivial (by exact .cons .here .nil) aB rfl
 | some ad =>
  (refine Jr<|Ja rfl<|Jn<|Jq<|Jr<|Jv rfl<|ab (gz (.of rfl) (.of rfl)) rfl<|Jn<|bN (.of rfl)<|Jk<|Jr ?_)
  with_reducible apply bo
  case hr=>exact kF
  case hd=>rfl
  intro bq mN
  refine Nh rfl rfl ?_
  refine bX (g:=bq) (E:=187) (ys:=[]) 0 3 (by exact .here) rfl rfl rfl ?_
  with_reducible apply gV
  case hx=>exact Is.of rfl
  case hy=>exact Is.of rfl
  case ht=>exact .here
  case hsrc=>exact fun w' aB=>h'.keeps aB.keeps
  case h1=>exact Ml l
  case hz=>exact rfl
  case hsz=>exact rfl
  case hb0=>exact rfl
  case hb=>rw [bY];omega
  case hd=>rfl
  intro v'
  rw [bY,ZB,Za,← Mj]
  refine Ja rfl<|Jn<|Je ?_
  first | with_reducible apply aN | with_reducible apply aO
  case he=>exact dD rfl rfl
  case hR=>
   intro w' aB
   exact aF v' trivial (by exact .cons .here .nil) aB rfl
theorem zp (l:List Po):gR l=(sJ l).flatten:=rfl
theorem Ng {lv:Value} {l:List Sr} {g:Sr→ByteArray} {f:FuncId} {first cap:List Value} [bM Tryz.prog f] {w:World} (h:Rd w lv 2 (uC l)) (hn:l.length≤1000000)
  (cr:∀ x∈l,∀ w',aH [] w w'→aj Tryz.prog f (first++[.agg x.cells.toArray]++cap) w' (.string (g x))) :
  bh Tryz.prog 140 [lv,.func (.func f) first.toArray cap.toArray] w [] (fun _:Value=>True) id (fun v=>[row 9 1 v l.length (aM (l.map g))]):=by
 obtain ⟨a,cp,b,o,rfl,c7,bQ,ha,hc⟩:=h
 rw [cE] at *
 unfold maxLen at bQ
 refine aQ Tryz.func140 rfl rfl ?_
 refine Jr<|Ja rfl<|Ji<|Ja rfl<|Jn<|Jq<|Jr<|Jv rfl<|JI rfl<|Jv rfl<|Jn<|J0 ?_
 refine aP 9 1 ?_
 refine aX (ι:=Nat×Value) (fun x=>x.1≤l.length) (fun x=>[(10,.int .i64 x.1),(9,.int .i64 l.length),(8,.slice a l.length cp),(5,x.2),(1,.func (.func f) first.toArray cap.toArray)]) (fun x=>[row 9 1 x.2 x.1 (aM ((l.take x.1).map g))]) (fun x=>l.length-x.1) ?_ ?_
 ·apply aI (0,.slice none 0 0) (Zi _)
  case hs1=>exact cd
  case ht=>
   exact .cons .here .nil
 rintro ⟨k,v⟩ hk
 dsimp only at hk ⊢
 by_cases aK:k<l.length
 ·have cB:=ha (iJ aK)
  have aC:=(hc k _ (fQ aK)).2
  have iP:=cr _ (Zj aK)
  have JV:aM ((l.take (k+1)).map g)=aM ((l.take k).map g)++[.string (g l[k])]:=by
   rw [Zn aK,Zr,eX];rfl
  generalize g l[k]=gk at iP JV
  unfold Sr.cells at aC iP
  (refine Jr<|JA rfl<|Jn<|Jq<|Jd rfl fun ar=>Jk<|Jq<|J0<|Jr<|ab (fG cB ar) rfl<|ab (gS (eF.base aC rfl)) rfl<|Jz rfl rfl fun _ _=>aq (.of rfl) (.of rfl) .here rfl rfl (fN rfl rfl) (bF rfl) ak<|Jn<|Jg<|Jv rfl<|Jv rfl<|ab (cL .here) rfl ?_)
  refine ai bL rfl (fun w' aB=>(iP w' (Mem.keeps aB))) ?_
  refine bo (aD (.cons (.of rfl) .nil) rfl rfl rfl rfl) rfl (fun _ _=>?_)
  refine bH (.of rfl) (.of rfl) bT .here ak (by rfl) (eE rfl) (by rfl) (by rfl) (by rfl) eN (by rfl) ?_
  intro v'
  refine Ja rfl<|Jx<|Jj<|Jt<|Jg<|JB rfl (by omega)<|Jv rfl<|Jn ?_
  apply aJ (k+1,v') (by show k+1≤l.length;omega) (by show l.length-(k+1)<l.length-k;omega)
  case hs1=>exact cd
  case ht=>
   show bz _ [row 9 1 v' (k+1) (aM ((l.take (k+1)).map g))] _
   rw [JV]
   exact .cons .here .nil
 ·obtain rfl:k=l.length:=by omega
  rw [ZL]
  refine Jr<|JA rfl<|Jn<|Jq<|Jc rfl fun ar=>Jp<|Jl<|Jo<|Jt<|Jr<|Jv rfl<|Ja rfl<|Jn<|Je ?_
  first | with_reducible apply aN | with_reducible apply aO
  case he=>exact dD rfl rfl
  case hR=>
   intro w' aB
   exact aF v trivial (by exact .cons .here .nil) aB rfl
theorem EV {lv:Value} {l:List De} {g:De→ByteArray} {f:FuncId} {first cap:List Value} [bM Tryz.prog f] {w:World} (h:Rd w lv 3 (ue l)) (hn:l.length≤1000000)
  (cr:∀ x∈l,∀ w',aH [] w w'→aj Tryz.prog f (first++[.agg x.cells.toArray]++cap) w' (.string (g x))) :
  bh Tryz.prog 143 [lv,.func (.func f) first.toArray cap.toArray] w [] (fun _:Value=>True) id (fun v=>[row 9 1 v l.length (aM (l.map g))]):=by
 obtain ⟨a,cp,b,o,rfl,c7,bQ,ha,hc⟩:=h
 rw [cg] at *
 unfold maxLen at bQ
 refine aQ Tryz.func143 rfl rfl ?_
 refine Jr<|Ja rfl<|Ji<|Ja rfl<|Jn<|Jq<|Jr<|Jv rfl<|JI rfl<|Jv rfl<|Jn<|J0 ?_
 refine aP 9 1 ?_
 refine aX (ι:=Nat×Value) (fun x=>x.1≤l.length) (fun x=>[(10,.int .i64 x.1),(9,.int .i64 l.length),(8,.slice a l.length cp),(5,x.2),(1,.func (.func f) first.toArray cap.toArray)]) (fun x=>[row 9 1 x.2 x.1 (aM ((l.take x.1).map g))]) (fun x=>l.length-x.1) ?_ ?_
 ·apply aI (0,.slice none 0 0) (Zi _)
  case hs1=>exact cd
  case ht=>
   exact .cons .here .nil
 rintro ⟨k,v⟩ hk
 dsimp only at hk ⊢
 by_cases aK:k<l.length
 ·have cB:=ha (gJ aK)
  have aC:=(hc k _ (fj aK)).2
  have iP:=cr _ (Zj aK)
  have JV:aM ((l.take (k+1)).map g)=aM ((l.take k).map g)++[.string (g l[k])]:=by
   rw [Zn aK,Zr,eX];rfl
  generalize g l[k]=gk at iP JV
  unfold De.cells at aC iP
  (refine Jr<|JA rfl<|Jn<|Jq<|Jd rfl fun ar=>Jk<|Jq<|J0<|Jr<|ab (fG cB ar) rfl<|ab (gS (eF.base aC rfl)) rfl<|Jz rfl rfl fun _ _=>aq (.of rfl) (.of rfl) .here rfl rfl (fo rfl rfl rfl) (bF rfl) ak<|Jn<|Jg<|Jv rfl<|Jv rfl<|ab (cL .here) rfl ?_)
  refine ai bL rfl (fun w' aB=>(iP w' (Mem.keeps aB))) ?_
  refine bo (aD (.cons (.of rfl) .nil) rfl rfl rfl rfl) rfl (fun _ _=>?_)
  refine bH (.of rfl) (.of rfl) bT .here ak (by rfl) (eE rfl) (by rfl) (by rfl) (by rfl) eN (by rfl) ?_
  intro v'
  refine Ja rfl<|Jx<|Jj<|Jt<|Jg<|JB rfl (by omega)<|Jv rfl<|Jn ?_
  apply aJ (k+1,v') (by show k+1≤l.length;omega) (by show l.length-(k+1)<l.length-k;omega)
  case hs1=>exact cd
  case ht=>
   show bz _ [row 9 1 v' (k+1) (aM ((l.take (k+1)).map g))] _
   rw [JV]
   exact .cons .here .nil
 ·obtain rfl:k=l.length:=by omega
  rw [ZL]
  refine Jr<|JA rfl<|Jn<|Jq<|Jc rfl fun ar=>Jp<|Jl<|Jo<|Jt<|Jr<|Jv rfl<|Ja rfl<|Jn<|Je ?_
  first | with_reducible apply aN | with_reducible apply aO
  case he=>exact dD rfl rfl
  case hR=>
   intro w' aB
   exact aF v trivial (by exact .cons .here .nil) aB rfl
theorem Nf {lv:Value} {l:List Ti} {g:Ti→ByteArray} {f:FuncId} {first cap:List Value} [bM Tryz.prog f] {w:World} (h:Rd w lv 3 (tK l)) (hn:l.length≤1000000)
  (cr:∀ x∈l,∀ w',aH [] w w'→aj Tryz.prog f (first++[.agg x.cells.toArray]++cap) w' (.string (g x))) :
  bh Tryz.prog 178 [lv,.func (.func f) first.toArray cap.toArray] w [] (fun _:Value=>True) id (fun v=>[row 9 1 v l.length (aM (l.map g))]):=by
 obtain ⟨a,cp,b,o,rfl,c7,bQ,ha,hc⟩:=h
 rw [bY] at *
 unfold maxLen at bQ
 refine aQ Tryz.func178 rfl rfl ?_
 refine Jr<|Ja rfl<|Ji<|Ja rfl<|Jn<|Jq<|Jr<|Jv rfl<|JI rfl<|Jv rfl<|Jn<|J0 ?_
 refine aP 9 1 ?_
 refine aX (ι:=Nat×Value) (fun x=>x.1≤l.length) (fun x=>[(10,.int .i64 x.1),(9,.int .i64 l.length),(8,.slice a l.length cp),(5,x.2),(1,.func (.func f) first.toArray cap.toArray)]) (fun x=>[row 9 1 x.2 x.1 (aM ((l.take x.1).map g))]) (fun x=>l.length-x.1) ?_ ?_
 ·apply aI (0,.slice none 0 0) (Zi _)
  case hs1=>exact cd
  case ht=>
   exact .cons .here .nil
 rintro ⟨k,v⟩ hk
 dsimp only at hk ⊢
 by_cases aK:k<l.length
 ·have cB:=ha (fq aK)
  have aC:=(hc k _ (eB aK)).2
  have iP:=cr _ (Zj aK)
  have JV:aM ((l.take (k+1)).map g)=aM ((l.take k).map g)++[.string (g l[k])]:=by
   rw [Zn aK,Zr,eX];rfl
  generalize g l[k]=gk at iP JV
  unfold Ti.cells at aC iP
  (refine Jr<|JA rfl<|Jn<|Jq<|Jd rfl fun ar=>Jk<|Jq<|J0<|Jr<|ab (fG cB ar) rfl<|ab (gS (eF.base aC rfl)) rfl<|Jz rfl rfl fun _ _=>aq (.of rfl) (.of rfl) .here rfl rfl (fo rfl rfl rfl) (bF rfl) ak<|Jn<|Jg<|Jv rfl<|Jv rfl<|ab (cL .here) rfl ?_)
  refine ai bL rfl (fun w' aB=>(iP w' (Mem.keeps aB))) ?_
  refine bo (aD (.cons (.of rfl) .nil) rfl rfl rfl rfl) rfl (fun _ _=>?_)
  refine bH (.of rfl) (.of rfl) bT .here ak (by rfl) (eE rfl) (by rfl) (by rfl) (by rfl) eN (by rfl) ?_
  intro v'
  refine Ja rfl<|Jx<|Jj<|Jt<|Jg<|JB rfl (by omega)<|Jv rfl<|Jn ?_
  apply aJ (k+1,v') (by show k+1≤l.length;omega) (by show l.length-(k+1)<l.length-k;omega)
  case hs1=>exact cd
  case ht=>
   show bz _ [row 9 1 v' (k+1) (aM ((l.take (k+1)).map g))] _
   rw [JV]
   exact .cons .here .nil
 ·obtain rfl:k=l.length:=by omega
  rw [ZL]
  refine Jr<|JA rfl<|Jn<|Jq<|Jc rfl fun ar=>Jp<|Jl<|Jo<|Jt<|Jr<|Jv rfl<|Ja rfl<|Jn<|Je ?_
  first | with_reducible apply aN | with_reducible apply aO
  case he=>exact dD rfl rfl
  case hR=>
   intro w' aB
   exact aF v trivial (by exact .cons .here .nil) aB rfl
theorem NZ (n:Nat) (hn:n≤1000) (w:World):bh Tryz.prog 235 [.slice none 0 0,.int .i64 (n:Int)] w [] (fun _:Value=>True) id (fun v=>[row 9 1 v 0 []]):=by
 refine aQ Tryz.func235 rfl rfl ?_
 (refine Jr<|Ja rfl<|Jn<|Jq<|Jr<|Jv rfl<|JA rfl<|Jn<|Jc rfl fun ar=>Jk<|Jq<|Jr<|Jv rfl<|Jv rfl<|ab (qR (.of rfl)) rfl<|Jv rfl<|JI rfl<|JS rfl (by omega)<|JS rfl (by omega)<|Ja rfl<|Ji<|Jv rfl<|JE rfl<|Jn<|fP rfl (fun ar=>?_) fun ar=>?_;refine Jg<|Jv rfl<|Jv rfl<|ab (qR (.of rfl)) rfl<|ab (gY (.of rfl) (.of rfl) (by omega) (by omega)) rfl<|Jv rfl ?_;rotate_left;refine Jk<|Jr<|Jv rfl<|Ja rfl<|Jn<|Je ?_;rotate_right)
 ·rw [show (n:Int)-(((0:Nat):Int)-((0:Nat):Int))=(n:Int) by omega]
  with_reducible apply C0
  case hx=>exact Is.of rfl
  case hy=>exact Is.of rfl
  case h0=>omega
  case hz=>exact rfl
  case hsz=>exact rfl
  case hb0=>exact rfl
  case hb=>omega
  case hd=>rfl
  intro v'
  refine dd (E:=9) (sz:=1) (by exact .here) (by omega) fun g gQ cur e oE Gz DJ BY=>?_
  subst e
  (refine Jv rfl<|JI rfl<|ab (gY (.of rfl) (.of rfl) (by omega) (by omega)) rfl<|Ja rfl<|Ji<|Jv rfl<|Ja rfl<|Jn<|Je ?_)
  rw [show Go.sliced (some ⟨g,0,none⟩) 0 (((0:Nat):Int)).toNat gQ 1=.slice (some ⟨g,0,none⟩) 0 gQ from A9 g gQ 1]
  skip
  generalize hA:_++cur=al at DJ ⊢
  refine cN (n:=0) (xs:=[]) (cur:=al) (cap:=gQ) (g:=g) (E:=9) (sz:=1) (by rw [Za];exact .here) (Zi _) Gz DJ rfl ?_
  first | with_reducible apply aN | with_reducible apply aO
  case he=>exact dD rfl rfl
  case hR=>
   intro w' aB
   exact aF (.slice (some ⟨g,0,none⟩) 0 gQ) trivial (by exact .cons .here .nil) aB rfl
 ·refine aP 9 1 ?_
  first | with_reducible apply aN | with_reducible apply aO
  case he=>exact dD rfl rfl
  case hR=>
   intro w' aB
   exact aF (.slice none 0 0) trivial (by exact .cons .here .nil) aB rfl
theorem Mr (a b:List ByteArray):iI (a++b)=iI a++iI b:=by simp [iI]
theorem rL {α:Type} {l:List (List α)} {k:Nat} (h:k<l.length):(l.take (k+1)).flatten=(l.take k).flatten++l[k]:=by
 rw [List.take_add_one,Zc h,Zab];simp
theorem Fl {α:Type} (l:List (List α)) (k:Nat):(l.take k).flatten.length≤l.flatten.length:=by
 conv=>rhs;rw [← ZZ k l]
 rw [Zab,Zg];omega
theorem Ba {α:Type} {l:List α} {k:Nat} (h:k<l.length):(l.map fun v=>[v])[k]? = some [l[k]]:=by simp [h]
theorem GV {lv:Value} {vs:List Value} {ess:List (List ByteArray)} {w:World} (h:Rd w lv 1 (vs.map fun v=>[v])) (hl:vs.length=ess.length) (hr:∀ (i:Nat) (v:Value) (es:List ByteArray),vs[i]? = some v→ess[i]? = some es→Rd w v 1 (iI es)) (hn:ess.flatten.length≤1000) :
  bh Tryz.prog 142 [lv] w [] (fun _:Value=>True) id (fun v=>[row 9 1 v ess.flatten.length (iI ess.flatten).flatten]):=by
 obtain ⟨a,cp,b,o,rfl,c7,bQ,ha,hc⟩:=h
 rw [Zd] at *
 unfold maxLen at bQ
 refine aQ Tryz.func142 rfl rfl ?_
 refine Jr<|Ja rfl<|Ji<|Ja rfl<|Jn<|Jq<|Jr<|Jv rfl<|JI rfl<|Jv rfl<|Jn<|J0 ?_
 refine aX (ι:=Nat) (fun k=>k≤vs.length) (fun k=>[(11,.int .i64 k),(10,.int .i64 vs.length),(9,.slice a vs.length cp),(0,.slice a vs.length cp),(3,.int .i64 (((ess.take k).flatten.length:Nat):Int))]) (fun _=>[]) (fun k=>vs.length-k) ?_ ?_
 ·apply aI (0:Nat) (show (0:Nat)≤vs.length from Zi _)
  case hs1=>exact cd
  case ht=>(try simp only [Ze,Zf,Za]);exact .nil
 intro k hk
 by_cases aK:k<vs.length
 ·have eU:k<ess.length:=by omega
  have cB:=ha (by intro e;have:=congrArg List.length e;simp at this;subst this;simp at aK)
  have Un:=hr k _ _ (Zc aK) (Zc eU)
  obtain ⟨a1,er,b1,o1,e1,_⟩:=Un
  rw [bV] at e1
  have c0:w.cell? ⟨b,o+k*1,none⟩=some (.slice a1 ess[k].length er):=by rw [← e1];exact (hc k _ (Ba aK)).2 0 _ rfl
  have rI:=Fl ess (k+1)
  have hs:((ess.take (k+1)).flatten.length:Int)=(ess.take k).flatten.length+ess[k].length:=by rw [rL eU,Zg];omega
  (refine Jr<|JA rfl<|Jn<|Jq<|Jd rfl fun ar=>Jk<|Jq<|J0<|Jr<|ab (fG cB ar) rfl<|ab (ag (.of rfl) (At.base c0 rfl)) rfl<|Ja rfl<|Ji<|Jv rfl<|Jv rfl<|JI rfl<|JB rfl (by omega)<|Ja rfl<|Ji<|Jv rfl<|JA rfl<|Jn<|Jc rfl fun ar=>Jw<|Jj<|Jt<|Jg<|JB rfl (by omega)<|Jv rfl<|Jn ?_)
  apply aJ (k+1) (show k+1≤vs.length by omega) (show vs.length-(k+1)<vs.length-k by omega)
  case hs1=>
   rw [hs]
   exact .cons rfl (.cons rfl (.cons rfl (.cons rfl (.cons rfl .nil))))
  case ht=>exact .nil
 ·obtain rfl:k=vs.length:=by omega
  rw [show ess.take vs.length=ess by rw [hl,ZL]]
  refine Jr<|JA rfl<|Jn<|Jq<|Jc rfl fun ar=>Jp<|Jl<|Jo<|Jt<|Jr<|Jv rfl ?_
  refine JN bd rfl (fun w1 aR=>NZ _ hn _) ?_
  intro v0 _
  dsimp only [id_eq,Zb,Za]
  refine Ja rfl<|Jn<|Jq<|Jr<|Jv rfl<|JI rfl<|Jv rfl<|Jn<|J0 ?_
  refine aX (ι:=Nat×Value) (fun x=>x.1≤vs.length) (fun x=>[(27,.int .i64 x.1),(26,.int .i64 vs.length),(25,.slice a vs.length cp),(6,x.2)]) (fun x=>[row 9 1 x.2 (ess.take x.1).flatten.length (iI (ess.take x.1).flatten).flatten]) (fun x=>vs.length-x.1) ?_ ?_
  ·apply aI (0,v0) (Zi _)
   case hs1=>exact cd
   case ht=>
    exact .cons .here .nil
  rintro ⟨k,v⟩ hk
  dsimp only at hk ⊢
  by_cases aK:k<vs.length
  ·have eU:k<ess.length:=by omega
   have cB:=ha (by intro e;have:=congrArg List.length e;simp at this;subst this;simp at aK)
   have Un:=hr k _ _ (Zc aK) (Zc eU)
   have XB:=Un
   obtain ⟨a1,er,b1,o1,e1,_⟩:=XB
   rw [bV] at e1
   rw [e1] at Un
   have c0:w.cell? ⟨b,o+k*1,none⟩=some (.slice a1 ess[k].length er):=by rw [← e1];exact (hc k _ (Ba aK)).2 0 _ rfl
   have rI:=Fl ess (k+1)
   have hs:(ess.take (k+1)).flatten.length=(ess.take k).flatten.length+ess[k].length:=by rw [rL eU,Zg]
   (refine Jr<|JA rfl<|Jn<|Jq<|Jd rfl fun ar=>Jk<|Jq<|J0<|Jr<|ab (fG cB ar) rfl<|ab (ag (.of rfl) (At.base c0 rfl)) rfl<|Ja rfl<|Jn<|Jg<|Jv rfl<|Jv rfl ?_)
   with_reducible apply gV
   case hx=>exact Is.of rfl
   case hy=>exact Is.of rfl
   case ht=>exact .here
   case hsrc=>exact fun w' aB=>Un.keeps aB.keeps
   case h1=>exact yV _
   case hz=>exact rfl
   case hsz=>exact rfl
   case hb0=>exact rfl
   case hb=>rw [bV];omega
   case hd=>rfl
   intro v'
   rw [bV]
   refine Ja rfl<|Jx<|Jj<|Jt<|Jg<|JB rfl (by omega)<|Jv rfl<|Jn ?_
   apply aJ (k+1,v') (show k+1≤vs.length by omega) (show vs.length-(k+1)<vs.length-k by omega)
   case hs1=>exact cd
   case ht=>
    show bz _ [row 9 1 v' (ess.take (k+1)).flatten.length (iI (ess.take (k+1)).flatten).flatten] _
    rw [hs,rL eU,Mr,Zab]
    exact .cons .here .nil
  ·obtain rfl:k=vs.length:=by omega
   have rH:vs.length=ess.length:=hl
   rw [rH,ZL]
   refine Jr<|JA rfl<|Jn<|Jq<|Jc rfl fun ar=>Jp<|Jl<|Jo<|Jt<|Jr<|Jv rfl<|Ja rfl<|Jn<|Je ?_
   first | with_reducible apply aN | with_reducible apply aO
   case he=>exact dD rfl rfl
   case hR=>
    intro w' aB
    exact aF v trivial (by exact .cons .here .nil) aB rfl
theorem Rd.one {w:World} {v:Value} {sz:Nat} {xs:List (List Value)} (h:Rd w v sz xs):v.oneCell'=true:=by
 obtain ⟨a,cap,b,o,rfl,_⟩:=h;rfl
def wB {α:Type} (bf:List ByteArray) (nm:α→ByteArray) (ck:α→Int) (l:List α) (k:Nat):Int:=(l[k]?.map fun x=>aV [bW (!jY (nm x)) 8,bW (iX (bf++(l.take k).map nm) (nm x)) 9,ck x]).getD 0
def eS {α:Type} (qd:Int) (bf:List ByteArray) (nm:α→ByteArray) (ck:α→Int) (l:List α):Int:=if qd<(l.length:Int) then 5 else iy (wB bf nm ck l) l.length
theorem od {α:Type} {bf:List ByteArray} {nm:α→ByteArray} {ck:α→Int} {l:List α} {k:Nat} (h:k<l.length):wB bf nm ck l k=aV [bW (!jY (nm l[k])) 8,bW (iX (bf++(l.take k).map nm) (nm l[k])) 9,ck l[k]]:=by
 unfold wB;rw [Zc h];rfl
def eV (r:Ro) (m:Int):Int:=bW (decide (m<0)||decide (r.ma≤m)) 10
theorem Fa {r:Ro} {s d t p:Value} (m:Int) {w w1:World} (h:RR w1 r s d t p):aj Tryz.prog 136 [RA r s d t p,.int .i64 m] w (.int .i64 (eV r m)):=by
 have h1:=Rd.one h.sr
 have h2:=Rd.one h.de
 have h3:=Rd.one h.ti
 have h4:=Rd.one h.po
 unfold RA
 refine ah Tryz.func136 rfl rfl ?_
 (refine Jr<|Jy rfl rfl fun _ _=>Ja rfl<|Ji<|Jv rfl<|JA rfl<|Jv rfl<|gr rfl rfl rfl rfl<|aA rfl rfl inferInstance (fun hg bB=>(ao (.of rfl) ae)) rfl<|aA rfl rfl inferInstance (fun hg bB=>(ag (.bI hg rfl) (At.lit .here rfl))) rfl<|aA rfl rfl inferInstance (fun hg bB=>(zh (.bI hg rfl) (.bI hg rfl))) rfl<|ab (aZ (.of rfl) rfl) rfl<|ai bd rfl (fun w' aB=>(dU _ 10 w'))<|Ja rfl<|Jn<|Je<|JT ?_)
 rfl
theorem IP (x:Sr) (w:World):aj Tryz.prog 139 [.agg x.cells.toArray] w (.string x.nm):=by
 unfold Sr.cells
 refine ah Tryz.func139 rfl rfl ?_
 (refine Jr<|Jy rfl rfl fun _ _=>Ja rfl<|Ji<|bP rfl rfl ae<|JL rfl .here rfl<|Ja rfl<|Jn<|Je<|JT ?_)
 rfl
theorem Dz (x:De) (w:World):aj Tryz.prog 124 [.agg x.cells.toArray] w (.string x.nm):=by
 unfold De.cells
 refine ah Tryz.func124 rfl rfl ?_
 (refine Jr<|Jy rfl rfl fun _ _=>Ja rfl<|Ji<|bP rfl rfl ae<|JL rfl .here rfl<|Ja rfl<|Jn<|Je<|JT ?_)
 rfl
theorem IN (x:Ti) (w:World):aj Tryz.prog 119 [.agg x.cells.toArray] w (.string x.nm):=by
 unfold Ti.cells
 refine ah Tryz.func119 rfl rfl ?_
 (refine Jr<|Jy rfl rfl fun _ _=>Ja rfl<|Ji<|bP rfl rfl ae<|JL rfl .here rfl<|Ja rfl<|Jn<|Je<|JT ?_)
 rfl
set_option maxHeartbeats 1000000 in
theorem Ck {lv bv:Value} {l:List Sr} {bf:List ByteArray} (qd:Int) {ck:Sr→Int} {f1 f2:FuncId} {first2 cap:List Value} [bM Tryz.prog f1] [bM Tryz.prog f2] {w:World} (h:Rd w lv 2 (uC l)) (hb:Rd w bv 1 (iI bf)) (hn:bf.length+l.length≤1000)
  (vn:∀ x∈l,∀ w',aH [] w w'→aj Tryz.prog f1 [.agg x.cells.toArray] w' (.string x.nm)) (vm:∀ x∈l,∀ w',aH [] w w'→aj Tryz.prog f2 (first2++[.agg x.cells.toArray]++cap) w' (.int .i64 (ck x))) :
  aj Tryz.prog 138 [lv,.int .i64 qd,bv,.func (.func f1) #[] #[],.func (.func f2) first2.toArray cap.toArray] w (.int .i64 (eS qd bf Sr.nm ck l)):=by
 obtain ⟨a,cp,b,o,rfl,c7,bQ,ha,hc⟩:=h
 rw [cE] at *
 unfold maxLen at bQ
 unfold eS
 refine ah Tryz.func138 rfl rfl ?_
 (refine Jr<|Ja rfl<|Jn<|Jq<|Jr<|Jv rfl<|JI rfl<|Jv rfl<|JE rfl<|Jn<|fP rfl (fun ar=>?_) fun ar=>?_;refine Jr<|Ja rfl<|Jn<|Ju<|JT ?_;rotate_left;refine Jk<|Jr<|Jv rfl ?_;rotate_right)
 ·rw [if_pos (by omega)]
 rw [if_neg (by omega)]
 refine JN bL rfl (fun w1 aR=>vG (hb.keeps aR.keeps) (by omega)) ?_
 intro v0 _
 dsimp only [id_eq,Zb,Za]
 refine Ja rfl<|Jn<|Jq<|Jr<|Jv rfl<|JI rfl<|Jv rfl<|Jn<|J0 ?_
 refine aX (ι:=Nat×Value) (fun x=>x.1≤l.length∧∀ i,i<x.1→wB bf Sr.nm ck l i=0) (fun x=>[(24,.int .i64 x.1),(23,.int .i64 l.length),(22,.slice a l.length cp),(11,x.2),(3,.func (.func f1) #[] #[]),(4,.func (.func f2) first2.toArray cap.toArray)]) (fun x=>[row 9 1 x.2 (bf++(l.take x.1).map Sr.nm).length (aM (bf++(l.take x.1).map Sr.nm))]) (fun x=>l.length-x.1) ?_ ?_
 ·apply aI (0,v0) ⟨Zi _,fun i hi=>absurd hi (ZO _)⟩
  case hs1=>exact cd
  case ht=>
   rw [show bf++(l.take 0).map Sr.nm=bf by simp]
   exact .cons .here .nil
 rintro ⟨k,v⟩ ⟨hk,hf⟩
 dsimp only at hk hf ⊢
 by_cases aK:k<l.length
 ·have cB:=ha (iJ aK)
  have aC:=(hc k _ (fQ aK)).2
  have CJ:=vn _ (Zj aK)
  have fK:=vm _ (Zj aK)
  have hE:=od (bf:=bf) (nm:=Sr.nm) (ck:=ck) aK
  have htk:bf++(l.take (k+1)).map Sr.nm=(bf++(l.take k).map Sr.nm)++[(l[k]).nm]:=by
   rw [Zn aK,Zr,Zh];rfl
  have hlen:(bf++(l.take k).map Sr.nm).length=bf.length+k:=by
   rw [Zg,Zd,Zp];omega
  have Ko:∀ (w':World),Rd w' v 1 (iI (bf++(l.take k).map Sr.nm))→aj Tryz.prog 179 [v,.string (l[k]).nm] w' (.bool (iX (bf++(l.take k).map Sr.nm) (l[k]).nm)):=fun w' hr=>oJ _ hr
  generalize hB:bf++(l.take k).map Sr.nm=B at hE htk hlen Ko ⊢
  have nD:B.length=B.length:=rfl
  generalize l[k]=x at aC CJ fK hE htk Ko
  have bb:aM (B++[x.nm])=aM B++[.string x.nm]:=by rw [eX];rfl
  have JY:(B++[x.nm]).length=B.length+1:=by simp
  unfold Sr.cells at aC CJ fK
  (refine Jr<|JA rfl<|Jn<|Jq<|Jd rfl fun ar=>Jk<|Jq<|J0<|Jr<|ab (fG cB ar) rfl<|ab (gS (eF.base aC rfl)) rfl<|Jz rfl rfl fun _ _=>aq (.of rfl) (.of rfl) .here rfl rfl (fN rfl rfl) (bF rfl) ak<|Ji<|Jv rfl<|ab (cL .here) rfl<|ai bL rfl (fun w' aB=>(CJ w' (Mem.keeps aB)))<|Ja rfl<|Jn<|Jq<|Jq ?_)
  with_reducible refine cQ 12 (by kernel_rfl) ?_
  (refine an kA rfl<|aT bL rfl (fun w' aB=>(DA _ w'))<|an (dV (.of rfl)) rfl<|aT bd rfl (fun w' aB=>(dU _ 8 w'))<|an kA rfl<|an kA rfl<|aT bd rfl (fun w' aB=>(Ko w' (dL aB (.there .here) nD)))<|aT bd rfl (fun w' aB=>(dU _ 9 w'))<|an kA rfl<|an (cL .here) rfl<|aT bL rfl (fun w' aB=>(fK w' (Mem.keeps aB)))<|ek (aD (.cons (.of rfl) (.cons (.of rfl) (.cons (.of rfl) .nil))) rfl rfl rfl rfl) rfl rfl ?_)
  with_reducible refine dp rfl fun bq mN=>?_
  (refine ai bL rfl (fun w' aB=>(dN (Mem.dh aB .here rfl rfl) (bU.cons (bU.cons (bU.cons bU.nil)))))<|Ja rfl<|Ji<|Jv rfl<|JD rfl<|Jn<|fP rfl (fun ar=>?_) fun ar=>?_;refine Jr<|Jv rfl<|Ja rfl<|Jn<|Ju<|Jm<|Jh<|Jh<|Jm<|Jh<|JT ?_;rotate_left;refine Jk<|Jg<|Jv rfl<|Jv rfl<|bo (aD (.cons (.of rfl) .nil) rfl rfl rfl rfl) rfl fun _ _=>?_;rotate_right)
  ·rw [← hE] at ar ⊢
   rw [ep hf aK ar]
  have hz:wB bf Sr.nm ck l k=0:=by rw [hE];exact Zo.1 ar
  refine bH (.of rfl) (.of rfl) c6 .here ak (by rfl) (eE rfl) (by rfl) (by rfl) (by rfl) eN (by rfl) ?_
  intro v'
  refine Ja rfl<|Jx<|Jj<|Jt<|Jg<|JB rfl (by omega)<|Jv rfl<|Jn ?_
  apply aJ (k+1,v') ⟨show k+1≤l.length by omega,fun i hi=>by
   by_cases e:i=k
   ·rw [e];exact hz
   ·exact hf i (by omega)⟩ (show l.length-(k+1)<l.length-k by omega)
  case hs1=>exact cd
  case ht=>
   show bz _ [row 9 1 v' (bf++(l.take (k+1)).map Sr.nm).length (aM (bf++(l.take (k+1)).map Sr.nm))] _
   rw [htk,bb,JY]
   exact .cons .here .nil
 ·obtain rfl:k=l.length:=by omega
  refine Jr<|JA rfl<|Jn<|Jq<|Jc rfl fun ar=>Jp<|Jl<|Jo<|Jt<|Jr<|Ja rfl<|Jn<|Je<|JT ?_
  rw [dj.2 hf]
set_option maxHeartbeats 1000000 in
theorem Cl {lv bv:Value} {l:List De} {bf:List ByteArray} (qd:Int) {ck:De→Int} {f1 f2:FuncId} {first2 cap:List Value} [bM Tryz.prog f1] [bM Tryz.prog f2] {w:World} (h:Rd w lv 3 (ue l)) (hb:Rd w bv 1 (iI bf)) (hn:bf.length+l.length≤1000)
  (vn:∀ x∈l,∀ w',aH [] w w'→aj Tryz.prog f1 [.agg x.cells.toArray] w' (.string x.nm)) (vm:∀ x∈l,∀ w',aH [] w w'→aj Tryz.prog f2 (first2++[.agg x.cells.toArray]++cap) w' (.int .i64 (ck x))) :
  aj Tryz.prog 141 [lv,.int .i64 qd,bv,.func (.func f1) #[] #[],.func (.func f2) first2.toArray cap.toArray] w (.int .i64 (eS qd bf De.nm ck l)):=by
 obtain ⟨a,cp,b,o,rfl,c7,bQ,ha,hc⟩:=h
 rw [cg] at *
 unfold maxLen at bQ
 unfold eS
 refine ah Tryz.func141 rfl rfl ?_
 (refine Jr<|Ja rfl<|Jn<|Jq<|Jr<|Jv rfl<|JI rfl<|Jv rfl<|JE rfl<|Jn<|fP rfl (fun ar=>?_) fun ar=>?_;refine Jr<|Ja rfl<|Jn<|Ju<|JT ?_;rotate_left;refine Jk<|Jr<|Jv rfl ?_;rotate_right)
 ·rw [if_pos (by omega)]
 rw [if_neg (by omega)]
 refine JN bL rfl (fun w1 aR=>vG (hb.keeps aR.keeps) (by omega)) ?_
 intro v0 _
 dsimp only [id_eq,Zb,Za]
 refine Ja rfl<|Jn<|Jq<|Jr<|Jv rfl<|JI rfl<|Jv rfl<|Jn<|J0 ?_
 refine aX (ι:=Nat×Value) (fun x=>x.1≤l.length∧∀ i,i<x.1→wB bf De.nm ck l i=0) (fun x=>[(24,.int .i64 x.1),(23,.int .i64 l.length),(22,.slice a l.length cp),(11,x.2),(3,.func (.func f1) #[] #[]),(4,.func (.func f2) first2.toArray cap.toArray)]) (fun x=>[row 9 1 x.2 (bf++(l.take x.1).map De.nm).length (aM (bf++(l.take x.1).map De.nm))]) (fun x=>l.length-x.1) ?_ ?_
 ·apply aI (0,v0) ⟨Zi _,fun i hi=>absurd hi (ZO _)⟩
  case hs1=>exact cd
  case ht=>
   rw [show bf++(l.take 0).map De.nm=bf by simp]
   exact .cons .here .nil
 rintro ⟨k,v⟩ ⟨hk,hf⟩
 dsimp only at hk hf ⊢
 by_cases aK:k<l.length
 ·have cB:=ha (gJ aK)
  have aC:=(hc k _ (fj aK)).2
  have CJ:=vn _ (Zj aK)
  have fK:=vm _ (Zj aK)
  have hE:=od (bf:=bf) (nm:=De.nm) (ck:=ck) aK
  have htk:bf++(l.take (k+1)).map De.nm=(bf++(l.take k).map De.nm)++[(l[k]).nm]:=by
   rw [Zn aK,Zr,Zh];rfl
  have hlen:(bf++(l.take k).map De.nm).length=bf.length+k:=by
   rw [Zg,Zd,Zp];omega
  have Ko:∀ (w':World),Rd w' v 1 (iI (bf++(l.take k).map De.nm))→aj Tryz.prog 179 [v,.string (l[k]).nm] w' (.bool (iX (bf++(l.take k).map De.nm) (l[k]).nm)):=fun w' hr=>oJ _ hr
  generalize hB:bf++(l.take k).map De.nm=B at hE htk hlen Ko ⊢
  have nD:B.length=B.length:=rfl
  generalize l[k]=x at aC CJ fK hE htk Ko
  have bb:aM (B++[x.nm])=aM B++[.string x.nm]:=by rw [eX];rfl
  have JY:(B++[x.nm]).length=B.length+1:=by simp
  unfold De.cells at aC CJ fK
  (refine Jr<|JA rfl<|Jn<|Jq<|Jd rfl fun ar=>Jk<|Jq<|J0<|Jr<|ab (fG cB ar) rfl<|ab (gS (eF.base aC rfl)) rfl<|Jz rfl rfl fun _ _=>aq (.of rfl) (.of rfl) .here rfl rfl (fo rfl rfl rfl) (bF rfl) ak<|Ji<|Jv rfl<|ab (cL .here) rfl<|ai bL rfl (fun w' aB=>(CJ w' (Mem.keeps aB)))<|Ja rfl<|Jn<|Jq<|Jq ?_)
  with_reducible refine cQ 12 (by kernel_rfl) ?_
  (refine an kA rfl<|aT bL rfl (fun w' aB=>(DA _ w'))<|an (dV (.of rfl)) rfl<|aT bd rfl (fun w' aB=>(dU _ 8 w'))<|an kA rfl<|an kA rfl<|aT bd rfl (fun w' aB=>(Ko w' (dL aB (.there .here) nD)))<|aT bd rfl (fun w' aB=>(dU _ 9 w'))<|an kA rfl<|an (cL .here) rfl<|aT bL rfl (fun w' aB=>(fK w' (Mem.keeps aB)))<|ek (aD (.cons (.of rfl) (.cons (.of rfl) (.cons (.of rfl) .nil))) rfl rfl rfl rfl) rfl rfl ?_)
  with_reducible refine dp rfl fun bq mN=>?_
  (refine ai bL rfl (fun w' aB=>(dN (Mem.dh aB .here rfl rfl) (bU.cons (bU.cons (bU.cons bU.nil)))))<|Ja rfl<|Ji<|Jv rfl<|JD rfl<|Jn<|fP rfl (fun ar=>?_) fun ar=>?_;refine Jr<|Jv rfl<|Ja rfl<|Jn<|Ju<|Jm<|Jh<|Jh<|Jm<|Jh<|JT ?_;rotate_left;refine Jk<|Jg<|Jv rfl<|Jv rfl<|bo (aD (.cons (.of rfl) .nil) rfl rfl rfl rfl) rfl fun _ _=>?_;rotate_right)
  ·rw [← hE] at ar ⊢
   rw [ep hf aK ar]
  have hz:wB bf De.nm ck l k=0:=by rw [hE];exact Zo.1 ar
  refine bH (.of rfl) (.of rfl) c6 .here ak (by rfl) (eE rfl) (by rfl) (by rfl) (by rfl) eN (by rfl) ?_
  intro v'
  refine Ja rfl<|Jx<|Jj<|Jt<|Jg<|JB rfl (by omega)<|Jv rfl<|Jn ?_
  apply aJ (k+1,v') ⟨show k+1≤l.length by omega,fun i hi=>by
   by_cases e:i=k
   ·rw [e];exact hz
   ·exact hf i (by omega)⟩ (show l.length-(k+1)<l.length-k by omega)
  case hs1=>exact cd
  case ht=>
   show bz _ [row 9 1 v' (bf++(l.take (k+1)).map De.nm).length (aM (bf++(l.take (k+1)).map De.nm))] _
   rw [htk,bb,JY]
   exact .cons .here .nil
 ·obtain rfl:k=l.length:=by omega
  refine Jr<|JA rfl<|Jn<|Jq<|Jc rfl fun ar=>Jp<|Jl<|Jo<|Jt<|Jr<|Ja rfl<|Jn<|Je<|JT ?_
  rw [dj.2 hf]
set_option maxHeartbeats 1000000 in
theorem Cj {lv bv:Value} {l:List Ti} {bf:List ByteArray} (qd:Int) {ck:Ti→Int} {f1 f2:FuncId} {first2 cap:List Value} [bM Tryz.prog f1] [bM Tryz.prog f2] {w:World} (h:Rd w lv 3 (tK l)) (hb:Rd w bv 1 (iI bf)) (hn:bf.length+l.length≤1000)
  (vn:∀ x∈l,∀ w',aH [] w w'→aj Tryz.prog f1 [.agg x.cells.toArray] w' (.string x.nm)) (vm:∀ x∈l,∀ w',aH [] w w'→aj Tryz.prog f2 (first2++[.agg x.cells.toArray]++cap) w' (.int .i64 (ck x))) :
  aj Tryz.prog 144 [lv,.int .i64 qd,bv,.func (.func f1) #[] #[],.func (.func f2) first2.toArray cap.toArray] w (.int .i64 (eS qd bf Ti.nm ck l)):=by
 obtain ⟨a,cp,b,o,rfl,c7,bQ,ha,hc⟩:=h
 rw [bY] at *
 unfold maxLen at bQ
 unfold eS
 refine ah Tryz.func144 rfl rfl ?_
 (refine Jr<|Ja rfl<|Jn<|Jq<|Jr<|Jv rfl<|JI rfl<|Jv rfl<|JE rfl<|Jn<|fP rfl (fun ar=>?_) fun ar=>?_;refine Jr<|Ja rfl<|Jn<|Ju<|JT ?_;rotate_left;refine Jk<|Jr<|Jv rfl ?_;rotate_right)
 ·rw [if_pos (by omega)]
 rw [if_neg (by omega)]
 refine JN bL rfl (fun w1 aR=>vG (hb.keeps aR.keeps) (by omega)) ?_
 intro v0 _
 dsimp only [id_eq,Zb,Za]
 refine Ja rfl<|Jn<|Jq<|Jr<|Jv rfl<|JI rfl<|Jv rfl<|Jn<|J0 ?_
 refine aX (ι:=Nat×Value) (fun x=>x.1≤l.length∧∀ i,i<x.1→wB bf Ti.nm ck l i=0) (fun x=>[(24,.int .i64 x.1),(23,.int .i64 l.length),(22,.slice a l.length cp),(11,x.2),(3,.func (.func f1) #[] #[]),(4,.func (.func f2) first2.toArray cap.toArray)]) (fun x=>[row 9 1 x.2 (bf++(l.take x.1).map Ti.nm).length (aM (bf++(l.take x.1).map Ti.nm))]) (fun x=>l.length-x.1) ?_ ?_
 ·apply aI (0,v0) ⟨Zi _,fun i hi=>absurd hi (ZO _)⟩
  case hs1=>exact cd
  case ht=>
   rw [show bf++(l.take 0).map Ti.nm=bf by simp]
   exact .cons .here .nil
 rintro ⟨k,v⟩ ⟨hk,hf⟩
 dsimp only at hk hf ⊢
 by_cases aK:k<l.length
 ·have cB:=ha (fq aK)
  have aC:=(hc k _ (eB aK)).2
  have CJ:=vn _ (Zj aK)
  have fK:=vm _ (Zj aK)
  have hE:=od (bf:=bf) (nm:=Ti.nm) (ck:=ck) aK
  have htk:bf++(l.take (k+1)).map Ti.nm=(bf++(l.take k).map Ti.nm)++[(l[k]).nm]:=by
   rw [Zn aK,Zr,Zh];rfl
  have hlen:(bf++(l.take k).map Ti.nm).length=bf.length+k:=by
   rw [Zg,Zd,Zp];omega
  have Ko:∀ (w':World),Rd w' v 1 (iI (bf++(l.take k).map Ti.nm))→aj Tryz.prog 179 [v,.string (l[k]).nm] w' (.bool (iX (bf++(l.take k).map Ti.nm) (l[k]).nm)):=fun w' hr=>oJ _ hr
  generalize hB:bf++(l.take k).map Ti.nm=B at hE htk hlen Ko ⊢
  have nD:B.length=B.length:=rfl
  generalize l[k]=x at aC CJ fK hE htk Ko
  have bb:aM (B++[x.nm])=aM B++[.string x.nm]:=by rw [eX];rfl
  have JY:(B++[x.nm]).length=B.length+1:=by simp
  unfold Ti.cells at aC CJ fK
  (refine Jr<|JA rfl<|Jn<|Jq<|Jd rfl fun ar=>Jk<|Jq<|J0<|Jr<|ab (fG cB ar) rfl<|ab (gS (eF.base aC rfl)) rfl<|Jz rfl rfl fun _ _=>aq (.of rfl) (.of rfl) .here rfl rfl (fo rfl rfl rfl) (bF rfl) ak<|Ji<|Jv rfl<|ab (cL .here) rfl<|ai bL rfl (fun w' aB=>(CJ w' (Mem.keeps aB)))<|Ja rfl<|Jn<|Jq<|Jq ?_)
  with_reducible refine cQ 12 (by kernel_rfl) ?_
  (refine an kA rfl<|aT bL rfl (fun w' aB=>(DA _ w'))<|an (dV (.of rfl)) rfl<|aT bd rfl (fun w' aB=>(dU _ 8 w'))<|an kA rfl<|an kA rfl<|aT bd rfl (fun w' aB=>(Ko w' (dL aB (.there .here) nD)))<|aT bd rfl (fun w' aB=>(dU _ 9 w'))<|an kA rfl<|an (cL .here) rfl<|aT bL rfl (fun w' aB=>(fK w' (Mem.keeps aB)))<|ek (aD (.cons (.of rfl) (.cons (.of rfl) (.cons (.of rfl) .nil))) rfl rfl rfl rfl) rfl rfl ?_)
  with_reducible refine dp rfl fun bq mN=>?_
  (refine ai bL rfl (fun w' aB=>(dN (Mem.dh aB .here rfl rfl) (bU.cons (bU.cons (bU.cons bU.nil)))))<|Ja rfl<|Ji<|Jv rfl<|JD rfl<|Jn<|fP rfl (fun ar=>?_) fun ar=>?_;refine Jr<|Jv rfl<|Ja rfl<|Jn<|Ju<|Jm<|Jh<|Jh<|Jm<|Jh<|JT ?_;rotate_left;refine Jk<|Jg<|Jv rfl<|Jv rfl<|bo (aD (.cons (.of rfl) .nil) rfl rfl rfl rfl) rfl fun _ _=>?_;rotate_right)
  ·rw [← hE] at ar ⊢
   rw [ep hf aK ar]
  have hz:wB bf Ti.nm ck l k=0:=by rw [hE];exact Zo.1 ar
  refine bH (.of rfl) (.of rfl) c6 .here ak (by rfl) (eE rfl) (by rfl) (by rfl) (by rfl) eN (by rfl) ?_
  intro v'
  refine Ja rfl<|Jx<|Jj<|Jt<|Jg<|JB rfl (by omega)<|Jv rfl<|Jn ?_
  apply aJ (k+1,v') ⟨show k+1≤l.length by omega,fun i hi=>by
   by_cases e:i=k
   ·rw [e];exact hz
   ·exact hf i (by omega)⟩ (show l.length-(k+1)<l.length-k by omega)
  case hs1=>exact cd
  case ht=>
   show bz _ [row 9 1 v' (bf++(l.take (k+1)).map Ti.nm).length (aM (bf++(l.take (k+1)).map Ti.nm))] _
   rw [htk,bb,JY]
   exact .cons .here .nil
 ·obtain rfl:k=l.length:=by omega
  refine Jr<|JA rfl<|Jn<|Jq<|Jc rfl fun ar=>Jp<|Jl<|Jo<|Jt<|Jr<|Ja rfl<|Jn<|Je<|JT ?_
  rw [dj.2 hf]
end Go.Proofs.A1
namespace Go.SL
open Go
section
variable {P:Program} {c:Cx} {sl:aG} {hs:List a8} {dst:Option Tmp} {ty:TypeId} {pos:String} {af:Array Edge} {g:Option (Nat×Bool)}
variable {κ:Type} [DecidableEq κ] {kv:κ→Value} {kind:TypeDesc}
theorem Dm {t kt et:TypeId} {x y:Operand} {b:Nat} {k:κ} {l:List (κ×Value)} {z:Value} [hu:iF P t (.map kt et)] [GC:iF P kt kind] [hz:lF P et z] (hk:KeyLaw kind kv) (hx:Is sl x (.map (some b))) (hy:Is sl y (kv k)) (hl:Looks c hs b kv l) :
  cR P c sl hs ⟨dst,.lookup t x y true,ty,pos,af,g⟩ (.tuple #[(eA k l).getD z,.bool (eA k l).isSome]):=
 ⟨by
   simp,fun a w ha hm=>by
  obtain ⟨es,ck,h1,h2⟩:=hl w hm
  have hg:(getObj b).run P w=.ok (.map es ck) w:=by simp [getObj,Sem.run,h1]
  have sV:=hk.flat P kt es.isEmpty w k GC.eq
  rcases findNow_spec hk k es.toList l 0 h2.eq with ⟨a1,a2⟩ | ⟨j,v,a1,a2,_⟩
  ·have:(Instr.findKey kt (kv k) es.toList).run P w=.ok none w:=by
    simp [Instr.findKey,aU GC.eq,a2]
   simp [execOp,hx a ha,hy a ha,Instr.lookup,aU hu.eq,hg,sV,this,a1,il (t:=et) (v:=z)]
  ·have:(Instr.findKey kt (kv k) es.toList).run P w=.ok (some (0+j,v)) w:=by
    simp [Instr.findKey,aU GC.eq,a2]
   simp [execOp,hx a ha,hy a ha,Instr.lookup,aU hu.eq,hg,sV,this,a1]⟩
end
end Go.SL
namespace Go.Proofs.A1
open Go Go.SL
def lC (a b c:Int):Value:=.agg #[.int .i64 a,.int .i64 b,.int .i64 c]
abbrev PM:=List (ByteArray×Value)
def vX (l:List Sr):Nat→PM
 | 0=>[]
 | k + 1 => match l[k]? with
  | some x=>mG x.nm (lC (-1) (-1) x.mx) (vX l k)
  | none=>vX l k
def CF (m:PM) (l:List De):Nat→PM
 | 0=>m
 | k + 1 => match l[k]? with
  | some x=>mG x.nm (lC (k:Nat) x.mx (-1)) (CF m l k)
  | none=>CF m l k
def LC (m:PM) (n:Nat) (l:List Ti):Nat→PM
 | 0=>m
 | k + 1 => match l[k]? with
  | some x=>mG x.nm (lC ((n:Int)+(k:Nat)) x.fr x.to) (LC m n l k)
  | none=>LC m n l k
def oe (r:Ro):PM:=LC (CF (vX r.sr r.sr.length) r.de r.de.length) r.de.length r.ti r.ti.length
theorem Im {l:List Sr} {k:Nat} (h:k<l.length):vX l (k+1)=mG (l[k]).nm (lC (-1) (-1) (l[k]).mx) (vX l k):=by rw [vX,Zc h]
theorem Io {m:PM} {l:List De} {k:Nat} (h:k<l.length):CF m l (k+1)=mG (l[k]).nm (lC (k:Nat) (l[k]).mx (-1)) (CF m l k):=by rw [CF,Zc h]
theorem Il {m:PM} {n:Nat} {l:List Ti} {k:Nat} (h:k<l.length):LC m n l (k+1)=mG (l[k]).nm (lC ((n:Int)+(k:Nat)) (l[k]).fr (l[k]).to) (LC m n l k):=by rw [LC,Zc h]
set_option maxHeartbeats 1000000 in
theorem EL {r:Ro} {s d t p:Value} {w:World} (h:RR w r s d t p) (cI:r.de.length+r.ti.length≤1000000):bh Tryz.prog 186 [RA r s d t p] w [] (fun _:Nat=>True) (fun b=>.map (some b)) (fun b=>[mp (fun s:ByteArray=>Value.string s) b (oe r)]):=by
 have h1:=Rd.one h.sr
 have h2:=Rd.one h.de
 have h3:=Rd.one h.ti
 have h4:=Rd.one h.po
 have hs:=h.sr
 have hd:=h.de
 have BO:=h.ti
 obtain ⟨a1,er,PH,OS,rfl,pJ,iW,lR,kz⟩:=hs
 obtain ⟨a2,dB,PG,OR,rfl,ku,fb,jz,j6⟩:=hd
 obtain ⟨a3,ee,K9,Iw,rfl,nr,gB,tw,qk⟩:=BO
 rw [cE] at *
 rw [cg] at *
 rw [bY] at *
 unfold maxLen at iW fb gB
 unfold RA
 refine aQ Tryz.func186 rfl rfl ?_
 refine Jr<|Jy rfl rfl fun _ _=>Ja rfl<|Ji ?_
 rename_i b1 sX
 refine AX rfl ?_
 intro bm WA
 (refine Ja rfl<|Jn<|Jq<|Jr<|bP rfl rfl ae<|JL rfl (.there .here) rfl<|JI rfl<|Jv rfl<|Jn<|J0 ?_)
 refine aX (fun k:Nat=>k≤r.sr.length) (fun k=>[(14,.int .i64 k),(13,.int .i64 r.sr.length),(12,.slice a1 r.sr.length er),(3,.map (some bm)),(1,.pointer (some ⟨b1,0,none⟩))]) (fun k=>[mp (fun s:ByteArray=>Value.string s) bm (vX r.sr k),JP b1 r (.slice a1 r.sr.length er) (.slice a2 r.de.length dB) (.slice a3 r.ti.length ee) p]) (fun k=>r.sr.length-k) ?_ ?_
 ·apply aI 0 (show 0≤r.sr.length from Zi _)
  case hs1=>exact cd
  case ht=>
   exact .cons .here (.cons .here .nil)
 intro k hk
 by_cases aK:k<r.sr.length
 ·have cB:=lR (iJ aK)
  have aC:=(kz k _ (fQ aK)).2
  have jE:vX r.sr (k+1)=_:=Im aK
  unfold Sr.cells at aC
  unfold lC at jE
  generalize r.sr[k]=x at aC jE
  (refine Jr<|JA rfl<|Jn<|Jq<|Jd rfl fun ar=>Jk<|Jq<|J0<|Jr<|ab (fG cB ar) rfl<|ab (gS (eF.base aC rfl)) rfl<|Jz rfl rfl fun _ _=>aq (.of rfl) (.of rfl) .here rfl rfl (fN rfl rfl) (bF rfl) ak<|Jn<|Jg<|Jv rfl<|bP rfl rfl ae<|JL rfl .here rfl<|bP rfl rfl ae<|JL rfl .here rfl<|ab (aS (.cons (.of rfl) (.cons (.of rfl) (.cons (.of rfl) .nil))) ak) rfl ?_)
  refine mQ I3 (.of rfl) (.of rfl) (.of rfl) (.there .here) ?_
  refine Jx<|Jj<|Jt<|Jg<|JB rfl (by omega)<|Jv rfl<|Jn ?_
  apply aJ (k+1) (show k+1≤r.sr.length by omega) (show r.sr.length-(k+1)<r.sr.length-k by omega)
  case hs1=>exact cd
  case ht=>
   show bz _ [mp (fun s:ByteArray=>Value.string s) bm (vX r.sr (k+1)),JP b1 r (.slice a1 r.sr.length er) (.slice a2 r.de.length dB) (.slice a3 r.ti.length ee) p] _
   rw [jE]
   exact .cons .here (.cons (.there .here) .nil)
 obtain rfl:k=r.sr.length:=by omega
 (refine Jr<|JA rfl<|Jn<|Jq<|Jc rfl fun ar=>Jp<|Jl<|Jo<|Jt<|Jq<|Jr<|bP rfl rfl ae<|JL rfl (.there .here) rfl<|JI rfl<|Jv rfl<|Jn<|J0 ?_)
 refine aX (fun k:Nat=>k≤r.de.length) (fun k=>[(28,.int .i64 k),(27,.int .i64 r.de.length),(26,.slice a2 r.de.length dB),(3,.map (some bm)),(1,.pointer (some ⟨b1,0,none⟩))]) (fun k=>[mp (fun s:ByteArray=>Value.string s) bm (CF (vX r.sr r.sr.length) r.de k),JP b1 r (.slice a1 r.sr.length er) (.slice a2 r.de.length dB) (.slice a3 r.ti.length ee) p]) (fun k=>r.de.length-k) ?_ ?_
 ·apply aI 0 (show 0≤r.de.length from Zi _)
  case hs1=>exact cd
  case ht=>
   exact .cons .here (.cons .here .nil)
 intro k hk
 by_cases aK:k<r.de.length
 ·have cB:=jz (gJ aK)
  have aC:=(j6 k _ (fj aK)).2
  have jE:CF (vX r.sr r.sr.length) r.de (k+1)=_:=Io aK
  unfold De.cells at aC
  unfold lC at jE
  generalize r.de[k]=x at aC jE
  (refine Jr<|JA rfl<|Jn<|Jq<|Jd rfl fun ar=>Jk<|Jq<|J0<|Jr<|Jv rfl<|ab (fG cB ar) rfl<|ab (gS (eF.base aC rfl)) rfl<|Jz rfl rfl fun _ _=>Ja rfl<|aq (.of rfl) (.of rfl) .here rfl rfl (fo rfl rfl rfl) (bF rfl) ak<|Jn<|Jg<|Jv rfl<|bP rfl rfl ae<|JL rfl .here rfl<|Jv rfl<|bP rfl rfl ae<|JL rfl .here rfl<|ab (aS (.cons (.of rfl) (.cons (.of rfl) (.cons (.of rfl) .nil))) ak) rfl ?_)
  refine mQ I3 (.of rfl) (.of rfl) (.of rfl) (.there .here) ?_
  refine Jx<|Jj<|Jt<|Jg<|JB rfl (by omega)<|Jv rfl<|Jn ?_
  apply aJ (k+1) (show k+1≤r.de.length by omega) (show r.de.length-(k+1)<r.de.length-k by omega)
  case hs1=>exact cd
  case ht=>
   show bz _ [mp (fun s:ByteArray=>Value.string s) bm (CF (vX r.sr r.sr.length) r.de (k+1)),JP b1 r (.slice a1 r.sr.length er) (.slice a2 r.de.length dB) (.slice a3 r.ti.length ee) p] _
   rw [jE]
   exact .cons .here (.cons (.there .here) .nil)
 obtain rfl:k=r.de.length:=by omega
 (refine Jr<|JA rfl<|Jn<|Jq<|Jc rfl fun ar=>Jp<|Jl<|Jo<|Jt<|Jq<|Jr<|bP rfl rfl ae<|JL rfl (.there .here) rfl<|JI rfl<|Jv rfl<|Jn<|J0 ?_)
 refine aX (fun k:Nat=>k≤r.ti.length) (fun k=>[(44,.int .i64 k),(43,.int .i64 r.ti.length),(42,.slice a3 r.ti.length ee),(3,.map (some bm)),(1,.pointer (some ⟨b1,0,none⟩))]) (fun k=>[mp (fun s:ByteArray=>Value.string s) bm (LC (CF (vX r.sr r.sr.length) r.de r.de.length) r.de.length r.ti k),JP b1 r (.slice a1 r.sr.length er) (.slice a2 r.de.length dB) (.slice a3 r.ti.length ee) p]) (fun k=>r.ti.length-k) ?_ ?_
 ·apply aI 0 (show 0≤r.ti.length from Zi _)
  case hs1=>exact cd
  case ht=>
   exact .cons .here (.cons .here .nil)
 intro k hk
 by_cases aK:k<r.ti.length
 ·have cB:=tw (fq aK)
  have aC:=(qk k _ (eB aK)).2
  have jE:LC (CF (vX r.sr r.sr.length) r.de r.de.length) r.de.length r.ti (k+1)=_:=Il aK
  unfold Ti.cells at aC
  unfold lC at jE
  generalize r.ti[k]=x at aC jE
  (refine Jr<|JA rfl<|Jn<|Jq<|Jd rfl fun ar=>Jk<|Jq<|J0<|Jr<|Jv rfl<|ab (fG cB ar) rfl<|ab (gS (eF.base aC rfl)) rfl<|Jz rfl rfl fun _ _=>Ja rfl<|aq (.of rfl) (.of rfl) .here rfl rfl (fo rfl rfl rfl) (bF rfl) ak<|Jn<|Jg<|Jv rfl<|bP rfl rfl ae<|JL rfl .here rfl<|bP rfl rfl ae<|JL rfl bT rfl<|JI rfl<|Jv rfl<|JB rfl (by omega)<|bP rfl rfl ae<|JL rfl .here rfl<|bP rfl rfl ae<|JL rfl .here rfl<|ab (aS (.cons (.of rfl) (.cons (.of rfl) (.cons (.of rfl) .nil))) ak) rfl ?_)
  refine mQ I3 (.of rfl) (.of rfl) (.of rfl) (.there .here) ?_
  refine Jx<|Jj<|Jt<|Jg<|JB rfl (by omega)<|Jv rfl<|Jn ?_
  apply aJ (k+1) (show k+1≤r.ti.length by omega) (show r.ti.length-(k+1)<r.ti.length-k by omega)
  case hs1=>exact cd
  case ht=>
   show bz _ [mp (fun s:ByteArray=>Value.string s) bm (LC (CF (vX r.sr r.sr.length) r.de r.de.length) r.de.length r.ti (k+1)),JP b1 r (.slice a1 r.sr.length er) (.slice a2 r.de.length dB) (.slice a3 r.ti.length ee) p] _
   rw [jE]
   exact .cons .here (.cons (.there .here) .nil)
 obtain rfl:k=r.ti.length:=by omega
 refine Jr<|JA rfl<|Jn<|Jq<|Jc rfl fun ar=>Jp<|Jl<|Jo<|Jt<|Jr<|Jv rfl<|Ja rfl<|Jn<|Je ?_
 first | with_reducible apply aN | with_reducible apply aO
 case he=>exact dD rfl rfl
 case hR=>
  intro w' aB
  exact aF bm trivial (show bz _ [mp (fun s:ByteArray=>Value.string s) bm (oe r)] _ from by unfold oe;exact .cons .here .nil) aB rfl
theorem cn {w w':World} {a:Addr} {v:Value} (h:w.cell? a=some v) (hs:a.spot=none) (hk:aH [] w w'):w'.cell? a=some v:=by
 have hb:=World.block_lt_of_cell? w a h
 obtain ⟨b,o,s⟩:=a
 subst hs
 have:=hk.block b hb (by simp)
 rw [← h]
 simp [World.cell?,this]
theorem k7 {P:Program} {c:Cx} {sl:aG} {hs:List a8} {dst:Option Tmp} {ty:TypeId} {pos:String} {af:Array Edge} {g:Option (Nat×Bool)} {x y z:Operand} {q:Bool} {v u V:Value} (hx:Is sl x (.bool q)) (hy:Is sl y v) (hz:Is sl z u) (e:(bif q then v else u)=V):cR P c sl hs ⟨dst,.pick x y z,ty,pos,af,g⟩ V:=e ▸ tN hx hy hz
theorem o7 {α:Type} (p:α→Bool) (l:List α):(gP p l = -1∧l.find? p=none)∨∃ i,∃ h:i<l.length,gP p l=(i:Nat)∧l.find? p=some l[i]:=by
 cases hf:l.find? p with
 | none =>
  rw [ZaH] at hf
  refine .inl ⟨fv fun i hi=>?_,rfl⟩
  simpa [hi] using hf l[i] (Zj hi)
 | some x =>
  obtain ⟨hp,i,hi,rfl,hb⟩:=ZaA.1 hf
  refine .inr ⟨i,hi,gp (fun j hj=>?_) hi hp,rfl⟩
  have:=hb j hj
  simpa [show j<l.length by omega] using this
theorem QU (x:Po) {b1 b2:Nat} {v:Int} {o:ByteArray} {w:World} (f1:w.cell? ⟨b1,0,none⟩=some (.int .i64 v)) (f2:w.cell? ⟨b2,0,none⟩=some (.string o)) :
  aj Tryz.prog 298 [.agg x.cells.toArray,.pointer (some ⟨b1,0,none⟩),.pointer (some ⟨b2,0,none⟩)] w (.bool (Ee v o x)):=by
 unfold Po.cells
 refine ah Tryz.func298 rfl rfl ?_
 (refine Jr<|Jy rfl rfl fun _ _=>Ja rfl<|Ji<|ab (cL .here) rfl<|ab (ag (.of rfl) (At.base f1 rfl)) rfl<|ab (ag (.of rfl) (At.base f2 rfl)) rfl<|bP rfl rfl ae<|JL rfl .here rfl<|ab (aS (.cons (.of rfl) (.cons (.of rfl) (.cons (.of rfl) .nil))) ak) rfl<|ab (tP (.of rfl) (.of rfl) (jQ (eY (eY lP))) rfl) rfl<|Ja rfl<|Jn<|Je<|JT ?_)
 simp [Ee]
theorem P2 (x:Po) {b1 b2:Nat} {v:Int} {o:ByteArray} {w:World} (f1:w.cell? ⟨b1,0,none⟩=some (.int .i64 v)) (f2:w.cell? ⟨b2,0,none⟩=some (.string o)) :
  aj Tryz.prog 302 [.agg x.cells.toArray,.pointer (some ⟨b1,0,none⟩),.pointer (some ⟨b2,0,none⟩)] w (.bool (zK v o x)):=by
 unfold Po.cells
 refine ah Tryz.func302 rfl rfl ?_
 (refine Jr<|Jy rfl rfl fun _ _=>Ja rfl<|Ji<|ab (cL .here) rfl<|ab (ag (.of rfl) (At.base f1 rfl)) rfl<|bP rfl rfl ae<|JL rfl .here rfl<|ab (ag (.of rfl) (At.base f2 rfl)) rfl<|ab (aS (.cons (.of rfl) (.cons (.of rfl) (.cons (.of rfl) .nil))) ak) rfl<|ab (tP (.of rfl) (.of rfl) (jQ (eY (eY lP))) rfl) rfl<|Ja rfl<|Jn<|Je<|JT ?_)
 simp [zK]
theorem zH {r:Ro} {s d t p:Value} (v:Int) (o:ByteArray) {w:World} (h:RR w r s d t p):aj Tryz.prog 223 [RA r s d t p,.int .i64 v,.string o] w (.tuple #[.string ((ez r.po v o).getD ⟨#[]⟩),.bool (ez r.po v o).isSome]):=by
 have h1:=Rd.one h.sr
 have h2:=Rd.one h.de
 have h3:=Rd.one h.ti
 have hp:=h.po
 obtain ⟨a,cp,b,o',rfl,c7,bQ,ha,hc⟩:=hp
 rw [cT] at *
 unfold maxLen at bQ
 unfold RA
 refine ah Tryz.func223 rfl rfl ?_
 (refine Jr<|Jy rfl rfl fun _ _=>Jy rfl rfl fun _ _=>Jy rfl rfl fun _ _=>Ja rfl<|Ja rfl<|Ji<|bP rfl rfl ae<|JL rfl bT rfl<|ab (bA .nil (.cons (.of rfl) (.cons (.of rfl) .nil))) rfl ?_)
 rename_i b3 vo b4 wb b5 NQ
 with_reducible apply ai
 case hr=>exact bd
 case hd=>rfl
 case hc=>
  intro w' aB
  have f1:w'.cell? ⟨b4,0,none⟩=some (.int .i64 v):=At.lit (by exact Take.there .here) rfl w' aB
  have f2:w'.cell? ⟨b5,0,none⟩=some (.string o):=At.lit (by exact .here) rfl w' aB
  exact zL (f:=298) (p:=Ee v o) (first:=[]) (cap:=[.pointer (some ⟨b4,0,none⟩),.pointer (some ⟨b5,0,none⟩)]) (h.po.keeps aB.keeps)
   (fun x hx w2 eH=>QU x (cn f1 rfl eH) (cn f2 rfl eH))
 have oC:ez r.po v o=(r.po.find? (Ee v o)).map Po.ip:=rfl
 rcases o7 (Ee v o) r.po with ⟨e1,e2⟩ | ⟨i,hi,e1,e2⟩
 ·rw [e1]
  rw [e2] at oC
  rw [oC]
  refine Ja rfl<|Jn<|Jq<|Jr<|Jv rfl<|JA rfl<|Jn<|Jd rfl fun ar=>Jr<|Ja rfl<|Ja rfl<|Jn<|Ju<|oT rfl (fY rfl rfl rfl) ?_
  rfl
 ·rw [e1]
  rw [e2] at oC
  rw [oC]
  have cB:=ha (kg hi)
  have aC:=(hc i _ (iq hi)).2
  unfold Po.cells at aC
  have j6:=aC 2 _ rfl
  (refine Ja rfl<|Jn<|Jq<|Jr<|Jv rfl<|JA rfl<|Jn<|Jc rfl fun ar=>Jk<|Jr<|bP rfl rfl ae<|JL rfl bT rfl<|Jv rfl<|ab (az (.of rfl) (.of rfl) cB (by omega) (by omega) bj) rfl<|bP rfl rfl ae<|ab (ag (.of rfl) (At.base j6 rfl)) rfl<|Ja rfl<|Ja rfl<|Jn<|Je<|oT rfl (fY rfl rfl rfl) ?_)
  rfl
theorem Ho {r:Ro} {s d t p:Value} (v:Int) (o:ByteArray) {w:World} (h:RR w r s d t p):aj Tryz.prog 239 [RA r s d t p,.int .i64 v,.string o] w (.bool (ny r.po v o)):=by
 have h1:=Rd.one h.sr
 have h2:=Rd.one h.de
 have h3:=Rd.one h.ti
 have h4:=Rd.one h.po
 unfold RA
 refine ah Tryz.func239 rfl rfl ?_
 (refine Jr<|Jy rfl rfl fun _ _=>Jy rfl rfl fun _ _=>Jy rfl rfl fun _ _=>Ja rfl<|Ji<|bP rfl rfl ae<|JL rfl bT rfl<|ab (bA .nil (.cons (.of rfl) (.cons (.of rfl) .nil))) rfl ?_)
 rename_i b3 vo b4 wb b5 NQ
 with_reducible apply ai
 case hr=>exact bd
 case hd=>rfl
 case hc=>
  intro w' aB
  have f1:w'.cell? ⟨b4,0,none⟩=some (.int .i64 v):=At.lit (by exact Take.there .here) rfl w' aB
  have f2:w'.cell? ⟨b5,0,none⟩=some (.string o):=At.lit (by exact .here) rfl w' aB
  exact NT (f:=302) (p:=zK v o) (first:=[]) (cap:=[.pointer (some ⟨b4,0,none⟩),.pointer (some ⟨b5,0,none⟩)]) (h.po.keeps aB.keeps)
   (fun x hx w2 eH=>P2 x (cn f1 rfl eH) (cn f2 rfl eH))
 refine Ja rfl<|Jn<|Je<|JT ?_
 rfl
theorem uP {r:Ro} {s d t p:Value} (v:Int) (o:ByteArray) {w w1:World} (h:RR w1 r s d t p) :
  bh Tryz.prog 116 [RA r s d t p,.int .i64 v,.string o] w [] (fun _:Nat×Nat×Nat=>True) (fun x=>.func (.func 222) #[] #[.pointer (some ⟨x.1,0,none⟩),.pointer (some ⟨x.2.1,0,none⟩),.pointer (some ⟨x.2.2,0,none⟩)])
   (fun x=>[bG x.1 (.cells #[.string o] 9 (0,0)),JP x.2.1 r s d t p,bG x.2.2 (.cells #[.int .i64 v] 3 (0,0))]):=by
 have h1:=Rd.one h.sr
 have h2:=Rd.one h.de
 have h3:=Rd.one h.ti
 have h4:=Rd.one h.po
 unfold RA
 refine aQ Tryz.func116 rfl rfl ?_
 (refine Jr<|Jy rfl rfl fun _ _=>Jy rfl rfl fun _ _=>Jy rfl rfl fun _ _=>Ja rfl<|Ji<|ab (bA .nil (.cons (.of rfl) (.cons (.of rfl) (.cons (.of rfl) .nil)))) rfl<|Ja rfl<|Jn<|Je ?_)
 rename_i b3 vo b4 wb b5 NQ
 first | with_reducible apply aN | with_reducible apply aO
 case he=>exact dD rfl rfl
 case hR=>
  intro w' aB
  exact aF (b5,b3,b4) trivial (by exact .cons .here (.cons (.there .here) (.cons .here .nil))) aB rfl
structure RO (md:List Nat) (r:Ro) (s d t p:Value):Prop where
 sr:Out md s (uC r.sr)
 de:Out md d (ue r.de)
 ti:Out md t (tK r.ti)
 po:Out md p (sJ r.po)
theorem RO.nil {r:Ro} {s d t p:Value}:RO [] r s d t p:=⟨Out.nil _ _,Out.nil _ _,Out.nil _ _,Out.nil _ _⟩
theorem RR.jw {md:List Nat} {w w':World} {r:Ro} {s d t p:Value} (h:RR w r s d t p) (hn:RO md r s d t p) (hk:aH md w w'):RR w' r s d t p:=⟨h.sr.jw hn.sr hk,h.de.jw hn.de hk,h.ti.jw hn.ti hk,h.po.jw hn.po hk⟩
theorem RR.out {md fp:List Nat} {w0:World} {r:Ro} {s d t p:Value} (h:RR w0 r s d t p) (hn:RO md r s d t p) (hF:∀ b∈fp,b∈md∨w0.heap.size≤b):RO fp r s d t p:=⟨h.sr.out (by omega) hn.sr hF,h.de.out (by omega) hn.de hF,h.ti.out (by omega) hn.ti hF,h.po.out (by omega) hn.po hF⟩
def wC (po:List Po) (v:Int) (k:Nat) (o:ByteArray):List (List Value):=(eW po v k o).map fun x=>[.string x]
theorem q6 (po:List Po) (v:Int) (k:Nat) (o:ByteArray):(wC po v k o).length=(eW po v k o).length:=by simp [wC]
theorem DH {po:List Po} {v:Int} {k:Nat} {o a:ByteArray} (h:mg po v k o=some a):mg po v (k+1) o=ez po v a:=by
 rw [jS,h]
 show (ez po v a).bind (mg po v 0)=_
 cases ez po v a <;> rfl
theorem Fw {po:List Po} {v:Int} {k K:Nat} {o a:ByteArray} (h:mg po v k o=some a) (hk:k≤K) (hn:ez po v a=none∨k=K):(eW po v K o).length=k:=by
 have hl:=jU po v K o
 have h1:k≤(eW po v K o).length:=by
  cases k with
  | zero=>exact Zi _
  | succ k =>
   have:=nk (po:=po) (v:=v) (o:=o) (show k<K by omega)
   rw [h] at this
   exact (Zl.1 this).1
 rcases hn with hn | rfl
 ·by_cases e:k=K
  ·omega
  ·have:=nk (po:=po) (v:=v) (o:=o) (show k<K by omega)
   rw [DH h,hn,List.getElem?_eq_none_iff] at this
   omega
 ·omega
theorem M0 {po:List Po} {v:Int} {k K:Nat} {o a i:ByteArray} (h:mg po v k o=some a) (hk:k<K) (hi:ez po v a=some i):(wC po v K o)[k]? = some [.string i]:=by
 unfold wC
 rw [ZD,nk hk,DH h,hi];rfl
set_option maxHeartbeats 1000000 in
theorem Dx {r:Ro} {s d t p:Value} {b1 b2 b3:Nat} (v:Int) (o:ByteArray) {w0 w:World} {md:List Nat} (h:RR w0 r s d t p) (hn:RO md r s d t p) (cI:r.ti.length≤1000000) :
  Iter Tryz.prog 222 [] [.pointer (some ⟨b1,0,none⟩),.pointer (some ⟨b2,0,none⟩),.pointer (some ⟨b3,0,none⟩)] [bG b1 (.cells #[.string o] 9 (0,0)),JP b2 r s d t p,bG b3 (.cells #[.int .i64 v] 3 (0,0))] (wC r.po v (r.ti.length+1) o) w0 md w:=by
 intro l fp J E hB hF kU hs hy
 have hR:=h.jw hn hB
 have hO:=h.out hn hF
 rw [q6]
 have h1:=Rd.one hR.sr
 have h2:=Rd.one hR.de
 have h4:=Rd.one hR.po
 have hti:=hR.ti
 obtain ⟨a,cp,b,o',rfl,c7,bQ,ha,hc⟩:=hti
 rw [bY] at *
 unfold maxLen at bQ
 refine eb Tryz.func222 rfl rfl kU hs ?_
 (refine Jr<|JL rfl (.there .here) rfl<|Ja rfl<|Ji<|bP rfl rfl ae<|JL rfl bT rfl<|JI rfl<|JB rfl (by omega)<|Jv rfl<|Jn<|J0 ?_)
 refine aX (ι:=Nat×ByteArray) (fun x=>x.1≤r.ti.length+1∧mg r.po v x.1 o=some x.2) (fun x=>[(13,.int .i64 (x.1:Nat)),(12,.int .i64 ((r.ti.length:Int)+1)),(5,.string x.2),(0,.func (.yield l) #[] #[]),(2,.pointer (some ⟨b2,0,none⟩)),(3,.pointer (some ⟨b3,0,none⟩))])
  (fun x=>[J x.1,bG b1 (.cells #[.string o] 9 (0,0)),JP b2 r s d (.slice a r.ti.length cp) p,bG b3 (.cells #[.int .i64 v] 3 (0,0))]) (fun x=>r.ti.length+1-x.1) ?_ ?_
 ·apply aI (0,o) ⟨Zi _,rfl⟩
  case hs1=>exact cd
  case ht=>(try simp only [Ze,Zf,Za]);exact .cons .here (.cons .here (.cons .here (.cons .here .nil)))
 rintro ⟨k,at_⟩ ⟨hk,hit⟩
 dsimp only at hk hit ⊢
 by_cases aK:k<r.ti.length+1
 ·have UR:∀ w',aH fp w w'→aj Tryz.prog 223 [.agg #[.int .i64 r.lv,.int .i64 r.ma,s,d,.slice a r.ti.length cp,p],.int .i64 v,.string at_] w' (.tuple #[.string ((ez r.po v at_).getD ⟨#[]⟩),.bool (ez r.po v at_).isSome]):=fun w' hk=>zH v at_ (hR.jw hO hk)
  cases hi:ez r.po v at_ with
  | none =>
   have oC:∀ w',aH fp w w'→aj Tryz.prog 223 [.agg #[.int .i64 r.lv,.int .i64 r.ma,s,d,.slice a r.ti.length cp,p],.int .i64 v,.string at_] w' (.tuple #[.string ⟨#[]⟩,.bool false]):=fun w' hk=>by
    have:=UR w' hk
    rwa [hi] at this
   have bb:=Fw hit hk (.inl hi)
   (refine Jr<|JA rfl<|Jn<|Jq<|Jd rfl fun ar=>Jk<|Jq<|J0<|Jr<|ab (cL bT) rfl<|JL rfl c6 rfl<|Jv rfl<|ai eK rfl (fun w' aB=>(oC w' (Mem.keeps aB)))<|Jv rfl<|JJ rfl rfl<|JJ rfl rfl<|Ja rfl<|Ja rfl<|Jn<|Jq<|Jr<|Jv rfl<|JH rfl<|Jv rfl<|gr rfl rfl rfl rfl<|gr rfl rfl rfl rfl<|dC rfl rfl rfl rfl<|aA rfl rfl inferInstance (fun hg bB=>(dV (.bI bB rfl))) rfl<|ab (aZ (.of rfl) rfl) rfl<|Jn<|cF (.of rfl)<|Ju<|Jm<|Jh<|Jh<|Jm ?_)
   first | with_reducible apply aN | with_reducible apply aO
   case he=>exact pL rfl
   case hR=>
    intro w' aB
    exact aF true trivial (show bz _ [J (eW r.po v (r.ti.length+1) o).length,_,_,_] _ by rw [bb];exact .cons .here (.cons .here (.cons .here (.cons .here .nil)))) aB rfl
  | some nx =>
   have oC:∀ w',aH fp w w'→aj Tryz.prog 223 [.agg #[.int .i64 r.lv,.int .i64 r.ma,s,d,.slice a r.ti.length cp,p],.int .i64 v,.string at_] w' (.tuple #[.string nx,.bool true]):=fun w' hk=>by
    have:=UR w' hk
    rwa [hi] at this
   have T2:=hy k _ (M0 hit aK hi)
   have Ye:mg r.po v (k+1) o=some nx:=by rw [DH hit,hi]
   (refine Jr<|JA rfl<|Jn<|Jq<|Jd rfl fun ar=>Jk<|Jq<|J0<|Jr<|ab (cL bT) rfl<|JL rfl c6 rfl<|Jv rfl<|ai eK rfl (fun w' aB=>(oC w' (Mem.keeps aB)))<|Jv rfl<|JJ rfl rfl<|JJ rfl rfl<|Ja rfl<|Ja rfl<|Jn<|Jq<|Jr<|Jv rfl<|JH rfl<|Jv rfl<|JK rfl rfl<|Jv rfl<|JK rfl rfl<|Jv rfl<|JK rfl rfl ?_)
   with_reducible apply xj hB hF T2
   case hx=>exact Is.of rfl
   case ha=>exact .cons (.of rfl) .nil
   case hd=>rfl
   case ht=>exact .here
   intro q
   cases q with
   | false =>
    simp only [cond_false]
    (refine JK rfl rfl<|JH rfl<|ab (k7 (.of rfl) (.of rfl) (.of rfl) rfl) rfl<|Jn<|cF (.of rfl)<|Ju<|Jm<|Jh<|Jh<|Jm ?_)
    first | with_reducible apply aN | with_reducible apply aO
    case he=>exact pL rfl
    case hR=>
     intro w' aB
     exact aF false trivial (by exact .cons .here (.cons .here (.cons .here (.cons .here .nil)))) aB rfl
   | true =>
    simp only [cond_true]
    (refine JK rfl rfl<|JH rfl<|ab (k7 (.of rfl) (.of rfl) (.of rfl) rfl) rfl<|Jn<|bN (.of rfl)<|Jk<|Jg<|Jv rfl<|Ja rfl<|Jx<|Jj<|Jt<|Jg<|JB rfl (by omega)<|Jv rfl<|Jn ?_)
    apply aJ (k+1,nx) ⟨show k+1≤r.ti.length+1 by omega,Ye⟩ (show r.ti.length+1-(k+1)<r.ti.length+1-k by omega)
    case hs1=>exact cd
    case ht=>(try simp only [Ze,Zf,Za]);exact .cons .here (.cons .here (.cons .here (.cons .here .nil)))
 ·obtain rfl:k=r.ti.length+1:=by omega
  have bb:=Fw hit hk (.inr rfl)
  refine Jr<|JA rfl<|Jn<|Jq<|Jc rfl fun ar=>Jp<|Jl<|Jo ?_
  first | with_reducible apply aN | with_reducible apply aO
  case he=>exact pL rfl
  case hR=>
   intro w' aB
   exact aF true trivial (show bz _ [J (eW r.po v (r.ti.length+1) o).length,_,_,_] _ by rw [bb];exact .cons .here (.cons .here (.cons .here (.cons .here .nil)))) aB rfl
def RC (r:Ro) (s d t p:Value):List Value:=[.int .i64 r.lv,.int .i64 r.ma,s,d,t,p]
def BR (w:World) (b:Nat) (cs:List Value):Prop:=∀ (j:Nat) (u:Value),cs[j]? = some u→w.cell? ⟨b,0+j,none⟩=some u
theorem BR.keeps {w w':World} {b:Nat} {cs:List Value} (h:BR w b cs) (hk:aH [] w w'):BR w' b cs:=fun j u hu=>cn (h j u hu) rfl hk
theorem BR.of {c:Cx} {hs hs':List a8} {w:World} (hm:Mem c hs w) {b:Nat} {cs:List Value} {E:TypeId} {fz:Nat×Nat} (ht:Take hs (bG b (.cells cs.toArray E fz)) hs'):BR w b cs:=fun j u hu=>by
 rw [ZB]
 exact At.mF ht hu w hm
theorem Bp {P:Program} {c:Cx} {sl:aG} {hs:List a8} {dst:Option Tmp} {ty:TypeId} {pos:String} {af:Array Edge} {g:Option (Nat×Bool)} {t u:TypeId} {x y:Operand} {a b:Bool} [hu:iF P t .bool] (hx:Is sl x (.bool a)) (hy:Is sl y (.bool b)) :
  cR P c sl hs ⟨dst,.binOp .neq t x y u,ty,pos,af,g⟩ (.bool (a != b)):=
 iL hx hy fun w=>by
  have:(Op.equal t (.bool a) (.bool b)).run P w=.ok (a==b) w:=by
   exact EW (d:=9999) (by rw [hu.eq];rfl) (fun k h=>by rw [hu.eq] at h;cases h) (fun h=>by rw [hu.eq] at h;cases h) (fun _=>⟨a,rfl⟩) rfl
  simp [Ae,binOp,this,bne]
def IE (r:Ro) (v:Int) (x:Ti):Bool:=jq r.po v x.nm != ny r.po v x.nm
def LP (r:Ro) (v:Int) (x:Ti):Bool:=iX (eW r.po v (r.ti.length+1) x.nm) x.nm
theorem M5 {r:Ro} {s d t p:Value} (v:Int) (x:Ti) {b1 b2:Nat} {w:World} (h:RR w r s d t p) (hA:BR w b1 (RC r s d t p)) (f2:w.cell? ⟨b2,0,none⟩=some (.int .i64 v)) :
  aj Tryz.prog 238 [.agg x.cells.toArray,.pointer (some ⟨b1,0,none⟩),.pointer (some ⟨b2,0,none⟩)] w (.bool (IE r v x)):=by
 have h1:=Rd.one h.sr
 have h2:=Rd.one h.de
 have h3:=Rd.one h.ti
 have h4:=Rd.one h.po
 have j7:∀ (j:Nat) (u:Value),[Value.int .i64 r.lv,.int .i64 r.ma,s,d,t,p][j]? = some u→w.cell? ⟨b1,0+j,none⟩=some u:=hA
 unfold Ti.cells
 refine ah Tryz.func238 rfl rfl ?_
 (refine Jr<|Jy rfl rfl fun _ _=>Ja rfl<|Ji<|ab (gS (eF.base j7 rfl)) rfl<|ab (ag (.of rfl) (At.base f2 rfl)) rfl<|bP rfl rfl ae<|JL rfl .here rfl ?_)
 refine ai eK rfl (fun w' aB=>zH (s:=s) (d:=d) (t:=t) (p:=p) v x.nm (h.keeps aB.keeps)) ?_
 (refine Jv rfl<|JJ rfl rfl<|JJ rfl rfl<|Ja rfl<|Ja rfl<|Ji<|Jv rfl<|ab (gS (eF.base j7 rfl)) rfl<|ab (ag (.of rfl) (At.base f2 rfl)) rfl<|bP rfl rfl ae<|JL rfl .here rfl ?_)
 refine ai eK rfl (fun w' aB=>Ho (s:=s) (d:=d) (t:=t) (p:=p) v x.nm (h.keeps aB.keeps)) ?_
 skip
 refine ab (Bp (.of rfl) (.of rfl)) rfl ?_
 refine Ja rfl<|Jn<|Je<|JT ?_
 rfl
theorem QH {r:Ro} {s d t p:Value} (v:Int) {w:World} (h:RR w r s d t p):aj Tryz.prog 150 [RA r s d t p,.int .i64 v] w (.bool (r.ti.any (IE r v))):=by
 have h1:=Rd.one h.sr
 have h2:=Rd.one h.de
 have h3:=Rd.one h.ti
 have h4:=Rd.one h.po
 unfold RA
 refine ah Tryz.func150 rfl rfl ?_
 (refine Jr<|Jy rfl rfl fun _ _=>Jy rfl rfl fun _ _=>Ja rfl<|Ji<|bP rfl rfl ae<|JL rfl (.there .here) rfl<|ab (bA .nil (.cons (.of rfl) (.cons (.of rfl) .nil))) rfl ?_)
 rename_i b3 vo b4 wb
 with_reducible apply ai
 case hr=>exact bd
 case hd=>rfl
 case hc=>
  intro w' aB
  have hA:BR w' b3 [.int .i64 r.lv,.int .i64 r.ma,s,d,t,p]:=BR.of aB (by exact Take.there .here)
  have f2:w'.cell? ⟨b4,0,none⟩=some (.int .i64 v):=At.lit (by exact .here) rfl w' aB
  have hR:=h.keeps aB.keeps
  exact zX (f:=238) (p:=IE r v) (first:=[]) (cap:=[.pointer (some ⟨b3,0,none⟩),.pointer (some ⟨b4,0,none⟩)]) hR.ti
   (fun x hx w2 eH=>M5 v x (hR.keeps eH) (hA.keeps eH) (cn f2 rfl eH))
 refine Ja rfl<|Jn<|Je<|JT ?_
 rfl
theorem PO {r:Ro} {s d t p:Value} {q:Int→Bool} {f:FuncId} {first cap:List Value} [bM Tryz.prog f] {w w1:World} (h:RR w1 r s d t p) (zR:r.lv≤1000000)
  (cr:∀ v:Int,0≤v→v<r.lv→∀ w',aH [] w w'→aj Tryz.prog f (first++[.int .i64 v]++cap) w' (.bool (q v))) :
  aj Tryz.prog 148 [RA r s d t p,.func (.func f) first.toArray cap.toArray] w (.bool ((List.range r.lv.toNat).any fun i=>q (i:Nat))):=by
 have h1:=Rd.one h.sr
 have h2:=Rd.one h.de
 have h3:=Rd.one h.ti
 have h4:=Rd.one h.po
 unfold RA
 refine ah Tryz.func148 rfl rfl ?_
 (refine Jr<|Jy rfl rfl fun _ _=>Ja rfl<|Jn<|Jq<|Jr<|bP rfl rfl ae<|JL rfl .here rfl<|Jv rfl<|Jn<|J0 ?_)
 refine aX (ι:=Nat) (fun k=>k≤r.lv.toNat∧∀ i,i<k→q (i:Nat)=false) (fun k=>[(8,.int .i64 (k:Nat)),(7,.int .i64 r.lv),(1,.func (.func f) first.toArray cap.toArray)]) (fun k=>[]) (fun k=>r.lv.toNat-k) ?_ ?_
 ·apply aI 0 ⟨Zi _,fun i h=>by omega⟩
  case hs1=>exact cd
  case ht=>(try simp only [Ze,Zf,Za]);exact .nil
 rintro k ⟨hk,hz⟩
 by_cases aK:k<r.lv.toNat
 ·have E8:((k:Nat):Int)<r.lv:=by omega
  refine Jr<|JA rfl<|Jn<|Jq<|Jd rfl fun ar=>Jk<|Jq<|J0<|Jr<|Jv rfl<|Ja rfl<|Ji<|Jv rfl<|Jv rfl ?_
  refine ai bL rfl (fun w' aB=>cr (k:Nat) (by omega) E8 w' aB.keeps) ?_
  cases hq:q (k:Nat) with
  | true =>
   have e:(List.range r.lv.toNat).any (fun i=>q (i:Nat))=true:=ZM.2 ⟨k,ZT.2 aK,hq⟩
   rw [e]
   (refine Jn<|cF (.of rfl)<|Jr<|Ja rfl<|Jn<|Je<|Jm<|Jh<|Jh<|Jm<|Jh<|JT ?_)
   rfl
  | false =>
   (refine Jn<|bN (.of rfl)<|Jw<|Jj<|Jt<|Jg<|JB rfl (by omega)<|Jv rfl<|Jn ?_)
   have JU:∀ i,i<k+1→q (i:Nat)=false:=fun i hi=>by
    by_cases e:i=k
    ·rw [e];exact hq
    ·exact hz i (by omega)
   apply aJ (k+1) ⟨show k+1≤r.lv.toNat by omega,JU⟩ (show r.lv.toNat-(k+1)<r.lv.toNat-k by omega)
   case hs1=>exact cd
   case ht=>(try simp only [Ze,Zf,Za]);exact .nil
 ·have e:(List.range r.lv.toNat).any (fun i=>q (i:Nat))=false:=by
   rw [Zal]
   intro i hi
   simp [hz i (by have:=ZT.1 hi;omega)]
  rw [e]
  refine Jr<|JA rfl<|Jn<|Jq<|Jc rfl fun ar=>Jp<|Jl<|Jo<|Jt<|Jr<|Ja rfl<|Jn<|Je<|JT ?_
  rfl
theorem Sf {po:List Po} {v:Int} {K:Nat} {o:ByteArray}:mg po v (eW po v K o).length o=some (iz po v K o):=by
 unfold iz
 rcases Nat.eq_zero_or_pos (eW po v K o).length with h | h
 ·rw [Zan.1 h];rfl
 ·obtain ⟨k,hk⟩:∃ k,(eW po v K o).length=k+1:=⟨(eW po v K o).length-1,by omega⟩
  have hl:=jU po v K o
  have:=nk (po:=po) (v:=v) (o:=o) (show k<K by omega)
  rw [hk,← this,List.getLast?_eq_getElem?,hk,ZaG,Zc (by omega)];rfl
theorem Dw {po:List Po} {v:Int} {k K:Nat} {o:ByteArray} {vs:List Value} (h:(wC po v K o)[k]? = some vs):∃ a,mg po v (k+1) o=some a∧vs=[.string a]∧(eW po v K o)[k]? = some a:=by
 unfold wC at h
 rw [ZD,Zah] at h
 obtain ⟨a,ha,rfl⟩:=h
 have hl:=jU po v K o
 have hk:=(Zl.1 ha).1
 exact ⟨a,by rw [← nk (k:=K) (by omega)];exact ha,rfl,ha⟩
theorem KO {r:Ro} {s d t p:Value} (v:Int) (x:Ti) {b1 b2:Nat} {w:World} (h:RR w r s d t p) (cI:r.ti.length≤1000000) (hA:BR w b1 (RC r s d t p)) (f2:w.cell? ⟨b2,0,none⟩=some (.int .i64 v)) :
  aj Tryz.prog 237 [.agg x.cells.toArray,.pointer (some ⟨b1,0,none⟩),.pointer (some ⟨b2,0,none⟩)] w (.bool (LP r v x)):=by
 have h1:=Rd.one h.sr
 have h2:=Rd.one h.de
 have h3:=Rd.one h.ti
 have h4:=Rd.one h.po
 have j7:∀ (j:Nat) (u:Value),[Value.int .i64 r.lv,.int .i64 r.ma,s,d,t,p][j]? = some u→w.cell? ⟨b1,0+j,none⟩=some u:=hA
 unfold Ti.cells
 refine ah Tryz.func237 rfl rfl ?_
 (refine Jr<|Jy rfl rfl fun _ _=>Jz rfl rfl fun _ _=>Jn<|Jq<|Jr<|ab (gS (eF.base j7 rfl)) rfl<|ab (ag (.of rfl) (At.base f2 rfl)) rfl<|bP rfl rfl ae<|JL rfl (.there .here) rfl ?_)
 rename_i b3 vo b4 wb
 refine JN eK rfl (fun w1 aR=>uP v x.nm (h.keeps aR.keeps)) ?_
 intro y _
 dsimp only [id_eq,Zb,Za]
 refine Jn<|J0 ?_
 refine jh (ps:=[11]) (f:=222) (first:=[]) (cap:=[.pointer (some ⟨y.1,0,none⟩),.pointer (some ⟨y.2.1,0,none⟩),.pointer (some ⟨y.2.2,0,none⟩)]) (ι:=Unit) (κ:=Unit) (rst:=[]) ?hg
  [bG y.1 (.cells #[.string x.nm] 9 (0,0)),JP y.2.1 r s d t p,bG y.2.2 (.cells #[.int .i64 v] 3 (0,0))] (wC r.po v (r.ti.length+1) x.nm) ?hit
  (fun k _=>iX ((eW r.po v (r.ti.length+1) x.nm).take k) x.nm=false) (fun _=>[bG b4 (.cells #[.bool false] 4 (0,0)),bG b3 (.cells #[.string x.nm,.int .i64 x.fr,.int .i64 x.to] 187 (0,0))])
  (fun _=>LP r v x=true) (fun _=>[bG b4 (.cells #[.bool true] 4 (0,0)),bG b3 (.cells #[.string x.nm,.int .i64 x.fr,.int .i64 x.to] 187 (0,0))]) (fun _=>.ret) () (by rw [Ze];rfl) ?ht ?hlen ?hps ?round ?kn ?kj
 case hg=>exact Is.of rfl
 case hit=>intro w' aB;exact Dx v x.nm h RO.nil cI
 case ht=>
  dsimp only [Zb,Za]
  exact .cons c6 (.cons c6 (.cons .here (.cons .here (.cons .here .nil))))
 case hlen=>intro vs oB;obtain ⟨x,_,rfl⟩:=Zu.1 oB;rfl
 case hps=>intro t ht;simp only [ZR,Zq,or_false] at ht;rcases ht with rfl;exact Zav rfl
 case kj=>
  intro y D hy
  rw [hy]
  dsimp only [Zb,Za]
  refine Je<|Jm<|Jh ?_
  first | with_reducible apply aN | with_reducible apply aO
  case he=>exact Fs rfl inferInstance rfl (At.lit .here rfl)
  case hR=>exact fun w' aB=>⟨rfl,aB.keeps⟩
 case kn=>
  intro _ D hq
  rw [q6,ZL] at hq
  have vY:LP r v x=false:=hq
  rw [vY]
  dsimp only [Zb,Za]
  (refine Jj<|Jt<|Jr<|aq (.of rfl) (.of rfl) .here rfl rfl (eE rfl) (bF rfl) ak<|Jn<|Je ?_)
  first | with_reducible apply aN | with_reducible apply aO
  case he=>exact Fs rfl inferInstance rfl (At.lit .here rfl)
  case hR=>exact fun w' aB=>⟨rfl,aB.keeps⟩
 case round=>
  intro l0 rc W fp k u vs hsz hk hq hB hF
  obtain ⟨a,hit,rfl,B0⟩:=Dw hk
  obtain ⟨aK,Kj⟩:=Zl.1 B0
  have htk:(eW r.po v (r.ti.length+1) x.nm).take (k+1)=(eW r.po v (r.ti.length+1) x.nm).take k++[a]:=by rw [Zn aK,Kj]
  dsimp only [List.zip_cons_cons,List.zip_nil_right,l5,Zb,Za]
  refine Jg<|Ja rfl<|Jn ?_
  with_reducible apply mm
  case ht=>exact .here
  (refine J0<|Jr<|Jv rfl<|bP rfl rfl ae<|JL rfl bT rfl<|ab (dS (.of rfl) (.of rfl)) rfl<|Jn<|fP rfl (fun ar=>?_) fun ar=>?_;refine Jr<|aq (.of rfl) (.of rfl) (.there .here) rfl rfl (eE rfl) (bF rfl) ak<|Jn<|Je<|Jm ?_;rotate_left;refine Jw<|Jj ?_;rotate_right)
  ·apply Me () rfl
   case ht=>exact Take.there .here
   case hy=>
    refine fc.2 ?_
    have:=ZW B0
    rwa [ar] at this
   case h2=>exact .cons .here (.cons .here .nil)
  ·apply lJ ()
   case ht=>exact .here
   case hx=>
    show iX ((eW r.po v (r.ti.length+1) x.nm).take (k+1)) x.nm=false
    rw [htk]
    unfold iX at hq ⊢
    rw [List.any_append,hq]
    simp
    exact fun e=>ar e.symm
   case h2=>exact .cons .here (.cons .here .nil)
theorem Eb (x:Sr) (o:ByteArray) {b2:Nat} {w:World} (f2:w.cell? ⟨b2,0,none⟩=some (.string o)) :
  aj Tryz.prog 228 [.agg x.cells.toArray,.pointer (some ⟨b2,0,none⟩)] w (.bool (decide (x.nm=o))):=by
 unfold Sr.cells
 refine ah Tryz.func228 rfl rfl ?_
 (refine Jr<|Jy rfl rfl fun _ _=>Ja rfl<|Ji<|bP rfl rfl ae<|JL rfl .here rfl<|ab (ag (.of rfl) (At.base f2 rfl)) rfl<|ab (dS (.of rfl) (.of rfl)) rfl<|Ja rfl<|Jn<|Je<|JT ?_)
 rfl
theorem Ol {r:Ro} {s d t p:Value} (v:Int) {w:World} (h:RR w r s d t p) (cI:r.ti.length≤1000000):aj Tryz.prog 149 [RA r s d t p,.int .i64 v] w (.bool (r.ti.any (LP r v))):=by
 have h1:=Rd.one h.sr
 have h2:=Rd.one h.de
 have h3:=Rd.one h.ti
 have h4:=Rd.one h.po
 unfold RA
 refine ah Tryz.func149 rfl rfl ?_
 (refine Jr<|Jy rfl rfl fun _ _=>Jy rfl rfl fun _ _=>Ja rfl<|Ji<|bP rfl rfl ae<|JL rfl (.there .here) rfl<|ab (bA .nil (.cons (.of rfl) (.cons (.of rfl) .nil))) rfl ?_)
 rename_i b3 vo b4 wb
 with_reducible apply ai
 case hr=>exact bd
 case hd=>rfl
 case hc=>
  intro w' aB
  have hA:BR w' b3 [.int .i64 r.lv,.int .i64 r.ma,s,d,t,p]:=BR.of aB (by exact Take.there .here)
  have f2:w'.cell? ⟨b4,0,none⟩=some (.int .i64 v):=At.lit (by exact .here) rfl w' aB
  have hR:=h.keeps aB.keeps
  exact zX (f:=237) (p:=LP r v) (first:=[]) (cap:=[.pointer (some ⟨b3,0,none⟩),.pointer (some ⟨b4,0,none⟩)]) hR.ti
   (fun x hx w2 eH=>KO v x (hR.keeps eH) cI (hA.keeps eH) (cn f2 rfl eH))
 refine Ja rfl<|Jn<|Je<|JT ?_
 rfl
def jM (r:Ro) (v:Int) (o:ByteArray):ByteArray:=if r.sr.any (fun x=>decide (x.nm=iz r.po v (r.ti.length+1) o)) then iz r.po v (r.ti.length+1) o else ⟨#[]⟩
theorem ph {r:Ro} {s d t p:Value} (v:Int) (o:ByteArray) {w:World} (h:RR w r s d t p) (cI:r.ti.length≤1000000):aj Tryz.prog 126 [RA r s d t p,.int .i64 v,.string o] w (.string (jM r v o)):=by
 have h1:=Rd.one h.sr
 have h2:=Rd.one h.de
 have h3:=Rd.one h.ti
 have h4:=Rd.one h.po
 unfold RA
 refine ah Tryz.func126 rfl rfl ?_
 (refine Jr<|Jy rfl rfl fun _ _=>Ja rfl<|Ji<|Jv rfl<|Jz rfl rfl fun _ _=>aq (.of rfl) (.of rfl) .here rfl rfl (eE rfl) (bF rfl) ak<|Jn<|Jq<|Jr<|ab (cL (.there .here)) rfl<|Jv rfl<|Jv rfl ?_)
 rename_i b3 vo b7 U5
 refine JN eK rfl (fun w1 aR=>uP v o (h.keeps aR.keeps)) ?_
 intro y _
 dsimp only [id_eq,Zb,Za]
 refine Jn<|J0 ?_
 refine jh (ps:=[14]) (f:=222) (first:=[]) (cap:=[.pointer (some ⟨y.1,0,none⟩),.pointer (some ⟨y.2.1,0,none⟩),.pointer (some ⟨y.2.2,0,none⟩)]) (ι:=ByteArray) (κ:=Empty) (rst:=[JP b3 r s d t p]) ?hg
  [bG y.1 (.cells #[.string o] 9 (0,0)),JP y.2.1 r s d t p,bG y.2.2 (.cells #[.int .i64 v] 3 (0,0))] (wC r.po v (r.ti.length+1) o) ?hit
  (fun k a=>mg r.po v k o=some a) (fun a=>[bG b7 (.cells #[.string a] 9 (0,0))])
  (fun _=>False) (fun _=>[]) (fun _=>.ret) o rfl ?ht ?hlen ?hps ?round ?kn ?kj
 case hg=>exact Is.of rfl
 case hit=>intro w' aB;exact Dx v o h RO.nil cI
 case ht=>
  dsimp only [Zb,Za]
  exact .cons c6 (.cons .here (.cons .here (.cons .here .nil)))
 case hlen=>intro vs oB;obtain ⟨x,_,rfl⟩:=Zu.1 oB;rfl
 case hps=>intro t ht;simp only [ZR,Zq,or_false] at ht;rcases ht with rfl;exact Zav rfl
 case kj=>
  intro y D hy
  exact hy.elim
 case kn=>
  intro a D hq
  rw [q6,Sf,Option.some.injEq] at hq
  have AK:jM r v o=if r.sr.any (fun x=>decide (x.nm=a)) then a else ⟨#[]⟩:=by rw [← hq];rfl
  rw [AK]
  dsimp only [Zb,Za]
  (refine Jj<|Jt<|Jq<|Jr<|bP rfl rfl ae<|JL rfl dO rfl<|ab (bA .nil (.cons (.of rfl) .nil)) rfl ?_)
  with_reducible apply ai
  case hr=>exact bd
  case hd=>rfl
  case hc=>
   intro w' aB
   have f2:w'.cell? ⟨b7,0,none⟩=some (.string a):=At.lit (by exact .here) rfl w' aB
   exact NS (f:=228) (p:=fun x=>decide (x.nm=a)) (first:=[]) (cap:=[.pointer (some ⟨b7,0,none⟩)]) (h.keeps aB.keeps).sr
    (fun x hx w2 eH=>Eb x a (cn f2 rfl eH))
  cases r.sr.any (fun x=>decide (x.nm=a)) with
  | true =>
   (refine Jn<|cF (.of rfl)<|Jr<|JL rfl .here rfl<|Ja rfl<|Jn<|Ju ?_)
   first | with_reducible apply aN | with_reducible apply aO
   case he=>exact dD rfl rfl
   case hR=>exact fun w' aB=>⟨rfl,aB.keeps⟩
  | false =>
   (refine Jn<|bN (.of rfl)<|Jk<|Jr<|Ja rfl<|Jn<|Je ?_)
   first | with_reducible apply aN | with_reducible apply aO
   case he=>exact dD rfl rfl
   case hR=>exact fun w' aB=>⟨rfl,aB.keeps⟩
 case round=>
  intro l0 rc W fp k a0 vs hsz hk hq hB hF
  obtain ⟨a,hit,rfl,B0⟩:=Dw hk
  dsimp only [List.zip_cons_cons,List.zip_nil_right,l5,Zb,Za]
  refine Jg<|Ja rfl<|Jn ?_
  with_reducible apply mm
  case ht=>exact .here
  (refine J0<|Jg<|Jv rfl<|aq (.of rfl) (.of rfl) (.there .here) rfl rfl (eE rfl) (bF rfl) ak<|Jx<|Jj ?_)
  apply lJ a
  case ht=>exact Take.there .here
  case hx=>exact hit
  case h2=>
   exact .cons .here .nil
theorem qB {k k':ByteArray} {v:Value}:∀ {l:List (ByteArray×Value)},eA k' (mG k v l)=if k'=k then some v else eA k' l
 | []=>by simp [mG,eA]
 | (x, u) :: r => by
  simp only [mG]
  split
  ·rename_i e;subst e;simp only [eA];split <;> rfl
  ·rename_i e
   simp only [eA]
   rw [qB]
   by_cases h:k'=x
   ·rw [if_pos h,if_pos h,if_neg (fun q=>e (q.symm.trans h))]
   ·rw [if_neg h,if_neg h]
theorem IW {α:Type} {l:List α} {key:α→ByteArray} {val:Nat→α→Value} {f:Nat→PM} (hs:∀ k (h:k<l.length),f (k+1)=mG (key l[k]) (val k l[k]) (f k)) (s:ByteArray) :
  (∀ k,k≤l.length→(∀ j (hj:j<l.length),j<k→key l[j]≠s)→eA s (f k)=eA s (f 0)) ∧
  (∀ k,k≤l.length→∀ i (hi:i<l.length),i<k→key l[i]=s→(∀ j (hj:j<l.length),i<j→j<k→key l[j]≠s)→eA s (f k)=some (val i l[i])):=by
 constructor
 ·intro k
  induction k with
  | zero=>intro _ _;rfl
  | succ k ih =>
   intro hk hne
   rw [hs k (by omega),qB,if_neg (fun e=>hne k (by omega) (by omega) e.symm)]
   exact ih (by omega) fun j hj h=>hne j hj (by omega)
 ·intro k
  induction k with
  | zero=>intro _ i _ h;omega
  | succ k ih =>
   intro hk i hi Wt he hne
   rw [hs k (by omega),qB]
   by_cases e:i=k
   ·subst e
    rw [if_pos he.symm]
   ·rw [if_neg (fun q=>hne k (by omega) (by omega) (by omega) q.symm)]
    exact ih (by omega) i hi (by omega) he fun j hj h h'=>hne j hj h (by omega)
theorem uY {α:Type} {l:List α} {key:α→ByteArray} {val:Nat→α→Value} {f:Nat→PM} (hs:∀ k (h:k<l.length),f (k+1)=mG (key l[k]) (val k l[k]) (f k)) (s:ByteArray) :
  (s ∉ l.map key→eA s (f l.length)=eA s (f 0))∧((l.map key).Nodup→∀ i (hi:i<l.length),key l[i]=s→eA s (f l.length)=some (val i l[i])):=by
 obtain ⟨h1,h2⟩:=IW hs s
 constructor
 ·intro hn
  exact h1 _ (Zz _) fun j hj _ e=>hn (Zu.2 ⟨_,Zj hj,e⟩)
 ·intro hd i hi he
  refine h2 _ (Zz _) i hi hi he fun j hj wF _ e=>?_
  have:=(Z5.1 hd) i j (by rw [Zd];exact hi) (by rw [Zd];exact hj) wF
  rw [Z1,Z1,he,e] at this
  exact this rfl
structure CN (r:Ro):Prop where
 nd:(ef r).Nodup
theorem CN.parts {r:Ro} (h:CN r):(cC r).Nodup∧(cy r).Nodup∧(cU r).Nodup∧(∀ s∈cC r,s ∉ cy r)∧(∀ s∈cC r,s ∉ cU r)∧(∀ s∈cy r,s ∉ cU r):=by
 have:=h.nd
 unfold ef at this
 rw [ZF] at this
 obtain ⟨h1,h2,h3⟩:=this
 rw [ZF] at h1
 obtain ⟨h4,h5,h6⟩:=h1
 exact ⟨h4,h5,h2,fun s hs hd=>h6 s hs s hd rfl,fun s hs ht=>h3 s (ZE _ hs) s ht rfl,fun s hs ht=>h3 s (ZS _ hs) s ht rfl⟩
theorem eC {l:List ByteArray} {s:ByteArray} (h:s∈l):0≤bE l s:=by
 have:=(not_congr (cm (l:=l) (s:=s))).2 (not_not_intro h)
 omega
theorem se {l:List ByteArray} {s:ByteArray} (hd:l.Nodup) {i:Nat} (h:i<l.length) (e:l[i]=s):bE l s=(i:Nat):=
 qp h e fun j hj q=>by
  have:=(Z5.1 hd) j i (by omega) h hj
  exact this (q.trans e.symm)
theorem pW {r:Ro} (hd:CN r) (s:ByteArray):eA s (oe r)=if iX (ef r) s then some (lC (dW r s) (kq r s) (jZ r s)) else none:=by
 obtain ⟨n1,n2,n3,d1,d2,d3⟩:=hd.parts
 have hS:=uY (l:=r.sr) (key:=Sr.nm) (val:=fun _ x=>lC (-1) (-1) x.mx) (f:=vX r.sr) (fun k h=>Im h) s
 have hD:=uY (l:=r.de) (key:=De.nm) (val:=fun k x=>lC (k:Nat) x.mx (-1)) (f:=CF (vX r.sr r.sr.length) r.de) (fun k h=>Io h) s
 have hT:=uY (l:=r.ti) (key:=Ti.nm) (val:=fun k x=>lC ((r.de.length:Int)+(k:Nat)) x.fr x.to) (f:=LC (CF (vX r.sr r.sr.length) r.de r.de.length) r.de.length r.ti) (fun k h=>Il h) s
 change (s ∉ cU r→eA s (oe r)=eA s (CF (vX r.sr r.sr.length) r.de r.de.length))∧((cU r).Nodup→_) at hT
 change (s ∉ cy r→eA s (CF (vX r.sr r.sr.length) r.de r.de.length)=eA s (vX r.sr r.sr.length))∧((cy r).Nodup→_) at hD
 change (s ∉ cC r→eA s (vX r.sr r.sr.length)=eA s [])∧((cC r).Nodup→_) at hS
 have dT:iX (ef r) s=true↔(s∈cC r∨s∈cy r)∨s∈cU r:=by rw [fc];unfold ef;rw [Zx,Zx]
 by_cases ht:s∈cU r
 ·rw [if_pos (dT.2 (.inr ht))]
  obtain ⟨i,hi,e⟩:=Zs ht
  have AH:i<r.ti.length:=by unfold cU at hi;rwa [Zd] at hi
  have e':(r.ti[i]).nm=s:=by simpa [cU] using e
  have hf:=se n3 hi e
  have f1:bE (cy r) s<0:=cm.2 fun h=>d3 s h ht
  have f2:bE (cC r) s<0:=cm.2 fun h=>d2 s h ht
  refine (hT.2 n3 i AH e').trans ?_
  unfold dW kq jZ
  rw [if_neg (by omega),if_pos (by rw [hf];omega),if_neg (by omega),if_pos (by rw [hf];omega),if_neg (by omega),if_pos (by rw [hf];omega),hf,ZG,Zk,Zc AH]
  rfl
 ·rw [hT.1 ht]
  have f3:bE (cU r) s<0:=cm.2 ht
  by_cases wa:s∈cy r
  ·rw [if_pos (dT.2 (.inl (.inr wa)))]
   obtain ⟨i,hi,e⟩:=Zs wa
   have AH:i<r.de.length:=by unfold cy at hi;rwa [Zd] at hi
   have e':(r.de[i]).nm=s:=by simpa [cy] using e
   have hf:=se n2 hi e
   have f2:bE (cC r) s<0:=cm.2 fun h=>d1 s h wa
   refine (hD.2 n2 i AH e').trans ?_
   unfold dW kq jZ
   rw [if_pos (by rw [hf];omega),if_pos (by rw [hf];omega),if_neg (by omega),if_neg (by omega),hf,ZG,Zk,Zc AH]
   rfl
  ·rw [hD.1 wa]
   have f1:bE (cy r) s<0:=cm.2 wa
   by_cases hs:s∈cC r
   ·rw [if_pos (dT.2 (.inl (.inl hs)))]
    obtain ⟨i,hi,e⟩:=Zs hs
    have AH:i<r.sr.length:=by unfold cC at hi;rwa [Zd] at hi
    have e':(r.sr[i]).nm=s:=by simpa [cC] using e
    have hf:=se n1 hi e
    refine (hS.2 n1 i AH e').trans ?_
    unfold dW kq jZ
    rw [if_neg (by omega),if_neg (by omega),if_neg (by omega),if_neg (by omega),if_pos (by rw [hf];omega),hf,ZG,Zk,Zc AH]
    rfl
   ·rw [hS.1 hs,if_neg (fun h=>by rcases dT.1 h with (h | h) | h <;> contradiction)]
    rfl
def km (x y:Int):Int:=if x<y then -1 else if y<x then 1 else 0
def lE:List Int→List Int→Int
 | [],[]=>0
 | [],_::_=>-1
 | _::_,[]=>1
 | x::a,y::b=>if km x y≠0 then km x y else lE a b
theorem iA {x y:Int}:km x y=0↔x=y:=by
 unfold km
 split
 ·constructor <;> intro h <;> omega
 ·split <;> constructor <;> intro h <;> omega
theorem KX:∀ b:List Int,lE [] b=if 0<b.length then -1 else 0
 | []=>rfl
 | _::_=>rfl
theorem GW {a b:List Int} {k:Nat} (ha:k<a.length) (hb:k<b.length):lE (a.drop k) (b.drop k)=if km a[k] b[k]≠0 then km a[k] b[k] else lE (a.drop (k+1)) (b.drop (k+1)):=by
 rw [Zw ha,Zw hb];rfl
end Go.Proofs.A1
