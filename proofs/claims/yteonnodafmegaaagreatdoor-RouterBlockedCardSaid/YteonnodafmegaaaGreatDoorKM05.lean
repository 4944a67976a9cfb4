/- Parts of the proof: K5 K6 GkLook K7 K8 K9 K9q GkRegM. -/
import Derived.Test.YteonnodafmegaaaGreatDoorKM04
import Derived.Test.YteonnodafmegaaaGreatDoorKM03
import Derived.Test.YteonnodafmegaaaGreatDoorKM02
set_option linter.unusedSectionVars false
set_option linter.unusedVariables false
set_option linter.unusedSimpArgs false
namespace Go.Proofs.A1
open Go Go.SL
open Tryz
open Tryz renaming prog->T_
variable {X:Act->World->Prop} {bf:List ByteArray} {bv:Value} {cap:List Value} {f:FuncId} {first:List Value} {k:Nat} {lv:Value} {r:Ro} {w:World}
theorem Gq {c:Cx} {D:List Nat} {sl:aD} {hs hs':List bh} {E:TypeId} {g:Nat} {xs:List Value} (n sz:Nat) (ht:Take hs (bA g (.cells xs.toArray E (0,0))) hs') (hl:xs.length=n*sz) (hn:Nat.ble n 1000=true)
  (k:Tr c D sl (row E sz (.w g n n) n xs::hs') X):Tr c D sl hs X:=
 dq (cur:=[]) (by rw [ZQ];exact ht) (ZC _) (by have:=Zax hn;unfold maxLen;omega) (by rw [ZQ];exact hl) hl k
theorem bR {c:Cx} {D:List Nat} {sl:aD} {hs hs':List bh} {E:TypeId} {g:Nat} {xs ys:List Value} (n sz:Nat) (ht:Take hs (bA g (.cells xs.toArray E (0,0))) hs') (he:xs=ys) (hl:ys.length=n*sz) (hn:Nat.ble n 1000=true)
  (k:Tr c D sl (row E sz (.w g n n) n ys::hs') X):Tr c D sl hs X:=by
 subst he;exact Gq n sz ht hl hn k
def fy (l:List ByteArray) (x:ByteArray):Bool:=l.any fun y=>decide (x=y)
theorem dN {l:List ByteArray} {x:ByteArray}:fy l x=true↔x∈l:=by
 unfold fy;rw [ZR];constructor
 ·rintro ⟨y,hy,h⟩;rw [decide_eq_true_iff] at h;rw [h];exact hy
 ·intro h;exact ⟨x,h,by simp⟩
theorem Cv {l:List ByteArray} (x:ByteArray) {w:World} (h:Rd w lv 1 (ie l)) :
  ao T_ 181 [lv,.string x] w (.q (gH (fun y=>decide (x=y)) l)):=by
 obtain ⟨a,cp,b,o,rfl,dD,cr,ha,hc⟩:=h;rw [cu] at *;unfold maxLen at cr;refine ak func181 I I ?_;refine Jr<|Ja I<|Jn<|Jq<|Jr<|Jv I<|JI I<|Jv I<|Jn<|J0 ?_;refine bd (fun k:Nat=>k<=l.length/\∀ i,i<k->(l[i]?.map fun y=>decide (x=y)).getD false=false) (fun k=>[(8,.int .i64 k),(7,.int .i64 l.length),(0,.slice a l.length cp),(1,.string x)]) (fun _=>[]) (fun k=>l.length-k) ?_ ?_
 ·apply aJ 0 ⟨Zi _,fun i h=>by omega⟩
  case hs1=>exact cB
  case ht=>(try simp only [Ze,Zf,Za]);exact .nil
 rintro k ⟨hk,hf⟩;by_cases aN:k<l.length
 ·have c8:=ha (lk aN);have c0:w.cell? ⟨b,o+k*1,none⟩=some (.string l[k]):=(hc k _ (jf aN)).2 0 _ I;have hps:(l[k]?.map fun y=>decide (x=y)).getD false=decide (x=l[k]):=by simp [aN]
  (refine Jr<|JA I<|Jn<|Jq<|Jd I fun aA=>Jk<|Jq<|J0<|Jr<|Jv I<|Ja I<|Ji<|Jv I<|Jv I<|Jv I<|ab (gr c8 aA) I<|ab (ag (.of I) (At.base c0 I)) I<|ab (eR (.of I) (.of I)) I<|Jn<|gR I (fun aA=>?_) fun aA=>?_;refine Jr<|Jv I<|Ja I<|Jn<|Je<|Jm<|Jh<|Jh<|Jm<|Jh<|JT ?_;rotate_left;refine Jw<|Jj<|Jt<|Jg<|JB I (by omega)<|Jv I<|Jn ?_;rotate_right)
  ·rw [gG hf aN (by simpa using aA)]
  ·apply aI (k+1) ⟨by omega,fun i hi=>by
    by_cases e:i=k
    ·rw [e,hps];simpa using aA
    ·exact hf i (by omega)⟩ (by omega)
   case hs1=>exact cB
   case ht=>(try simp only [Ze,Zf,Za]);exact .nil
 ·obtain rfl:k=l.length:=by omega
  refine Jr<|JA I<|Jn<|Jq<|Jc I fun aA=>Jp<|Jl<|Jo<|Jt<|Jr<|Ja I<|Jn<|Je<|JT ?_;rw [fL hf]
theorem kz {l:List ByteArray} (x:ByteArray) {w:World} (h:Rd w lv 1 (ie l)) :
  ao T_ 179 [lv,.string x] w (.bool (fy l x)):=by
 have iE:∀ w',aH [] w w'->ao T_ 181 [lv,.string x] w' (.q (gH (fun y=>decide (x=y)) l)):=fun w' hk=>Cv x (h.keeps hk)
 have e:fy l x=l.any fun y=>decide (x=y):=rfl
 rw [e,<- kl];refine ak func179 I I ?_
 (refine Jr<|Ja I<|Ji<|Jv I<|Jv I<|aj bo I (fun w' az=>(iE w' (Mem.keeps az)))<|JG I<|Ja I<|Jn<|Je<|JT ?_)
 rfl
theorem NX {l:List Int} (x:Int) {w:World} (h:Rd w lv 1 (ints l)) :
  ao T_ 241 [lv,.q x] w (.q (gH (fun y=>decide (x=y)) l)):=by
 obtain ⟨a,cp,b,o,rfl,dD,cr,ha,hc⟩:=h;rw [cU] at *;unfold maxLen at cr;refine ak func241 I I ?_;refine Jr<|Ja I<|Jn<|Jq<|Jr<|Jv I<|JI I<|Jv I<|Jn<|J0 ?_;refine bd (fun k:Nat=>k<=l.length/\∀ i,i<k->(l[i]?.map fun y=>decide (x=y)).getD false=false) (fun k=>[(8,.int .i64 k),(7,.int .i64 l.length),(0,.slice a l.length cp),(1,.int .i64 x)]) (fun _=>[]) (fun k=>l.length-k) ?_ ?_
 ·apply aJ 0 ⟨Zi _,fun i h=>by omega⟩
  case hs1=>exact cB
  case ht=>(try simp only [Ze,Zf,Za]);exact .nil
 rintro k ⟨hk,hf⟩;by_cases aN:k<l.length
 ·have c8:=ha (jG aN);have c0:w.cell? ⟨b,o+k*1,none⟩=some (.q l[k]):=(hc k _ (iz aN)).2 0 _ I;have hps:(l[k]?.map fun y=>decide (x=y)).getD false=decide (x=l[k]):=by simp [aN]
  (refine Jr<|JA I<|Jn<|Jq<|Jd I fun aA=>Jk<|Jq<|J0<|Jr<|Jv I<|Ja I<|Ji<|Jv I<|Jv I<|Jv I<|ab (gr c8 aA) I<|ab (ag (.of I) (At.base c0 I)) I<|JC I<|Jn<|gR I (fun aA=>?_) fun aA=>?_;refine Jr<|Jv I<|Ja I<|Jn<|Je<|Jm<|Jh<|Jh<|Jm<|Jh<|JT ?_;rotate_left;refine Jw<|Jj<|Jt<|Jg<|JB I (by omega)<|Jv I<|Jn ?_;rotate_right)
  ·rw [gG hf aN (by simpa using aA)]
  ·apply aI (k+1) ⟨by omega,fun i hi=>by
    by_cases e:i=k
    ·rw [e,hps];simpa using aA
    ·exact hf i (by omega)⟩ (by omega)
   case hs1=>exact cB
   case ht=>(try simp only [Ze,Zf,Za]);exact .nil
 ·obtain rfl:k=l.length:=by omega
  refine Jr<|JA I<|Jn<|Jq<|Jc I fun aA=>Jp<|Jl<|Jo<|Jt<|Jr<|Ja I<|Jn<|Je<|JT ?_;rw [fL hf]
theorem lE {l:List Int} (x:Int) {w:World} (h:Rd w lv 1 (ints l)) :
  ao T_ 154 [lv,.q x] w (.bool (l.contains x)):=by
 have iE:∀ w',aH [] w w'->ao T_ 241 [lv,.q x] w' (.q (gH (fun y=>decide (x=y)) l)):=fun w' hk=>NX x (h.keeps hk)
 have e:l.contains x=l.any fun y=>decide (x=y):=by
  rw [List.contains_eq_any_beq];rfl
 rw [e,<- kl];refine ak func154 I I ?_
 (refine Jr<|Ja I<|Ji<|Jv I<|Jv I<|aj bo I (fun w' az=>(iE w' (Mem.keeps az)))<|JG I<|Ja I<|Jn<|Je<|JT ?_)
 rfl
theorem w8 {l:List ByteArray} (h:Rd w lv 1 (ie l)) (hl:l.length<=1000) :
  bB T_ 234 [lv] w [] (fun _:Value=>True) id (fun v=>[row 9 1 v l.length (aO l)]):=by
 have h':=h;obtain ⟨a,cp,b,o,rfl,dD,cr,ha,hc⟩:=h;refine aV func234 I I ?_;cases a with
 | none =>
  have oo:l=[]:=by
   cases l with
   | nil=>rfl
   | cons x r=>exact absurd (ha (by simp [ie])) (by simp)
  subst oo
  (refine Jr<|Ja I<|Jn<|Jq<|Jr<|Jv I<|ab (gN (.of I) (.of I)) I<|Jn<|ch (.of I)<|Jr<|Ja I<|Jn<|Ju ?_)
  refine aR 9 1 ?_
  with_reducible first|apply aP|apply aQ
  case he=>exact dS I I
  case hR=>
   intro w' az;exact aF (.z) trivial (by exact .h1 .nil) az I
 | some ad =>
  (refine Jr<|Ja I<|Jn<|Jq<|Jr<|Jv I<|ab (gN (.of I) (.of I)) I<|Jn<|bJ (.of I)<|Jk<|Jr<|bn (aB .nil I I I I) I fun _ _=>Jv I ?_)
  rename_i bq lN;refine bR (g:=bq) (E:=9) (ys:=[]) 0 1 (by exact .here) I I I ?_
  with_reducible apply eK
  case hx=>exact Is.of I
  case hy=>exact Is.of I
  case ht=>exact .here
  case hsrc=>exact fun w' az=>h'.keeps az.keeps
  case h1=>exact zW l
  case hz=>exact I
  case hsz=>exact I
  case hb0=>exact I
  case hb=>rw [cu];omega
  case hd=>rfl
  intro v';rw [cu,<- q6,ZE,Za];refine Ja I<|Jn<|Je ?_
  with_reducible first|apply aP|apply aQ
  case he=>exact dS I I
  case hR=>
   intro w' az;exact aF v' trivial (by exact .h1 .nil) az I
theorem M8 (l:List Sr):mw l=(uj l).flatten:=rfl
theorem Hm {l:List Sr} (h:Rd w lv 2 (uj l)) (hl:l.length<=1000) :
  bB T_ 266 [lv] w [] (fun _:Value=>True) id (fun v=>[row 186 2 v l.length (mw l)]):=by
 have h':=h;obtain ⟨a,cp,b,o,rfl,dD,cr,ha,hc⟩:=h;refine aV func266 I I ?_;cases a with
 | none =>
  have oo:l=[]:=by
   cases l with
   | nil=>rfl
   | cons x r=>exact absurd (ha (by simp [uj])) (by simp)
  subst oo
  (refine Jr<|Ja I<|Jn<|Jq<|Jr<|Jv I<|ab (gN (.of I) (.of I)) I<|Jn<|ch (.of I)<|Jr<|Ja I<|Jn<|Ju ?_)
  refine aR 186 2 ?_
  with_reducible first|apply aP|apply aQ
  case he=>exact dS I I
  case hR=>
   intro w' az;exact aF (.z) trivial (by exact .h1 .nil) az I
 | some ad =>
  (refine Jr<|Ja I<|Jn<|Jq<|Jr<|Jv I<|ab (gN (.of I) (.of I)) I<|Jn<|bJ (.of I)<|Jk<|Jr ?_)
  with_reducible apply bn
  case hr=>exact kU
  case hd=>rfl
  intro bq lN;refine Pv I I ?_;refine bR (g:=bq) (E:=186) (ys:=[]) 0 2 (by exact .here) I I I ?_
  with_reducible apply eK
  case hx=>exact Is.of I
  case hy=>exact Is.of I
  case ht=>exact .here
  case hsrc=>exact fun w' az=>h'.keeps az.keeps
  case h1=>exact Fg l
  case hz=>exact I
  case hsz=>exact I
  case hb0=>exact I
  case hb=>rw [cy];omega
  case hd=>rfl
  intro v';rw [cy,ZE,Za,<- M8];refine Ja I<|Jn<|Je ?_
  with_reducible first|apply aP|apply aQ
  case he=>exact dS I I
  case hR=>
   intro w' az;exact aF v' trivial (by exact .h1 .nil) az I
theorem OP (l:List De):j5 l=(ue l).flatten:=rfl
theorem Ho {l:List De} (h:Rd w lv 3 (ue l)) (hl:l.length<=1000) :
  bB T_ 267 [lv] w [] (fun _:Value=>True) id (fun v=>[row 90 3 v l.length (j5 l)]):=by
 have h':=h;obtain ⟨a,cp,b,o,rfl,dD,cr,ha,hc⟩:=h;refine aV func267 I I ?_;cases a with
 | none =>
  have oo:l=[]:=by
   cases l with
   | nil=>rfl
   | cons x r=>exact absurd (ha (by simp [ue])) (by simp)
  subst oo
  (refine Jr<|Ja I<|Jn<|Jq<|Jr<|Jv I<|ab (gN (.of I) (.of I)) I<|Jn<|ch (.of I)<|Jr<|Ja I<|Jn<|Ju ?_)
  refine aR 90 3 ?_
  with_reducible first|apply aP|apply aQ
  case he=>exact dS I I
  case hR=>
   intro w' az;exact aF (.z) trivial (by exact .h1 .nil) az I
 | some ad =>
  (refine Jr<|Ja I<|Jn<|Jq<|Jr<|Jv I<|ab (gN (.of I) (.of I)) I<|Jn<|bJ (.of I)<|Jk<|Jr ?_)
  with_reducible apply bn
  case hr=>exact kU
  case hd=>rfl
  intro bq lN;refine Pv I I ?_;refine bR (g:=bq) (E:=90) (ys:=[]) 0 3 (by exact .here) I I I ?_
  with_reducible apply eK
  case hx=>exact Is.of I
  case hy=>exact Is.of I
  case ht=>exact .here
  case hsrc=>exact fun w' az=>h'.keeps az.keeps
  case h1=>exact F6 l
  case hz=>exact I
  case hsz=>exact I
  case hb0=>exact I
  case hb=>rw [bZ];omega
  case hd=>rfl
  intro v';rw [bZ,ZE,Za,<- OP];refine Ja I<|Jn<|Je ?_
  with_reducible first|apply aP|apply aQ
  case he=>exact dS I I
  case hR=>
   intro w' az;exact aF v' trivial (by exact .h1 .nil) az I
theorem MW (l:List Ti):nN l=(tE l).flatten:=rfl
theorem Hl {l:List Ti} (h:Rd w lv 3 (tE l)) (hl:l.length<=1000) :
  bB T_ 268 [lv] w [] (fun _:Value=>True) id (fun v=>[row 187 3 v l.length (nN l)]):=by
 have h':=h;obtain ⟨a,cp,b,o,rfl,dD,cr,ha,hc⟩:=h;refine aV func268 I I ?_;cases a with
 | none =>
  have oo:l=[]:=by
   cases l with
   | nil=>rfl
   | cons x r=>exact absurd (ha (by simp [tE])) (by simp)
  subst oo
  (refine Jr<|Ja I<|Jn<|Jq<|Jr<|Jv I<|ab (gN (.of I) (.of I)) I<|Jn<|ch (.of I)<|Jr<|Ja I<|Jn<|Ju ?_)
  refine aR 187 3 ?_
  with_reducible first|apply aP|apply aQ
  case he=>exact dS I I
  case hR=>
   intro w' az;exact aF (.z) trivial (by exact .h1 .nil) az I
 | some ad =>
  (refine Jr<|Ja I<|Jn<|Jq<|Jr<|Jv I<|ab (gN (.of I) (.of I)) I<|Jn<|bJ (.of I)<|Jk<|Jr ?_)
  with_reducible apply bn
  case hr=>exact kU
  case hd=>rfl
  intro bq lN;refine Pv I I ?_;refine bR (g:=bq) (E:=187) (ys:=[]) 0 3 (by exact .here) I I I ?_
  with_reducible apply eK
  case hx=>exact Is.of I
  case hy=>exact Is.of I
  case ht=>exact .here
  case hsrc=>exact fun w' az=>h'.keeps az.keeps
  case h1=>exact E9 l
  case hz=>exact I
  case hsz=>exact I
  case hb0=>exact I
  case hb=>rw [bU];omega
  case hd=>rfl
  intro v';rw [bU,ZE,Za,<- MW];refine Ja I<|Jn<|Je ?_
  with_reducible first|apply aP|apply aQ
  case he=>exact dS I I
  case hR=>
   intro w' az;exact aF v' trivial (by exact .h1 .nil) az I
theorem Ap (l:List Po):jb l=(sq l).flatten:=rfl
theorem NN {l:List Sr} {g:Sr->ByteArray} [bQ T_ f] {w:World} (h:Rd w lv 2 (uj l)) (hn:l.length<=1000000)
  (cG:∀ x∈l,∀ w',aH [] w w'->ao T_ f (first++[.agg x.cells.toArray]++cap) w' (.string (g x))) :
  bB T_ 140 [lv,.func (.func f) first.toArray cap.toArray] w [] (fun _:Value=>True) id (fun v=>[row 9 1 v l.length (aO (l.map g))]):=by
 obtain ⟨a,cp,b,o,rfl,dD,cr,ha,hc⟩:=h;rw [cy] at *;unfold maxLen at cr;refine aV func140 I I ?_;refine Jr<|Ja I<|Ji<|Ja I<|Jn<|Jq<|Jr<|Jv I<|JI I<|Jv I<|Jn<|J0 ?_;refine aR 9 1 ?_;refine bd (ι:=Nat×Value) (fun x=>x.1<=l.length) (fun x=>[(10,.int .i64 x.1),(9,.int .i64 l.length),(8,.slice a l.length cp),(5,x.2),(1,.func (.func f) first.toArray cap.toArray)]) (fun x=>[row 9 1 x.2 x.1 (aO ((l.take x.1).map g))]) (fun x=>l.length-x.1) ?_ ?_
 ·apply aJ (0,.z) (Zi _)
  case hs1=>exact cB
  case ht=>
   exact .h1 .nil
 rintro ⟨k,v⟩ hk;dsimp only at hk ⊢;by_cases aN:k<l.length
 ·have c8:=ha (gW aN);have aG:=(hc k _ (fG aN)).2;have iE:=cG _ (Zj aN);have Ku:aO ((l.take (k+1)).map g)=aO ((l.take k).map g)++[.string (g l[k])]:=by
   rw [Zn aN,Zz,fg];rfl
  generalize g l[k]=gk at iE Ku;unfold Sr.cells at aG iE
  (refine Jr<|JA I<|Jn<|Jq<|Jd I fun aA=>Jk<|Jq<|J0<|Jr<|ab (gr c8 aA) I<|ab (iD (eO.base aG I)) I<|Jz I I fun _ _=>aq (.of I) (.of I) .here I I (gK I I) (bF I) an<|Jn<|Jg<|Jv I<|Jv I<|ab (cN .here) I ?_)
  refine aj bS I (fun w' az=>(iE w' (Mem.keeps az))) ?_;refine bn (aB (.o I .nil) I I I I) I (fun _ _=>?_);refine bH (.of I) (.of I) bO .here an (by rfl) (dG I) (by rfl) (by rfl) (by rfl) eC (by rfl) ?_;intro v';refine Ja I<|Jx<|Jj<|Jt<|Jg<|JB I (by omega)<|Jv I<|Jn ?_;apply aI (k+1,v') (by show k+1<=l.length;omega) (by show l.length-(k+1)<l.length-k;omega)
  case hs1=>exact cB
  case ht=>
   show bK _ [row 9 1 v' (k+1) (aO ((l.take (k+1)).map g))] _;rw [Ku];exact .h1 .nil
 ·obtain rfl:k=l.length:=by omega
  rw [ZN];refine Jr<|JA I<|Jn<|Jq<|Jc I fun aA=>Jp<|Jl<|Jo<|Jt<|Jr<|Jv I<|Ja I<|Jn<|Je ?_
  with_reducible first|apply aP|apply aQ
  case he=>exact dS I I
  case hR=>
   intro w' az;exact aF v trivial (by exact .h1 .nil) az I
theorem Fy {l:List De} {g:De->ByteArray} [bQ T_ f] {w:World} (h:Rd w lv 3 (ue l)) (hn:l.length<=1000000)
  (cG:∀ x∈l,∀ w',aH [] w w'->ao T_ f (first++[.agg x.cells.toArray]++cap) w' (.string (g x))) :
  bB T_ 143 [lv,.func (.func f) first.toArray cap.toArray] w [] (fun _:Value=>True) id (fun v=>[row 9 1 v l.length (aO (l.map g))]):=by
 obtain ⟨a,cp,b,o,rfl,dD,cr,ha,hc⟩:=h;rw [bZ] at *;unfold maxLen at cr;refine aV func143 I I ?_;refine Jr<|Ja I<|Ji<|Ja I<|Jn<|Jq<|Jr<|Jv I<|JI I<|Jv I<|Jn<|J0 ?_;refine aR 9 1 ?_;refine bd (ι:=Nat×Value) (fun x=>x.1<=l.length) (fun x=>[(10,.int .i64 x.1),(9,.int .i64 l.length),(8,.slice a l.length cp),(5,x.2),(1,.func (.func f) first.toArray cap.toArray)]) (fun x=>[row 9 1 x.2 x.1 (aO ((l.take x.1).map g))]) (fun x=>l.length-x.1) ?_ ?_
 ·apply aJ (0,.z) (Zi _)
  case hs1=>exact cB
  case ht=>
   exact .h1 .nil
 rintro ⟨k,v⟩ hk;dsimp only at hk ⊢;by_cases aN:k<l.length
 ·have c8:=ha (gI aN);have aG:=(hc k _ (fq aN)).2;have iE:=cG _ (Zj aN);have Ku:aO ((l.take (k+1)).map g)=aO ((l.take k).map g)++[.string (g l[k])]:=by
   rw [Zn aN,Zz,fg];rfl
  generalize g l[k]=gk at iE Ku;unfold De.cells at aG iE
  (refine Jr<|JA I<|Jn<|Jq<|Jd I fun aA=>Jk<|Jq<|J0<|Jr<|ab (gr c8 aA) I<|ab (iD (eO.base aG I)) I<|Jz I I fun _ _=>aq (.of I) (.of I) .here I I (fc I I I) (bF I) an<|Jn<|Jg<|Jv I<|Jv I<|ab (cN .here) I ?_)
  refine aj bS I (fun w' az=>(iE w' (Mem.keeps az))) ?_;refine bn (aB (.o I .nil) I I I I) I (fun _ _=>?_);refine bH (.of I) (.of I) bO .here an (by rfl) (dG I) (by rfl) (by rfl) (by rfl) eC (by rfl) ?_;intro v';refine Ja I<|Jx<|Jj<|Jt<|Jg<|JB I (by omega)<|Jv I<|Jn ?_;apply aI (k+1,v') (by show k+1<=l.length;omega) (by show l.length-(k+1)<l.length-k;omega)
  case hs1=>exact cB
  case ht=>
   show bK _ [row 9 1 v' (k+1) (aO ((l.take (k+1)).map g))] _;rw [Ku];exact .h1 .nil
 ·obtain rfl:k=l.length:=by omega
  rw [ZN];refine Jr<|JA I<|Jn<|Jq<|Jc I fun aA=>Jp<|Jl<|Jo<|Jt<|Jr<|Jv I<|Ja I<|Jn<|Je ?_
  with_reducible first|apply aP|apply aQ
  case he=>exact dS I I
  case hR=>
   intro w' az;exact aF v trivial (by exact .h1 .nil) az I
theorem Fx {l:List Ti} {g:Ti->ByteArray} [bQ T_ f] {w:World} (h:Rd w lv 3 (tE l)) (hn:l.length<=1000000)
  (cG:∀ x∈l,∀ w',aH [] w w'->ao T_ f (first++[.agg x.cells.toArray]++cap) w' (.string (g x))) :
  bB T_ 178 [lv,.func (.func f) first.toArray cap.toArray] w [] (fun _:Value=>True) id (fun v=>[row 9 1 v l.length (aO (l.map g))]):=by
 obtain ⟨a,cp,b,o,rfl,dD,cr,ha,hc⟩:=h;rw [bU] at *;unfold maxLen at cr;refine aV func178 I I ?_;refine Jr<|Ja I<|Ji<|Ja I<|Jn<|Jq<|Jr<|Jv I<|JI I<|Jv I<|Jn<|J0 ?_;refine aR 9 1 ?_;refine bd (ι:=Nat×Value) (fun x=>x.1<=l.length) (fun x=>[(10,.int .i64 x.1),(9,.int .i64 l.length),(8,.slice a l.length cp),(5,x.2),(1,.func (.func f) first.toArray cap.toArray)]) (fun x=>[row 9 1 x.2 x.1 (aO ((l.take x.1).map g))]) (fun x=>l.length-x.1) ?_ ?_
 ·apply aJ (0,.z) (Zi _)
  case hs1=>exact cB
  case ht=>
   exact .h1 .nil
 rintro ⟨k,v⟩ hk;dsimp only at hk ⊢;by_cases aN:k<l.length
 ·have c8:=ha (eV aN);have aG:=(hc k _ (ed aN)).2;have iE:=cG _ (Zj aN);have Ku:aO ((l.take (k+1)).map g)=aO ((l.take k).map g)++[.string (g l[k])]:=by
   rw [Zn aN,Zz,fg];rfl
  generalize g l[k]=gk at iE Ku;unfold Ti.cells at aG iE
  (refine Jr<|JA I<|Jn<|Jq<|Jd I fun aA=>Jk<|Jq<|J0<|Jr<|ab (gr c8 aA) I<|ab (iD (eO.base aG I)) I<|Jz I I fun _ _=>aq (.of I) (.of I) .here I I (fc I I I) (bF I) an<|Jn<|Jg<|Jv I<|Jv I<|ab (cN .here) I ?_)
  refine aj bS I (fun w' az=>(iE w' (Mem.keeps az))) ?_;refine bn (aB (.o I .nil) I I I I) I (fun _ _=>?_);refine bH (.of I) (.of I) bO .here an (by rfl) (dG I) (by rfl) (by rfl) (by rfl) eC (by rfl) ?_;intro v';refine Ja I<|Jx<|Jj<|Jt<|Jg<|JB I (by omega)<|Jv I<|Jn ?_;apply aI (k+1,v') (by show k+1<=l.length;omega) (by show l.length-(k+1)<l.length-k;omega)
  case hs1=>exact cB
  case ht=>
   show bK _ [row 9 1 v' (k+1) (aO ((l.take (k+1)).map g))] _;rw [Ku];exact .h1 .nil
 ·obtain rfl:k=l.length:=by omega
  rw [ZN];refine Jr<|JA I<|Jn<|Jq<|Jc I fun aA=>Jp<|Jl<|Jo<|Jt<|Jr<|Jv I<|Ja I<|Jn<|Je ?_
  with_reducible first|apply aP|apply aQ
  case he=>exact dS I I
  case hR=>
   intro w' az;exact aF v trivial (by exact .h1 .nil) az I
theorem OA (n:Nat) (hn:n<=1000) (w:World):bB T_ 235 [.z,.q (n:Int)] w [] (fun _:Value=>True) id (fun v=>[row 9 1 v 0 []]):=by
 refine aV func235 I I ?_
 (refine Jr<|Ja I<|Jn<|Jq<|Jr<|Jv I<|JA I<|Jn<|Jc I fun aA=>Jk<|Jq<|Jr<|Jv I<|Jv I<|ab (ri (.of I)) I<|Jv I<|JI I<|JS I (by omega)<|JS I (by omega)<|Ja I<|Ji<|Jv I<|JE I<|Jn<|gR I (fun aA=>?_) fun aA=>?_;refine Jg<|Jv I<|Jv I<|ab (ri (.of I)) I<|ab (gE (.of I) (.of I) (by omega) (by omega)) I<|Jv I ?_;rotate_left;refine Jk<|Jr<|Jv I<|Ja I<|Jn<|Je ?_;rotate_right)
 ·rw [show (n:Int)-(((0:Nat):Int)-((0:Nat):Int))=(n:Int) by omega]
  with_reducible apply DD
  case hx=>exact Is.of I
  case hy=>exact Is.of I
  case h0=>omega
  case hz=>exact I
  case hsz=>exact I
  case hb0=>exact I
  case hb=>omega
  case hd=>rfl
  intro v';refine dP (E:=9) (sz:=1) (by exact .here) (by omega) fun g il cur e oX G1 Ei xV=>?_;subst e
  (refine Jv I<|JI I<|ab (gE (.of I) (.of I) (by omega) (by omega)) I<|Ja I<|Ji<|Jv I<|Ja I<|Jn<|Je ?_)
  rw [show Go.sliced (some ⟨g,0,none⟩) 0 (((0:Nat):Int)).toNat il 1=.w g 0 il from BS g il 1]
  skip
  generalize hA:_++cur=al at Ei ⊢;refine dq (n:=0) (xs:=[]) (cur:=al) (cap:=il) (g:=g) (E:=9) (sz:=1) (by rw [Za];exact .here) (Zi _) G1 Ei I ?_
  with_reducible first|apply aP|apply aQ
  case he=>exact dS I I
  case hR=>
   intro w' az;exact aF (.w g 0 il) trivial (by exact .h1 .nil) az I
 ·refine aR 9 1 ?_
  with_reducible first|apply aP|apply aQ
  case he=>exact dS I I
  case hR=>
   intro w' az;exact aF (.z) trivial (by exact .h1 .nil) az I
theorem M4 (a b:List ByteArray):ie (a++b)=ie a++ie b:=by simp [ie]
theorem sH {α:Type} {l:List (List α)} (h:k<l.length):(l.take (k+1)).flatten=(l.take k).flatten++l[k]:=by
 rw [List.take_add_one,Zc h,Zab];simp
theorem FX {α:Type} (l:List (List α)) (k:Nat):(l.take k).flatten.length<=l.flatten.length:=by
 conv=>rhs;rw [<- ZX k l]
 rw [Zab,Zg];omega
theorem BU {α:Type} {l:List α} (h:k<l.length):(l.map fun v=>[v])[k]? = some [l[k]]:=by simp [h]
theorem Hj {vs:List Value} {ess:List (List ByteArray)} (h:Rd w lv 1 (vs.map fun v=>[v])) (hl:vs.length=ess.length) (hr:∀ (i:Nat) (v:Value) (es:List ByteArray),vs[i]? = some v->ess[i]? = some es->Rd w v 1 (ie es)) (hn:ess.flatten.length<=1000) :
  bB T_ 142 [lv] w [] (fun _:Value=>True) id (fun v=>[row 9 1 v ess.flatten.length (ie ess.flatten).flatten]):=by
 obtain ⟨a,cp,b,o,rfl,dD,cr,ha,hc⟩:=h;rw [Zd] at *;unfold maxLen at cr;refine aV func142 I I ?_;refine Jr<|Ja I<|Ji<|Ja I<|Jn<|Jq<|Jr<|Jv I<|JI I<|Jv I<|Jn<|J0 ?_;refine bd (ι:=Nat) (fun k=>k<=vs.length) (fun k=>[(11,.int .i64 k),(10,.int .i64 vs.length),(9,.slice a vs.length cp),(0,.slice a vs.length cp),(3,.int .i64 (((ess.take k).flatten.length:Nat):Int))]) (fun _=>[]) (fun k=>vs.length-k) ?_ ?_
 ·apply aJ (0:Nat) (show (0:Nat)<=vs.length from Zi _)
  case hs1=>exact cB
  case ht=>(try simp only [Ze,Zf,Za]);exact .nil
 intro k hk;by_cases aN:k<vs.length
 ·have fS:k<ess.length:=by omega
  have c8:=ha (by intro e;have:=congrArg List.length e;simp at this;subst this;simp at aN);have UA:=hr k _ _ (Zc aN) (Zc fS);obtain ⟨a1,eI,b1,o1,e1,_⟩:=UA;rw [cu] at e1;have c0:w.cell? ⟨b,o+k*1,none⟩=some (.slice a1 ess[k].length eI):=by rw [<- e1];exact (hc k _ (BU aN)).2 0 _ I
  have tV:=FX ess (k+1);have hs:((ess.take (k+1)).flatten.length:Int)=(ess.take k).flatten.length+ess[k].length:=by rw [sH fS,Zg];omega
  (refine Jr<|JA I<|Jn<|Jq<|Jd I fun aA=>Jk<|Jq<|J0<|Jr<|ab (gr c8 aA) I<|ab (ag (.of I) (At.base c0 I)) I<|Ja I<|Ji<|Jv I<|Jv I<|JI I<|JB I (by omega)<|Ja I<|Ji<|Jv I<|JA I<|Jn<|Jc I fun aA=>Jw<|Jj<|Jt<|Jg<|JB I (by omega)<|Jv I<|Jn ?_)
  apply aI (k+1) (show k+1<=vs.length by omega) (show vs.length-(k+1)<vs.length-k by omega)
  case hs1=>
   rw [hs];exact .cons I (.cons I (.cons I (.cons I (.cons I .nil))))
  case ht=>exact .nil
 ·obtain rfl:k=vs.length:=by omega
  rw [show ess.take vs.length=ess by rw [hl,ZN]];refine Jr<|JA I<|Jn<|Jq<|Jc I fun aA=>Jp<|Jl<|Jo<|Jt<|Jr<|Jv I ?_;refine JN bo I (fun w1 aY=>OA _ hn _) ?_;intro v0 _;dsimp only [id_eq,Zb,Za];refine Ja I<|Jn<|Jq<|Jr<|Jv I<|JI I<|Jv I<|Jn<|J0 ?_;refine bd (ι:=Nat×Value) (fun x=>x.1<=vs.length) (fun x=>[(27,.q x.1),(26,.q vs.length),(25,.slice a vs.length cp),(6,x.2)]) (fun x=>[row 9 1 x.2 (ess.take x.1).flatten.length (ie (ess.take x.1).flatten).flatten]) (fun x=>vs.length-x.1) ?_ ?_
  ·apply aJ (0,v0) (Zi _)
   case hs1=>exact cB
   case ht=>
    exact .h1 .nil
  rintro ⟨k,v⟩ hk;dsimp only at hk ⊢;by_cases aN:k<vs.length
  ·have fS:k<ess.length:=by omega
   have c8:=ha (by intro e;have:=congrArg List.length e;simp at this;subst this;simp at aN);have UA:=hr k _ _ (Zc aN) (Zc fS);have XY:=UA;obtain ⟨a1,eI,b1,o1,e1,_⟩:=XY;rw [cu] at e1;rw [e1] at UA;have c0:w.cell? ⟨b,o+k*1,none⟩=some (.slice a1 ess[k].length eI):=by rw [<- e1];exact (hc k _ (BU aN)).2 0 _ I
   have tV:=FX ess (k+1);have hs:(ess.take (k+1)).flatten.length=(ess.take k).flatten.length+ess[k].length:=by rw [sH fS,Zg]
   (refine Jr<|JA I<|Jn<|Jq<|Jd I fun aA=>Jk<|Jq<|J0<|Jr<|ab (gr c8 aA) I<|ab (ag (.of I) (At.base c0 I)) I<|Ja I<|Jn<|Jg<|Jv I<|Jv I ?_)
   with_reducible apply eK
   case hx=>exact Is.of I
   case hy=>exact Is.of I
   case ht=>exact .here
   case hsrc=>exact fun w' az=>UA.keeps az.keeps
   case h1=>exact zW _
   case hz=>exact I
   case hsz=>exact I
   case hb0=>exact I
   case hb=>rw [cu];omega
   case hd=>rfl
   intro v';rw [cu];refine Ja I<|Jx<|Jj<|Jt<|Jg<|JB I (by omega)<|Jv I<|Jn ?_;apply aI (k+1,v') (show k+1<=vs.length by omega) (show vs.length-(k+1)<vs.length-k by omega)
   case hs1=>exact cB
   case ht=>
    show bK _ [row 9 1 v' (ess.take (k+1)).flatten.length (ie (ess.take (k+1)).flatten).flatten] _;rw [hs,sH fS,M4,Zab];exact .h1 .nil
  ·obtain rfl:k=vs.length:=by omega
   have sy:vs.length=ess.length:=hl;rw [sy,ZN];refine Jr<|JA I<|Jn<|Jq<|Jc I fun aA=>Jp<|Jl<|Jo<|Jt<|Jr<|Jv I<|Ja I<|Jn<|Je ?_
   with_reducible first|apply aP|apply aQ
   case he=>exact dS I I
   case hR=>
    intro w' az;exact aF v trivial (by exact .h1 .nil) az I
theorem Rd.one {v:Value} {sz:Nat} {xs:List (List Value)} (h:Rd w v sz xs):v.oneCell'=true:=by
 obtain ⟨a,cap,b,o,rfl,_⟩:=h;rfl
def xM {α:Type} (bf:List ByteArray) (nm:α->ByteArray) (ck:α->Int) (l:List α) (k:Nat):Int:=(l[k]?.map fun x=>ba [bT (!jD (nm x)) 8,bT (fy (bf++(l.take k).map nm) (nm x)) 9,ck x]).getD 0
def fa {α:Type} (nW:Int) (bf:List ByteArray) (nm:α->ByteArray) (ck:α->Int) (l:List α):Int:=if nW<(l.length:Int) then 5 else jK (xM bf nm ck l) l.length
theorem RR.one {s d t p:Value} (h:RR w r s d t p):s.oneCell'=true/\d.oneCell'=true/\t.oneCell'=true/\p.oneCell'=true:=⟨Rd.one h.sr,Rd.one h.de,Rd.one h.ti,Rd.one h.po⟩
theorem ns {α:Type} {nm:α->ByteArray} {ck:α->Int} {l:List α} (h:k<l.length):xM bf nm ck l k=ba [bT (!jD (nm l[k])) 8,bT (fy (bf++(l.take k).map nm) (nm l[k])) 9,ck l[k]]:=by
 unfold xM;rw [Zc h];rfl
def fo (r:Ro) (m:Int):Int:=bT (decide (m<0)||decide (r.ma<=m)) 10
theorem FK {s d t p:Value} (m:Int) {w w1:World} (h:RR w1 r s d t p):ao T_ 136 [RA r s d t p,.q m] w (.q (fo r m)):=by
 obtain ⟨h1,h2,h3,h4⟩:=h.one;unfold RA;refine ak func136 I I ?_
 (refine Jr<|Jy I I fun _ _=>Ja I<|Ji<|Jv I<|JA I<|Jv I<|gy I I I I<|au I I (fun hg bG=>(ai (.of I) ae)) I<|au I I (fun hg bG=>(ag (.bX hg I) (At.lit .here I))) I<|au I I (fun hg bG=>(Af (.bX hg I) (.bX hg I))) I<|ab (bE (.of I) I) I<|aj bo I (fun w' az=>(dO _ 10 w'))<|Ja I<|Jn<|Je<|JT ?_)
 rfl
theorem JO (x:Sr) (w:World):ao T_ 139 [.agg x.cells.toArray] w (.string x.nm):=by
 unfold Sr.cells;refine ak func139 I I ?_
 (refine Jr<|Jy I I fun _ _=>Ja I<|Ji<|bN I I ae<|JL I .here I<|Ja I<|Jn<|Je<|JT ?_)
 rfl
theorem Ea (x:De) (w:World):ao T_ 124 [.agg x.cells.toArray] w (.string x.nm):=by
 unfold De.cells;refine ak func124 I I ?_
 (refine Jr<|Jy I I fun _ _=>Ja I<|Ji<|bN I I ae<|JL I .here I<|Ja I<|Jn<|Je<|JT ?_)
 rfl
theorem D9 (x:Ti) (w:World):ao T_ 119 [.agg x.cells.toArray] w (.string x.nm):=by
 unfold Ti.cells;refine ak func119 I I ?_
 (refine Jr<|Jy I I fun _ _=>Ja I<|Ji<|bN I I ae<|JL I .here I<|Ja I<|Jn<|Je<|JT ?_)
 rfl
set_option maxHeartbeats 1000000 in
theorem CT {l:List Sr} (nW:Int) {ck:Sr->Int} {f1 f2:FuncId} {first2 cap:List Value} [bQ T_ f1] [bQ T_ f2] {w:World} (h:Rd w lv 2 (uj l)) (hb:Rd w bv 1 (ie bf)) (hn:bf.length+l.length<=1000)
  (wG:∀ x∈l,∀ w',aH [] w w'->ao T_ f1 [.agg x.cells.toArray] w' (.string x.nm)) (wF:∀ x∈l,∀ w',aH [] w w'->ao T_ f2 (first2++[.agg x.cells.toArray]++cap) w' (.q (ck x))) :
  ao T_ 138 [lv,.q nW,bv,.func (.func f1) #[] #[],.func (.func f2) first2.toArray cap.toArray] w (.q (fa nW bf Sr.nm ck l)):=by
 obtain ⟨a,cp,b,o,rfl,dD,cr,ha,hc⟩:=h;rw [cy] at *;unfold maxLen at cr;unfold fa;refine ak func138 I I ?_
 (refine Jr<|Ja I<|Jn<|Jq<|Jr<|Jv I<|JI I<|Jv I<|JE I<|Jn<|gR I (fun aA=>?_) fun aA=>?_;refine Jr<|Ja I<|Jn<|Ju<|JT ?_;rotate_left;refine Jk<|Jr<|Jv I ?_;rotate_right)
 ·rw [if_pos (by omega)]
 rw [if_neg (by omega)];refine JN bS I (fun w1 aY=>w8 (hb.keeps aY.keeps) (by omega)) ?_;intro v0 _;dsimp only [id_eq,Zb,Za];refine Ja I<|Jn<|Jq<|Jr<|Jv I<|JI I<|Jv I<|Jn<|J0 ?_;refine bd (ι:=Nat×Value) (fun x=>x.1<=l.length/\∀ i,i<x.1->xM bf Sr.nm ck l i=0) (fun x=>[(24,.q x.1),(23,.q l.length),(22,.slice a l.length cp),(11,x.2),(3,.func (.func f1) #[] #[]),(4,.func (.func f2) first2.toArray cap.toArray)]) (fun x=>[row 9 1 x.2 (bf++(l.take x.1).map Sr.nm).length (aO (bf++(l.take x.1).map Sr.nm))]) (fun x=>l.length-x.1) ?_ ?_
 ·apply aJ (0,v0) ⟨Zi _,fun i hi=>absurd hi (ZW _)⟩
  case hs1=>exact cB
  case ht=>
   rw [show bf++(l.take 0).map Sr.nm=bf by simp];exact .h1 .nil
 rintro ⟨k,v⟩ ⟨hk,hf⟩;dsimp only at hk hf ⊢;by_cases aN:k<l.length
 ·have c8:=ha (gW aN);have aG:=(hc k _ (fG aN)).2;have Dj:=wG _ (Zj aN);have fB:=wF _ (Zj aN);have hE:=ns (bf:=bf) (nm:=Sr.nm) (ck:=ck) aN;have htk:bf++(l.take (k+1)).map Sr.nm=(bf++(l.take k).map Sr.nm)++[(l[k]).nm]:=by
   rw [Zn aN,Zz,Zh];rfl
  have hlen:(bf++(l.take k).map Sr.nm).length=bf.length+k:=by
   rw [Zg,Zd,Zs];omega
  have rV:∀ (w':World),Rd w' v 1 (ie (bf++(l.take k).map Sr.nm))->ao T_ 179 [v,.string (l[k]).nm] w' (.bool (fy (bf++(l.take k).map Sr.nm) (l[k]).nm)):=fun w' hr=>kz _ hr
  generalize hB:bf++(l.take k).map Sr.nm=B at hE htk hlen rV ⊢;have rS:B.length=B.length:=rfl;generalize l[k]=x at aG Dj fB hE htk rV;have bj:aO (B++[x.nm])=aO B++[.string x.nm]:=by rw [fg];rfl
  have Kw:(B++[x.nm]).length=B.length+1:=by simp
  unfold Sr.cells at aG Dj fB
  (refine Jr<|JA I<|Jn<|Jq<|Jd I fun aA=>Jk<|Jq<|J0<|Jr<|ab (gr c8 aA) I<|ab (iD (eO.base aG I)) I<|Jz I I fun _ _=>aq (.of I) (.of I) .here I I (gK I I) (bF I) an<|Ji<|Jv I<|ab (cN .here) I<|aj bS I (fun w' az=>(Dj w' (Mem.keeps az)))<|Ja I<|Jn<|Jq<|Jq ?_)
  with_reducible refine cS 12 (by kernel_rfl) ?_
  (refine ar kL I<|aZ bS I (fun w' az=>(Eb _ w'))<|ar (fC (.of I)) I<|aZ bo I (fun w' az=>(dO _ 8 w'))<|ar kL I<|ar kL I<|aZ bo I (fun w' az=>(rV w' (dA az (.there .here) rS)))<|aZ bo I (fun w' az=>(dO _ 9 w'))<|ar kL I<|ar (cN .here) I<|aZ bS I (fun w' az=>(fB w' (Mem.keeps az)))<|eA (aB (.o I (.o I (.o I .nil))) I I I I) I I ?_)
  with_reducible refine dz I fun bq lN=>?_
  (refine aj bS I (fun w' az=>(dE (Mem.dB az .here I I) (cg.cons (cg.cons (cg.cons cg.nil)))))<|Ja I<|Ji<|Jv I<|JD I<|Jn<|gR I (fun aA=>?_) fun aA=>?_;refine Jr<|Jv I<|Ja I<|Jn<|Ju<|Jm<|Jh<|Jh<|Jm<|Jh<|JT ?_;rotate_left;refine Jk<|Jg<|Jv I<|Jv I<|bn (aB (.o I .nil) I I I I) I fun _ _=>?_;rotate_right)
  ·rw [<- hE] at aA ⊢;rw [fj hf aN aA]
  have hz:xM bf Sr.nm ck l k=0:=by rw [hE];exact Zr.1 aA
  refine bH (.of I) (.of I) c6 .here an (by rfl) (dG I) (by rfl) (by rfl) (by rfl) eC (by rfl) ?_;intro v';refine Ja I<|Jx<|Jj<|Jt<|Jg<|JB I (by omega)<|Jv I<|Jn ?_;apply aI (k+1,v') ⟨show k+1<=l.length by omega,fun i hi=>by
   by_cases e:i=k
   ·rw [e];exact hz
   ·exact hf i (by omega)⟩ (show l.length-(k+1)<l.length-k by omega)
  case hs1=>exact cB
  case ht=>
   show bK _ [row 9 1 v' (bf++(l.take (k+1)).map Sr.nm).length (aO (bf++(l.take (k+1)).map Sr.nm))] _;rw [htk,bj,Kw];exact .h1 .nil
 ·obtain rfl:k=l.length:=by omega
  refine Jr<|JA I<|Jn<|Jq<|Jc I fun aA=>Jp<|Jl<|Jo<|Jt<|Jr<|Ja I<|Jn<|Je<|JT ?_;rw [dC.2 hf]
set_option maxHeartbeats 1000000 in
theorem CU {l:List De} (nW:Int) {ck:De->Int} {f1 f2:FuncId} {first2 cap:List Value} [bQ T_ f1] [bQ T_ f2] {w:World} (h:Rd w lv 3 (ue l)) (hb:Rd w bv 1 (ie bf)) (hn:bf.length+l.length<=1000)
  (wG:∀ x∈l,∀ w',aH [] w w'->ao T_ f1 [.agg x.cells.toArray] w' (.string x.nm)) (wF:∀ x∈l,∀ w',aH [] w w'->ao T_ f2 (first2++[.agg x.cells.toArray]++cap) w' (.q (ck x))) :
  ao T_ 141 [lv,.q nW,bv,.func (.func f1) #[] #[],.func (.func f2) first2.toArray cap.toArray] w (.q (fa nW bf De.nm ck l)):=by
 obtain ⟨a,cp,b,o,rfl,dD,cr,ha,hc⟩:=h;rw [bZ] at *;unfold maxLen at cr;unfold fa;refine ak func141 I I ?_
 (refine Jr<|Ja I<|Jn<|Jq<|Jr<|Jv I<|JI I<|Jv I<|JE I<|Jn<|gR I (fun aA=>?_) fun aA=>?_;refine Jr<|Ja I<|Jn<|Ju<|JT ?_;rotate_left;refine Jk<|Jr<|Jv I ?_;rotate_right)
 ·rw [if_pos (by omega)]
 rw [if_neg (by omega)];refine JN bS I (fun w1 aY=>w8 (hb.keeps aY.keeps) (by omega)) ?_;intro v0 _;dsimp only [id_eq,Zb,Za];refine Ja I<|Jn<|Jq<|Jr<|Jv I<|JI I<|Jv I<|Jn<|J0 ?_;refine bd (ι:=Nat×Value) (fun x=>x.1<=l.length/\∀ i,i<x.1->xM bf De.nm ck l i=0) (fun x=>[(24,.q x.1),(23,.q l.length),(22,.slice a l.length cp),(11,x.2),(3,.func (.func f1) #[] #[]),(4,.func (.func f2) first2.toArray cap.toArray)]) (fun x=>[row 9 1 x.2 (bf++(l.take x.1).map De.nm).length (aO (bf++(l.take x.1).map De.nm))]) (fun x=>l.length-x.1) ?_ ?_
 ·apply aJ (0,v0) ⟨Zi _,fun i hi=>absurd hi (ZW _)⟩
  case hs1=>exact cB
  case ht=>
   rw [show bf++(l.take 0).map De.nm=bf by simp];exact .h1 .nil
 rintro ⟨k,v⟩ ⟨hk,hf⟩;dsimp only at hk hf ⊢;by_cases aN:k<l.length
 ·have c8:=ha (gI aN);have aG:=(hc k _ (fq aN)).2;have Dj:=wG _ (Zj aN);have fB:=wF _ (Zj aN);have hE:=ns (bf:=bf) (nm:=De.nm) (ck:=ck) aN;have htk:bf++(l.take (k+1)).map De.nm=(bf++(l.take k).map De.nm)++[(l[k]).nm]:=by
   rw [Zn aN,Zz,Zh];rfl
  have hlen:(bf++(l.take k).map De.nm).length=bf.length+k:=by
   rw [Zg,Zd,Zs];omega
  have rV:∀ (w':World),Rd w' v 1 (ie (bf++(l.take k).map De.nm))->ao T_ 179 [v,.string (l[k]).nm] w' (.bool (fy (bf++(l.take k).map De.nm) (l[k]).nm)):=fun w' hr=>kz _ hr
  generalize hB:bf++(l.take k).map De.nm=B at hE htk hlen rV ⊢;have rS:B.length=B.length:=rfl;generalize l[k]=x at aG Dj fB hE htk rV;have bj:aO (B++[x.nm])=aO B++[.string x.nm]:=by rw [fg];rfl
  have Kw:(B++[x.nm]).length=B.length+1:=by simp
  unfold De.cells at aG Dj fB
  (refine Jr<|JA I<|Jn<|Jq<|Jd I fun aA=>Jk<|Jq<|J0<|Jr<|ab (gr c8 aA) I<|ab (iD (eO.base aG I)) I<|Jz I I fun _ _=>aq (.of I) (.of I) .here I I (fc I I I) (bF I) an<|Ji<|Jv I<|ab (cN .here) I<|aj bS I (fun w' az=>(Dj w' (Mem.keeps az)))<|Ja I<|Jn<|Jq<|Jq ?_)
  with_reducible refine cS 12 (by kernel_rfl) ?_
  (refine ar kL I<|aZ bS I (fun w' az=>(Eb _ w'))<|ar (fC (.of I)) I<|aZ bo I (fun w' az=>(dO _ 8 w'))<|ar kL I<|ar kL I<|aZ bo I (fun w' az=>(rV w' (dA az (.there .here) rS)))<|aZ bo I (fun w' az=>(dO _ 9 w'))<|ar kL I<|ar (cN .here) I<|aZ bS I (fun w' az=>(fB w' (Mem.keeps az)))<|eA (aB (.o I (.o I (.o I .nil))) I I I I) I I ?_)
  with_reducible refine dz I fun bq lN=>?_
  (refine aj bS I (fun w' az=>(dE (Mem.dB az .here I I) (cg.cons (cg.cons (cg.cons cg.nil)))))<|Ja I<|Ji<|Jv I<|JD I<|Jn<|gR I (fun aA=>?_) fun aA=>?_;refine Jr<|Jv I<|Ja I<|Jn<|Ju<|Jm<|Jh<|Jh<|Jm<|Jh<|JT ?_;rotate_left;refine Jk<|Jg<|Jv I<|Jv I<|bn (aB (.o I .nil) I I I I) I fun _ _=>?_;rotate_right)
  ·rw [<- hE] at aA ⊢;rw [fj hf aN aA]
  have hz:xM bf De.nm ck l k=0:=by rw [hE];exact Zr.1 aA
  refine bH (.of I) (.of I) c6 .here an (by rfl) (dG I) (by rfl) (by rfl) (by rfl) eC (by rfl) ?_;intro v';refine Ja I<|Jx<|Jj<|Jt<|Jg<|JB I (by omega)<|Jv I<|Jn ?_;apply aI (k+1,v') ⟨show k+1<=l.length by omega,fun i hi=>by
   by_cases e:i=k
   ·rw [e];exact hz
   ·exact hf i (by omega)⟩ (show l.length-(k+1)<l.length-k by omega)
  case hs1=>exact cB
  case ht=>
   show bK _ [row 9 1 v' (bf++(l.take (k+1)).map De.nm).length (aO (bf++(l.take (k+1)).map De.nm))] _;rw [htk,bj,Kw];exact .h1 .nil
 ·obtain rfl:k=l.length:=by omega
  refine Jr<|JA I<|Jn<|Jq<|Jc I fun aA=>Jp<|Jl<|Jo<|Jt<|Jr<|Ja I<|Jn<|Je<|JT ?_;rw [dC.2 hf]
set_option maxHeartbeats 1000000 in
theorem CS {l:List Ti} (nW:Int) {ck:Ti->Int} {f1 f2:FuncId} {first2 cap:List Value} [bQ T_ f1] [bQ T_ f2] {w:World} (h:Rd w lv 3 (tE l)) (hb:Rd w bv 1 (ie bf)) (hn:bf.length+l.length<=1000)
  (wG:∀ x∈l,∀ w',aH [] w w'->ao T_ f1 [.agg x.cells.toArray] w' (.string x.nm)) (wF:∀ x∈l,∀ w',aH [] w w'->ao T_ f2 (first2++[.agg x.cells.toArray]++cap) w' (.q (ck x))) :
  ao T_ 144 [lv,.q nW,bv,.func (.func f1) #[] #[],.func (.func f2) first2.toArray cap.toArray] w (.q (fa nW bf Ti.nm ck l)):=by
 obtain ⟨a,cp,b,o,rfl,dD,cr,ha,hc⟩:=h;rw [bU] at *;unfold maxLen at cr;unfold fa;refine ak func144 I I ?_
 (refine Jr<|Ja I<|Jn<|Jq<|Jr<|Jv I<|JI I<|Jv I<|JE I<|Jn<|gR I (fun aA=>?_) fun aA=>?_;refine Jr<|Ja I<|Jn<|Ju<|JT ?_;rotate_left;refine Jk<|Jr<|Jv I ?_;rotate_right)
 ·rw [if_pos (by omega)]
 rw [if_neg (by omega)];refine JN bS I (fun w1 aY=>w8 (hb.keeps aY.keeps) (by omega)) ?_;intro v0 _;dsimp only [id_eq,Zb,Za];refine Ja I<|Jn<|Jq<|Jr<|Jv I<|JI I<|Jv I<|Jn<|J0 ?_;refine bd (ι:=Nat×Value) (fun x=>x.1<=l.length/\∀ i,i<x.1->xM bf Ti.nm ck l i=0) (fun x=>[(24,.q x.1),(23,.q l.length),(22,.slice a l.length cp),(11,x.2),(3,.func (.func f1) #[] #[]),(4,.func (.func f2) first2.toArray cap.toArray)]) (fun x=>[row 9 1 x.2 (bf++(l.take x.1).map Ti.nm).length (aO (bf++(l.take x.1).map Ti.nm))]) (fun x=>l.length-x.1) ?_ ?_
 ·apply aJ (0,v0) ⟨Zi _,fun i hi=>absurd hi (ZW _)⟩
  case hs1=>exact cB
  case ht=>
   rw [show bf++(l.take 0).map Ti.nm=bf by simp];exact .h1 .nil
 rintro ⟨k,v⟩ ⟨hk,hf⟩;dsimp only at hk hf ⊢;by_cases aN:k<l.length
 ·have c8:=ha (eV aN);have aG:=(hc k _ (ed aN)).2;have Dj:=wG _ (Zj aN);have fB:=wF _ (Zj aN);have hE:=ns (bf:=bf) (nm:=Ti.nm) (ck:=ck) aN;have htk:bf++(l.take (k+1)).map Ti.nm=(bf++(l.take k).map Ti.nm)++[(l[k]).nm]:=by
   rw [Zn aN,Zz,Zh];rfl
  have hlen:(bf++(l.take k).map Ti.nm).length=bf.length+k:=by
   rw [Zg,Zd,Zs];omega
  have rV:∀ (w':World),Rd w' v 1 (ie (bf++(l.take k).map Ti.nm))->ao T_ 179 [v,.string (l[k]).nm] w' (.bool (fy (bf++(l.take k).map Ti.nm) (l[k]).nm)):=fun w' hr=>kz _ hr
  generalize hB:bf++(l.take k).map Ti.nm=B at hE htk hlen rV ⊢;have rS:B.length=B.length:=rfl;generalize l[k]=x at aG Dj fB hE htk rV;have bj:aO (B++[x.nm])=aO B++[.string x.nm]:=by rw [fg];rfl
  have Kw:(B++[x.nm]).length=B.length+1:=by simp
  unfold Ti.cells at aG Dj fB
  (refine Jr<|JA I<|Jn<|Jq<|Jd I fun aA=>Jk<|Jq<|J0<|Jr<|ab (gr c8 aA) I<|ab (iD (eO.base aG I)) I<|Jz I I fun _ _=>aq (.of I) (.of I) .here I I (fc I I I) (bF I) an<|Ji<|Jv I<|ab (cN .here) I<|aj bS I (fun w' az=>(Dj w' (Mem.keeps az)))<|Ja I<|Jn<|Jq<|Jq ?_)
  with_reducible refine cS 12 (by kernel_rfl) ?_
  (refine ar kL I<|aZ bS I (fun w' az=>(Eb _ w'))<|ar (fC (.of I)) I<|aZ bo I (fun w' az=>(dO _ 8 w'))<|ar kL I<|ar kL I<|aZ bo I (fun w' az=>(rV w' (dA az (.there .here) rS)))<|aZ bo I (fun w' az=>(dO _ 9 w'))<|ar kL I<|ar (cN .here) I<|aZ bS I (fun w' az=>(fB w' (Mem.keeps az)))<|eA (aB (.o I (.o I (.o I .nil))) I I I I) I I ?_)
  with_reducible refine dz I fun bq lN=>?_
  (refine aj bS I (fun w' az=>(dE (Mem.dB az .here I I) (cg.cons (cg.cons (cg.cons cg.nil)))))<|Ja I<|Ji<|Jv I<|JD I<|Jn<|gR I (fun aA=>?_) fun aA=>?_;refine Jr<|Jv I<|Ja I<|Jn<|Ju<|Jm<|Jh<|Jh<|Jm<|Jh<|JT ?_;rotate_left;refine Jk<|Jg<|Jv I<|Jv I<|bn (aB (.o I .nil) I I I I) I fun _ _=>?_;rotate_right)
  ·rw [<- hE] at aA ⊢;rw [fj hf aN aA]
  have hz:xM bf Ti.nm ck l k=0:=by rw [hE];exact Zr.1 aA
  refine bH (.of I) (.of I) c6 .here an (by rfl) (dG I) (by rfl) (by rfl) (by rfl) eC (by rfl) ?_;intro v';refine Ja I<|Jx<|Jj<|Jt<|Jg<|JB I (by omega)<|Jv I<|Jn ?_;apply aI (k+1,v') ⟨show k+1<=l.length by omega,fun i hi=>by
   by_cases e:i=k
   ·rw [e];exact hz
   ·exact hf i (by omega)⟩ (show l.length-(k+1)<l.length-k by omega)
  case hs1=>exact cB
  case ht=>
   show bK _ [row 9 1 v' (bf++(l.take (k+1)).map Ti.nm).length (aO (bf++(l.take (k+1)).map Ti.nm))] _;rw [htk,bj,Kw];exact .h1 .nil
 ·obtain rfl:k=l.length:=by omega
  refine Jr<|JA I<|Jn<|Jq<|Jc I fun aA=>Jp<|Jl<|Jo<|Jt<|Jr<|Ja I<|Jn<|Je<|JT ?_;rw [dC.2 hf]
end Go.Proofs.A1
namespace Go.SL
open Go
section
variable {P:Program} {c:Cx} {sl:aD} {hs:List bh} {dst:Option Tmp} {ty:TypeId} {pos:String} {af:Array Edge} {g:Option (Nat×Bool)}
variable {κ:Type} [DecidableEq κ] {kv:κ->Value} {kind:TypeDesc}
theorem DR {t kt et:TypeId} {x y:Operand} {b:Nat} {k:κ} {l:List (κ×Value)} {z:Value} [hu:gJ P t (.map kt et)] [G4:gJ P kt kind] [hz:lQ P et z] (hk:KeyLaw kind kv) (hx:Is sl x (.map (some b))) (hy:Is sl y (kv k)) (hl:Looks c hs b kv l) :
  cM P c sl hs ⟨dst,.lookup t x y true,ty,pos,af,g⟩ (.tuple #[(eN k l).getD z,.bool (eN k l).isSome]):=
 ⟨by
   simp,fun a w ha hm=>by
  obtain ⟨es,ck,h1,h2⟩:=hl w hm;have hg:(getObj b).run P w=.ok (.map es ck) w:=by simp [getObj,Sem.run,h1]
  have Bt:=hk.flat P kt es.isEmpty w k G4.eq;rcases findNow_spec hk k es.toList l 0 h2.eq with ⟨a1,a2⟩ | ⟨j,v,a1,a2,_⟩
  ·have:(Instr.findKey kt (kv k) es.toList).run P w=.ok none w:=by
    simp [Instr.findKey,aW G4.eq,a2]
   simp [execOp,hx a ha,hy a ha,Instr.lookup,aW hu.eq,hg,Bt,this,a1,iI (t:=et) (v:=z)]
  ·have:(Instr.findKey kt (kv k) es.toList).run P w=.ok (some (0+j,v)) w:=by
    simp [Instr.findKey,aW G4.eq,a2]
   simp [execOp,hx a ha,hy a ha,Instr.lookup,aW hu.eq,hg,Bt,this,a1]⟩
end
end Go.SL
namespace Go.Proofs.A1
open Go Go.SL
open Tryz
open Tryz renaming prog->T_
def lM (a b c:Int):Value:=.agg #[.q a,.q b,.q c]
abbrev PM:=List (ByteArray×Value)
def xz (l:List Sr):Nat->PM
 | 0=>[]
 | k + 1 => match l[k]? with
  | some x=>mY x.nm (lM (-1) (-1) x.mx) (xz l k)
  | none=>xz l k
def Dd (m:PM) (l:List De):Nat->PM
 | 0=>m
 | k + 1 => match l[k]? with
  | some x=>mY x.nm (lM (k:Nat) x.mx (-1)) (Dd m l k)
  | none=>Dd m l k
def Mf (m:PM) (n:Nat) (l:List Ti):Nat->PM
 | 0=>m
 | k + 1 => match l[k]? with
  | some x=>mY x.nm (lM ((n:Int)+(k:Nat)) x.fr x.to) (Mf m n l k)
  | none=>Mf m n l k
def oI (r:Ro):PM:=Mf (Dd (xz r.sr r.sr.length) r.de r.de.length) r.de.length r.ti r.ti.length
variable {K:Nat} {d:Value} {k:Nat} {o:ByteArray} {p:Value} {po:List Po} {r:Ro} {s t:Value} {v:Int} {w w':World}
theorem IT {l:List Sr} (h:k<l.length):xz l (k+1)=mY (l[k]).nm (lM (-1) (-1) (l[k]).mx) (xz l k):=by rw [xz,Zc h]
theorem IU {m:PM} {l:List De} (h:k<l.length):Dd m l (k+1)=mY (l[k]).nm (lM (k:Nat) (l[k]).mx (-1)) (Dd m l k):=by rw [Dd,Zc h]
theorem IS {m:PM} {n:Nat} {l:List Ti} (h:k<l.length):Mf m n l (k+1)=mY (l[k]).nm (lM ((n:Int)+(k:Nat)) (l[k]).fr (l[k]).to) (Mf m n l k):=by rw [Mf,Zc h]
set_option maxHeartbeats 1000000 in
theorem Fp (h:RR w r s d t p) (cJ:r.de.length+r.ti.length<=1000000):bB T_ 186 [RA r s d t p] w [] (fun _:Nat=>True) (fun b=>.map (some b)) (fun b=>[mp (fun s:ByteArray=>Value.string s) b (oI r)]):=by
 obtain ⟨h1,h2,h3,h4⟩:=h.one;have hs:=h.sr;have hd:=h.de;have Cz:=h.ti;obtain ⟨a1,eI,Qe,Ps,rfl,qp,jd,l7,kM⟩:=hs;obtain ⟨a2,dL,Qd,Pr,rfl,kp,fh,js,jT⟩:=hd;obtain ⟨a3,ew,LH,I4,rfl,mS,gi,sX,qe⟩:=Cz;rw [cy] at *;rw [bZ] at *;rw [bU] at *;unfold maxLen at jd fh gi;unfold RA;refine aV func186 I I ?_;refine Jr<|Jy I I fun _ _=>Ja I<|Ji ?_;rename_i b1 rW;refine BH I ?_;intro bm Mt
 (refine Ja I<|Jn<|Jq<|Jr<|bN I I ae<|JL I (.there .here) I<|JI I<|Jv I<|Jn<|J0 ?_)
 refine bd (fun k:Nat=>k<=r.sr.length) (fun k=>[(14,.q k),(13,.q r.sr.length),(12,.slice a1 r.sr.length eI),(3,.map (some bm)),(1,.p b1)]) (fun k=>[mp (fun s:ByteArray=>Value.string s) bm (xz r.sr k),JP b1 r (.slice a1 r.sr.length eI) (.slice a2 r.de.length dL) (.slice a3 r.ti.length ew) p]) (fun k=>r.sr.length-k) ?_ ?_
 ·apply aJ 0 (show 0<=r.sr.length from Zi _)
  case hs1=>exact cB
  case ht=>
   exact .h2 .nil
 intro k hk;by_cases aN:k<r.sr.length
 ·have c8:=l7 (gW aN);have aG:=(kM k _ (fG aN)).2;have kc:xz r.sr (k+1)=_:=IT aN;unfold Sr.cells at aG;unfold lM at kc;generalize r.sr[k]=x at aG kc
  (refine Jr<|JA I<|Jn<|Jq<|Jd I fun aA=>Jk<|Jq<|J0<|Jr<|ab (gr c8 aA) I<|ab (iD (eO.base aG I)) I<|Jz I I fun _ _=>aq (.of I) (.of I) .here I I (gK I I) (bF I) an<|Jn<|Jg<|Jv I<|bN I I ae<|JL I .here I<|bN I I ae<|JL I .here I<|ab (aX (.o I (.o I (.o I .nil))) an) I ?_)
  refine nk Kg (.of I) (.of I) (.of I) (.there .here) ?_;refine Jx<|Jj<|Jt<|Jg<|JB I (by omega)<|Jv I<|Jn ?_;apply aI (k+1) (show k+1<=r.sr.length by omega) (show r.sr.length-(k+1)<r.sr.length-k by omega)
  case hs1=>exact cB
  case ht=>
   show bK _ [mp (fun s:ByteArray=>Value.string s) bm (xz r.sr (k+1)),JP b1 r (.slice a1 r.sr.length eI) (.slice a2 r.de.length dL) (.slice a3 r.ti.length ew) p] _
   rw [kc];exact .h1 (.cons (.there .here) .nil)
 obtain rfl:k=r.sr.length:=by omega
 (refine Jr<|JA I<|Jn<|Jq<|Jc I fun aA=>Jp<|Jl<|Jo<|Jt<|Jq<|Jr<|bN I I ae<|JL I (.there .here) I<|JI I<|Jv I<|Jn<|J0 ?_)
 refine bd (fun k:Nat=>k<=r.de.length) (fun k=>[(28,.q k),(27,.q r.de.length),(26,.slice a2 r.de.length dL),(3,.map (some bm)),(1,.p b1)]) (fun k=>[mp (fun s:ByteArray=>Value.string s) bm (Dd (xz r.sr r.sr.length) r.de k),JP b1 r (.slice a1 r.sr.length eI) (.slice a2 r.de.length dL) (.slice a3 r.ti.length ew) p]) (fun k=>r.de.length-k) ?_ ?_
 ·apply aJ 0 (show 0<=r.de.length from Zi _)
  case hs1=>exact cB
  case ht=>
   exact .h2 .nil
 intro k hk;by_cases aN:k<r.de.length
 ·have c8:=js (gI aN);have aG:=(jT k _ (fq aN)).2;have kc:Dd (xz r.sr r.sr.length) r.de (k+1)=_:=IU aN;unfold De.cells at aG;unfold lM at kc;generalize r.de[k]=x at aG kc
  (refine Jr<|JA I<|Jn<|Jq<|Jd I fun aA=>Jk<|Jq<|J0<|Jr<|Jv I<|ab (gr c8 aA) I<|ab (iD (eO.base aG I)) I<|Jz I I fun _ _=>Ja I<|aq (.of I) (.of I) .here I I (fc I I I) (bF I) an<|Jn<|Jg<|Jv I<|bN I I ae<|JL I .here I<|Jv I<|bN I I ae<|JL I .here I<|ab (aX (.o I (.o I (.o I .nil))) an) I ?_)
  refine nk Kg (.of I) (.of I) (.of I) (.there .here) ?_;refine Jx<|Jj<|Jt<|Jg<|JB I (by omega)<|Jv I<|Jn ?_;apply aI (k+1) (show k+1<=r.de.length by omega) (show r.de.length-(k+1)<r.de.length-k by omega)
  case hs1=>exact cB
  case ht=>
   show bK _ [mp (fun s:ByteArray=>Value.string s) bm (Dd (xz r.sr r.sr.length) r.de (k+1)),JP b1 r (.slice a1 r.sr.length eI) (.slice a2 r.de.length dL) (.slice a3 r.ti.length ew) p] _
   rw [kc];exact .h1 (.cons (.there .here) .nil)
 obtain rfl:k=r.de.length:=by omega
 (refine Jr<|JA I<|Jn<|Jq<|Jc I fun aA=>Jp<|Jl<|Jo<|Jt<|Jq<|Jr<|bN I I ae<|JL I (.there .here) I<|JI I<|Jv I<|Jn<|J0 ?_)
 refine bd (fun k:Nat=>k<=r.ti.length) (fun k=>[(44,.q k),(43,.q r.ti.length),(42,.slice a3 r.ti.length ew),(3,.map (some bm)),(1,.p b1)]) (fun k=>[mp (fun s:ByteArray=>Value.string s) bm (Mf (Dd (xz r.sr r.sr.length) r.de r.de.length) r.de.length r.ti k),JP b1 r (.slice a1 r.sr.length eI) (.slice a2 r.de.length dL) (.slice a3 r.ti.length ew) p]) (fun k=>r.ti.length-k) ?_ ?_
 ·apply aJ 0 (show 0<=r.ti.length from Zi _)
  case hs1=>exact cB
  case ht=>
   exact .h2 .nil
 intro k hk;by_cases aN:k<r.ti.length
 ·have c8:=sX (eV aN);have aG:=(qe k _ (ed aN)).2;have kc:Mf (Dd (xz r.sr r.sr.length) r.de r.de.length) r.de.length r.ti (k+1)=_:=IS aN;unfold Ti.cells at aG;unfold lM at kc;generalize r.ti[k]=x at aG kc
  (refine Jr<|JA I<|Jn<|Jq<|Jd I fun aA=>Jk<|Jq<|J0<|Jr<|Jv I<|ab (gr c8 aA) I<|ab (iD (eO.base aG I)) I<|Jz I I fun _ _=>Ja I<|aq (.of I) (.of I) .here I I (fc I I I) (bF I) an<|Jn<|Jg<|Jv I<|bN I I ae<|JL I .here I<|bN I I ae<|JL I bO I<|JI I<|Jv I<|JB I (by omega)<|bN I I ae<|JL I .here I<|bN I I ae<|JL I .here I<|ab (aX (.o I (.o I (.o I .nil))) an) I ?_)
  refine nk Kg (.of I) (.of I) (.of I) (.there .here) ?_;refine Jx<|Jj<|Jt<|Jg<|JB I (by omega)<|Jv I<|Jn ?_;apply aI (k+1) (show k+1<=r.ti.length by omega) (show r.ti.length-(k+1)<r.ti.length-k by omega)
  case hs1=>exact cB
  case ht=>
   show bK _ [mp (fun s:ByteArray=>Value.string s) bm (Mf (Dd (xz r.sr r.sr.length) r.de r.de.length) r.de.length r.ti (k+1)),JP b1 r (.slice a1 r.sr.length eI) (.slice a2 r.de.length dL) (.slice a3 r.ti.length ew) p] _
   rw [kc];exact .h1 (.cons (.there .here) .nil)
 obtain rfl:k=r.ti.length:=by omega
 refine Jr<|JA I<|Jn<|Jq<|Jc I fun aA=>Jp<|Jl<|Jo<|Jt<|Jr<|Jv I<|Ja I<|Jn<|Je ?_
 with_reducible first|apply aP|apply aQ
 case he=>exact dS I I
 case hR=>
  intro w' az;exact aF bm trivial (show bK _ [mp (fun s:ByteArray=>Value.string s) bm (oI r)] _ from by unfold oI;exact .h1 .nil) az I
theorem cD {a:Addr} {v:Value} (h:w.cell? a=some v) (hs:a.spot=none) (hk:aH [] w w'):w'.cell? a=some v:=by
 have hb:=World.block_lt_of_cell? w a h;obtain ⟨b,o,s⟩:=a;subst hs;have:=hk.block b hb (by simp);rw [<- h];simp [World.cell?,this]
theorem cq {P:Program} {c:Cx} {sl:aD} {hs:List bh} {dst:Option Tmp} {ty:TypeId} {pos:String} {af:Array Edge} {g:Option (Nat×Bool)} {x y z:Operand} {q:Bool} {v u V:Value} (hx:Is sl x (.bool q)) (hy:Is sl y v) (hz:Is sl z u) (e:(bif q then v else u)=V):cM P c sl hs ⟨dst,.pick x y z,ty,pos,af,g⟩ V:=e ▸ uK hx hy hz
theorem pR {α:Type} (p:α->Bool) (l:List α):(gH p l = -1/\l.find? p=none)\/∃ i,∃ h:i<l.length,gH p l=(i:Nat)/\l.find? p=some l[i]:=by
 cases hf:l.find? p with
 | none =>
  rw [ZaM] at hf;refine .inl ⟨fL fun i hi=>?_,I⟩;simpa [hi] using hf l[i] (Zj hi)
 | some x =>
  obtain ⟨hp,i,hi,rfl,hb⟩:=ZaB.1 hf;refine .inr ⟨i,hi,gG (fun j hj=>?_) hi hp,I⟩;have:=hb j hj;simpa [show j<l.length by omega] using this
theorem RD (x:Po) {b1 b2:Nat} {v:Int} {o:ByteArray} {w:World} (f1:w.cell? ⟨b1,0,none⟩=some (.q v)) (f2:w.cell? ⟨b2,0,none⟩=some (.string o)) :
  ao T_ 298 [.agg x.cells.toArray,.p b1,.p b2] w (.bool (EM v o x)):=by
 unfold Po.cells;refine ak func298 I I ?_
 (refine Jr<|Jy I I fun _ _=>Ja I<|Ji<|ab (cN .here) I<|ab (ag (.of I) (At.base f1 I)) I<|ab (ag (.of I) (At.base f2 I)) I<|bN I I ae<|JL I .here I<|ab (aX (.o I (.o I (.o I .nil))) an) I<|ab (uM (.of I) (.of I) (ka (fD (fD lZ))) I) I<|Ja I<|Jn<|Je<|JT ?_)
 simp [EM]
theorem Qx (x:Po) {b1 b2:Nat} {v:Int} {o:ByteArray} {w:World} (f1:w.cell? ⟨b1,0,none⟩=some (.q v)) (f2:w.cell? ⟨b2,0,none⟩=some (.string o)) :
  ao T_ 302 [.agg x.cells.toArray,.p b1,.p b2] w (.bool (AK v o x)):=by
 unfold Po.cells;refine ak func302 I I ?_
 (refine Jr<|Jy I I fun _ _=>Ja I<|Ji<|ab (cN .here) I<|ab (ag (.of I) (At.base f1 I)) I<|bN I I ae<|JL I .here I<|ab (ag (.of I) (At.base f2 I)) I<|ab (aX (.o I (.o I (.o I .nil))) an) I<|ab (uM (.of I) (.of I) (ka (fD (fD lZ))) I) I<|Ja I<|Jn<|Je<|JT ?_)
 simp [AK]
theorem AJ (v:Int) (o:ByteArray) {w:World} (h:RR w r s d t p):ao T_ 223 [RA r s d t p,.q v,.string o] w (.tuple #[.string ((eJ r.po v o).getD ⟨#[]⟩),.bool (eJ r.po v o).isSome]):=by
 have h1:=Rd.one h.sr;have h2:=Rd.one h.de;have h3:=Rd.one h.ti;have hp:=h.po;obtain ⟨a,cp,b,o',rfl,dD,cr,ha,hc⟩:=hp;rw [cO] at *;unfold maxLen at cr;unfold RA;refine ak func223 I I ?_
 (refine Jr<|Jy I I fun _ _=>Jy I I fun _ _=>Jy I I fun _ _=>Ja I<|Ja I<|Ji<|bN I I ae<|JL I bO I<|ab (bI .nil (.o I (.o I .nil))) I ?_)
 rename_i b3 uY b4 xB b5 Mu
 with_reducible apply aj
 case hr=>exact bo
 case hd=>rfl
 case hc=>
  intro w' az;have f1:w'.cell? ⟨b4,0,none⟩=some (.q v):=At.lit (by exact Take.there .here) I w' az;have f2:w'.cell? ⟨b5,0,none⟩=some (.string o):=At.lit (by exact .here) I w' az
  exact AL (f:=298) (p:=EM v o) (first:=[]) (cap:=[.p b4,.p b5]) (h.po.keeps az.keeps)
   (fun x hx w2 eL=>RD x (cD f1 I eL) (cD f2 I eL))
 have oU:eJ r.po v o=(r.po.find? (EM v o)).map Po.ip:=rfl;rcases pR (EM v o) r.po with ⟨e1,e2⟩ | ⟨i,hi,e1,e2⟩
 ·rw [e1];rw [e2] at oU;rw [oU];refine Ja I<|Jn<|Jq<|Jr<|Jv I<|JA I<|Jn<|Jd I fun aA=>Jr<|Ja I<|Ja I<|Jn<|Ju<|pA I (gl I I I) ?_
  rfl
 ·rw [e1];rw [e2] at oU;rw [oU];have c8:=ha (kE hi);have aG:=(hc i _ (iK hi)).2;unfold Po.cells at aG;have jT:=aG 2 _ I
  (refine Ja I<|Jn<|Jq<|Jr<|Jv I<|JA I<|Jn<|Jc I fun aA=>Jk<|Jr<|bN I I ae<|JL I bO I<|Jv I<|ab (aC (.of I) (.of I) c8 (by omega) (by omega) bu) I<|bN I I ae<|ab (ag (.of I) (At.base jT I)) I<|Ja I<|Ja I<|Jn<|Je<|pA I (gl I I I) ?_)
  rfl
theorem HM (v:Int) (o:ByteArray) {w:World} (h:RR w r s d t p):ao T_ 239 [RA r s d t p,.q v,.string o] w (.bool (nS r.po v o)):=by
 obtain ⟨h1,h2,h3,h4⟩:=h.one;unfold RA;refine ak func239 I I ?_
 (refine Jr<|Jy I I fun _ _=>Jy I I fun _ _=>Jy I I fun _ _=>Ja I<|Ji<|bN I I ae<|JL I bO I<|ab (bI .nil (.o I (.o I .nil))) I ?_)
 rename_i b3 uY b4 xB b5 Mu
 with_reducible apply aj
 case hr=>exact bo
 case hd=>rfl
 case hc=>
  intro w' az;have f1:w'.cell? ⟨b4,0,none⟩=some (.q v):=At.lit (by exact Take.there .here) I w' az;have f2:w'.cell? ⟨b5,0,none⟩=some (.string o):=At.lit (by exact .here) I w' az
  exact Ov (f:=302) (p:=AK v o) (first:=[]) (cap:=[.p b4,.p b5]) (h.po.keeps az.keeps)
   (fun x hx w2 eL=>Qx x (cD f1 I eL) (cD f2 I eL))
 refine Ja I<|Jn<|Je<|JT ?_
 rfl
theorem vF (v:Int) (o:ByteArray) {w w1:World} (h:RR w1 r s d t p) :
  bB T_ 116 [RA r s d t p,.q v,.string o] w [] (fun _:Nat×Nat×Nat=>True) (fun x=>.func (.func 222) #[] #[.pointer (some ⟨x.1,0,none⟩),.pointer (some ⟨x.2.1,0,none⟩),.pointer (some ⟨x.2.2,0,none⟩)])
   (fun x=>[bA x.1 (.cells #[.string o] 9 (0,0)),JP x.2.1 r s d t p,bA x.2.2 (.cells #[.q v] 3 (0,0))]):=by
 obtain ⟨h1,h2,h3,h4⟩:=h.one;unfold RA;refine aV func116 I I ?_
 (refine Jr<|Jy I I fun _ _=>Jy I I fun _ _=>Jy I I fun _ _=>Ja I<|Ji<|ab (bI .nil (.o I (.o I (.o I .nil)))) I<|Ja I<|Jn<|Je ?_)
 rename_i b3 uY b4 xB b5 Mu
 with_reducible first|apply aP|apply aQ
 case he=>exact dS I I
 case hR=>
  intro w' az;exact aF (b5,b3,b4) trivial (by exact .h1 (.cons (.there .here) (.h1 .nil))) az I
structure RO (md:List Nat) (r:Ro) (s d t p:Value):Prop where
 sr:Out md s (uj r.sr)
 de:Out md d (ue r.de)
 ti:Out md t (tE r.ti)
 po:Out md p (sq r.po)
theorem RO.nil {r:Ro} {s d t p:Value}:RO [] r s d t p:=⟨Out.nil _ _,Out.nil _ _,Out.nil _ _,Out.nil _ _⟩
theorem RR.jE {md:List Nat} (h:RR w r s d t p) (hn:RO md r s d t p) (hk:aH md w w'):RR w' r s d t p:=⟨h.sr.jE hn.sr hk,h.de.jE hn.de hk,h.ti.jE hn.ti hk,h.po.jE hn.po hk⟩
theorem RR.out {md fp:List Nat} {w0:World} (h:RR w0 r s d t p) (hn:RO md r s d t p) (hF:∀ b∈fp,b∈md\/w0.heap.size<=b):RO fp r s d t p:=⟨h.sr.out (by omega) hn.sr hF,h.de.out (by omega) hn.de hF,h.ti.out (by omega) hn.ti hF,h.po.out (by omega) hn.po hF⟩
def xN (po:List Po) (v:Int) (k:Nat) (o:ByteArray):List (List Value):=(fk po v k o).map fun x=>[.string x]
theorem rz (po:List Po) (v:Int) (k:Nat) (o:ByteArray):(xN po v k o).length=(fk po v k o).length:=by simp [xN]
theorem Ef {o a:ByteArray} (h:mA po v k o=some a):mA po v (k+1) o=eJ po v a:=by
 rw [kb,h];show (eJ po v a).bind (mA po v 0)=_;cases eJ po v a <;> rfl
theorem F8 {o a:ByteArray} (h:mA po v k o=some a) (hk:k<=K) (hn:eJ po v a=none\/k=K):(fk po v K o).length=k:=by
 have hl:=ke po v K o;have h1:k<=(fk po v K o).length:=by
  cases k with
  | zero=>exact Zi _
  | succ k =>
   have:=nM (po:=po) (v:=v) (o:=o) (show k<K by omega);rw [h] at this;exact (Zl.1 this).1
 rcases hn with hn | rfl
 ·by_cases e:k=K
  ·omega
  ·have:=nM (po:=po) (v:=v) (o:=o) (show k<K by omega);rw [Ef h,hn,List.getElem?_eq_none_iff] at this;omega
 ·omega
theorem ND {o a i:ByteArray} (h:mA po v k o=some a) (hk:k<K) (hi:eJ po v a=some i):(xN po v K o)[k]? = some [.string i]:=by
 unfold xN;rw [ZJ,nM hk,Ef h,hi];rfl
set_option maxHeartbeats 1000000 in
theorem D5 {b1 b2 b3:Nat} (v:Int) (o:ByteArray) {w0 w:World} {md:List Nat} (h:RR w0 r s d t p) (hn:RO md r s d t p) (cJ:r.ti.length<=1000000) :
  Iter T_ 222 [] [.p b1,.p b2,.p b3] [bA b1 (.cells #[.string o] 9 (0,0)),JP b2 r s d t p,bA b3 (.cells #[.q v] 3 (0,0))] (xN r.po v (r.ti.length+1) o) w0 md w:=by
 intro l fp J E hB hF jX hs hy;have hR:=h.jE hn hB;have hO:=h.out hn hF;rw [rz];have h1:=Rd.one hR.sr;have h2:=Rd.one hR.de;have h4:=Rd.one hR.po;have hti:=hR.ti;obtain ⟨a,cp,b,o',rfl,dD,cr,ha,hc⟩:=hti;rw [bU] at *;unfold maxLen at cr;refine er func222 I I jX hs ?_
 (refine Jr<|JL I (.there .here) I<|Ja I<|Ji<|bN I I ae<|JL I bO I<|JI I<|JB I (by omega)<|Jv I<|Jn<|J0 ?_)
 refine bd (ι:=Nat×ByteArray) (fun x=>x.1<=r.ti.length+1/\mA r.po v x.1 o=some x.2) (fun x=>[(13,.q (x.1:Nat)),(12,.q ((r.ti.length:Int)+1)),(5,.string x.2),(0,.func (.yield l) #[] #[]),(2,.p b2),(3,.p b3)])
  (fun x=>[J x.1,bA b1 (.cells #[.string o] 9 (0,0)),JP b2 r s d (.slice a r.ti.length cp) p,bA b3 (.cells #[.q v] 3 (0,0))]) (fun x=>r.ti.length+1-x.1) ?_ ?_
 ·apply aJ (0,o) ⟨Zi _,I⟩
  case hs1=>exact cB
  case ht=>(try simp only [Ze,Zf,Za]);exact .h4 .nil
 rintro ⟨k,at_⟩ ⟨hk,hit⟩;dsimp only at hk hit ⊢;by_cases aN:k<r.ti.length+1
 ·have U2:∀ w',aH fp w w'->ao T_ 223 [.agg #[.q r.lv,.q r.ma,s,d,.slice a r.ti.length cp,p],.q v,.string at_] w' (.tuple #[.string ((eJ r.po v at_).getD ⟨#[]⟩),.bool (eJ r.po v at_).isSome]):=fun w' hk=>AJ v at_ (hR.jE hO hk)
  cases hi:eJ r.po v at_ with
  | none =>
   have oU:∀ w',aH fp w w'->ao T_ 223 [.agg #[.q r.lv,.q r.ma,s,d,.slice a r.ti.length cp,p],.q v,.string at_] w' (.tuple #[.string ⟨#[]⟩,.bool false]):=fun w' hk=>by
    have:=U2 w' hk;rwa [hi] at this
   have bj:=F8 hit hk (.inl hi)
   (refine Jr<|JA I<|Jn<|Jq<|Jd I fun aA=>Jk<|Jq<|J0<|Jr<|ab (cN bO) I<|JL I c6 I<|Jv I<|aj ek I (fun w' az=>(oU w' (Mem.keeps az)))<|Jv I<|JJ I I<|JJ I I<|Ja I<|Ja I<|Jn<|Jq<|Jr<|Jv I<|JH I<|Jv I<|gy I I I I<|gy I I I I<|cK I I I I<|au I I (fun hg bG=>(fC (.bX bG I))) I<|ab (bE (.of I) I) I<|Jn<|ch (.of I)<|Ju<|Jm<|Jh<|Jh<|Jm ?_)
   with_reducible first|apply aP|apply aQ
   case he=>exact qt I
   case hR=>
    intro w' az;exact aF true trivial (show bK _ [J (fk r.po v (r.ti.length+1) o).length,_,_,_] _ by rw [bj];exact .h4 .nil) az I
  | some nx =>
   have oU:∀ w',aH fp w w'->ao T_ 223 [.agg #[.q r.lv,.q r.ma,s,d,.slice a r.ti.length cp,p],.q v,.string at_] w' (.tuple #[.string nx,.bool true]):=fun w' hk=>by
    have:=U2 w' hk;rwa [hi] at this
   have Uh:=hy k _ (ND hit aN hi);have YA:mA r.po v (k+1) o=some nx:=by rw [Ef hit,hi]
   (refine Jr<|JA I<|Jn<|Jq<|Jd I fun aA=>Jk<|Jq<|J0<|Jr<|ab (cN bO) I<|JL I c6 I<|Jv I<|aj ek I (fun w' az=>(oU w' (Mem.keeps az)))<|Jv I<|JJ I I<|JJ I I<|Ja I<|Ja I<|Jn<|Jq<|Jr<|Jv I<|JH I<|Jv I<|JK I I<|Jv I<|JK I I<|Jv I<|JK I I ?_)
   with_reducible apply yw hB hF Uh
   case hx=>exact Is.of I
   case ha=>exact .o I .nil
   case hd=>rfl
   case ht=>exact .here
   intro q;cases q with
   | false =>
    simp only [cond_false]
    (refine JK I I<|JH I<|ab (cq (.of I) (.of I) (.of I) I) I<|Jn<|ch (.of I)<|Ju<|Jm<|Jh<|Jh<|Jm ?_)
    with_reducible first|apply aP|apply aQ
    case he=>exact qt I
    case hR=>
     intro w' az;exact aF false trivial (by exact .h4 .nil) az I
   | true =>
    simp only [cond_true]
    (refine JK I I<|JH I<|ab (cq (.of I) (.of I) (.of I) I) I<|Jn<|bJ (.of I)<|Jk<|Jg<|Jv I<|Ja I<|Jx<|Jj<|Jt<|Jg<|JB I (by omega)<|Jv I<|Jn ?_)
    apply aI (k+1,nx) ⟨show k+1<=r.ti.length+1 by omega,YA⟩ (show r.ti.length+1-(k+1)<r.ti.length+1-k by omega)
    case hs1=>exact cB
    case ht=>(try simp only [Ze,Zf,Za]);exact .h4 .nil
 ·obtain rfl:k=r.ti.length+1:=by omega
  have bj:=F8 hit hk (.inr I);refine Jr<|JA I<|Jn<|Jq<|Jc I fun aA=>Jp<|Jl<|Jo ?_
  with_reducible first|apply aP|apply aQ
  case he=>exact qt I
  case hR=>
   intro w' az;exact aF true trivial (show bK _ [J (fk r.po v (r.ti.length+1) o).length,_,_,_] _ by rw [bj];exact .h4 .nil) az I
def RC (r:Ro) (s d t p:Value):List Value:=[.q r.lv,.q r.ma,s,d,t,p]
def BR (w:World) (b:Nat) (cs:List Value):Prop:=∀ (j:Nat) (u:Value),cs[j]? = some u->w.cell? ⟨b,0+j,none⟩=some u
theorem BR.keeps {b:Nat} {cs:List Value} (h:BR w b cs) (hk:aH [] w w'):BR w' b cs:=fun j u hu=>cD (h j u hu) I hk
theorem BR.of {c:Cx} {hs hs':List bh} (hm:Mem c hs w) {b:Nat} {cs:List Value} {E:TypeId} {fz:Nat×Nat} (ht:Take hs (bA b (.cells cs.toArray E fz)) hs'):BR w b cs:=fun j u hu=>by
 rw [ZE];exact At.pj ht hu w hm
theorem vu {P:Program} {c:Cx} {sl:aD} {hs:List bh} {dst:Option Tmp} {ty:TypeId} {pos:String} {af:Array Edge} {g:Option (Nat×Bool)} {t u:TypeId} {x y:Operand} {a b:Bool} [hu:gJ P t .bool] (hx:Is sl x (.bool a)) (hy:Is sl y (.bool b)) :
  cM P c sl hs ⟨dst,.binOp .neq t x y u,ty,pos,af,g⟩ (.bool (a != b)):=
 gX hx hy fun w=>by
  have:(Op.equal t (.bool a) (.bool b)).run P w=.ok (a==b) w:=by
   exact AE (d:=9999) (by rw [hu.eq];rfl) (fun k h=>by rw [hu.eq] at h;cases h) (fun h=>by rw [hu.eq] at h;cases h) (fun _=>⟨a,I⟩) I
  simp [r7,binOp,this,bne]
def I9 (r:Ro) (v:Int) (x:Ti):Bool:=ib r.po v x.nm != nS r.po v x.nm
def Mv (r:Ro) (v:Int) (x:Ti):Bool:=fy (fk r.po v (r.ti.length+1) x.nm) x.nm
theorem NI (v:Int) (x:Ti) {b1 b2:Nat} {w:World} (h:RR w r s d t p) (hA:BR w b1 (RC r s d t p)) (f2:w.cell? ⟨b2,0,none⟩=some (.q v)) :
  ao T_ 238 [.agg x.cells.toArray,.p b1,.p b2] w (.bool (I9 r v x)):=by
 obtain ⟨h1,h2,h3,h4⟩:=h.one;have kq:∀ (j:Nat) (u:Value),[Value.int .i64 r.lv,.int .i64 r.ma,s,d,t,p][j]? = some u->w.cell? ⟨b1,0+j,none⟩=some u:=hA;unfold Ti.cells;refine ak func238 I I ?_
 (refine Jr<|Jy I I fun _ _=>Ja I<|Ji<|ab (iD (eO.base kq I)) I<|ab (ag (.of I) (At.base f2 I)) I<|bN I I ae<|JL I .here I ?_)
 refine aj ek I (fun w' az=>AJ (s:=s) (d:=d) (t:=t) (p:=p) v x.nm (h.keeps az.keeps)) ?_
 (refine Jv I<|JJ I I<|JJ I I<|Ja I<|Ja I<|Ji<|Jv I<|ab (iD (eO.base kq I)) I<|ab (ag (.of I) (At.base f2 I)) I<|bN I I ae<|JL I .here I ?_)
 refine aj ek I (fun w' az=>HM (s:=s) (d:=d) (t:=t) (p:=p) v x.nm (h.keeps az.keeps)) ?_
 skip
 refine ab (vu (.of I) (.of I)) I ?_;refine Ja I<|Jn<|Je<|JT ?_
 rfl
theorem Rk (v:Int) {w:World} (h:RR w r s d t p):ao T_ 150 [RA r s d t p,.q v] w (.bool (r.ti.any (I9 r v))):=by
 obtain ⟨h1,h2,h3,h4⟩:=h.one;unfold RA;refine ak func150 I I ?_
 (refine Jr<|Jy I I fun _ _=>Jy I I fun _ _=>Ja I<|Ji<|bN I I ae<|JL I (.there .here) I<|ab (bI .nil (.o I (.o I .nil))) I ?_)
 rename_i b3 uY b4 xB
 with_reducible apply aj
 case hr=>exact bo
 case hd=>rfl
 case hc=>
  intro w' az;have hA:BR w' b3 [.q r.lv,.q r.ma,s,d,t,p]:=BR.of az (by exact Take.there .here);have f2:w'.cell? ⟨b4,0,none⟩=some (.q v):=At.lit (by exact .here) I w' az;have hR:=h.keeps az.keeps
  exact AU (f:=238) (p:=I9 r v) (first:=[]) (cap:=[.p b3,.p b4]) hR.ti
   (fun x hx w2 eL=>NI v x (hR.keeps eL) (hA.keeps eL) (cD f2 I eL))
 refine Ja I<|Jn<|Je<|JT ?_
 rfl
theorem Qj {q:Int->Bool} {f:FuncId} {first cap:List Value} [bQ T_ f] {w w1:World} (h:RR w1 r s d t p) (AM:r.lv<=1000000)
  (cG:∀ v:Int,0<=v->v<r.lv->∀ w',aH [] w w'->ao T_ f (first++[.q v]++cap) w' (.bool (q v))) :
  ao T_ 148 [RA r s d t p,.func (.func f) first.toArray cap.toArray] w (.bool ((List.range r.lv.toNat).any fun i=>q (i:Nat))):=by
 obtain ⟨h1,h2,h3,h4⟩:=h.one;unfold RA;refine ak func148 I I ?_
 (refine Jr<|Jy I I fun _ _=>Ja I<|Jn<|Jq<|Jr<|bN I I ae<|JL I .here I<|Jv I<|Jn<|J0 ?_)
 refine bd (ι:=Nat) (fun k=>k<=r.lv.toNat/\∀ i,i<k->q (i:Nat)=false) (fun k=>[(8,.q (k:Nat)),(7,.q r.lv),(1,.func (.func f) first.toArray cap.toArray)]) (fun k=>[]) (fun k=>r.lv.toNat-k) ?_ ?_
 ·apply aJ 0 ⟨Zi _,fun i h=>by omega⟩
  case hs1=>exact cB
  case ht=>(try simp only [Ze,Zf,Za]);exact .nil
 rintro k ⟨hk,hz⟩;by_cases aN:k<r.lv.toNat
 ·have FJ:((k:Nat):Int)<r.lv:=by omega
  refine Jr<|JA I<|Jn<|Jq<|Jd I fun aA=>Jk<|Jq<|J0<|Jr<|Jv I<|Ja I<|Ji<|Jv I<|Jv I ?_;refine aj bS I (fun w' az=>cG (k:Nat) (by omega) FJ w' az.keeps) ?_;cases hq:q (k:Nat) with
  | true =>
   have e:(List.range r.lv.toNat).any (fun i=>q (i:Nat))=true:=ZR.2 ⟨k,ZU.2 aN,hq⟩
   rw [e]
   (refine Jn<|ch (.of I)<|Jr<|Ja I<|Jn<|Je<|Jm<|Jh<|Jh<|Jm<|Jh<|JT ?_)
   rfl
  | false =>
   (refine Jn<|bJ (.of I)<|Jw<|Jj<|Jt<|Jg<|JB I (by omega)<|Jv I<|Jn ?_)
   have Kr:∀ i,i<k+1->q (i:Nat)=false:=fun i hi=>by
    by_cases e:i=k
    ·rw [e];exact hq
    ·exact hz i (by omega)
   apply aI (k+1) ⟨show k+1<=r.lv.toNat by omega,Kr⟩ (show r.lv.toNat-(k+1)<r.lv.toNat-k by omega)
   case hs1=>exact cB
   case ht=>(try simp only [Ze,Zf,Za]);exact .nil
 ·have e:(List.range r.lv.toNat).any (fun i=>q (i:Nat))=false:=by
   rw [Zap];intro i hi;simp [hz i (by have:=ZU.1 hi;omega)]
  rw [e];refine Jr<|JA I<|Jn<|Jq<|Jc I fun aA=>Jp<|Jl<|Jo<|Jt<|Jr<|Ja I<|Jn<|Je<|JT ?_
  rfl
theorem SK :mA po v (fk po v K o).length o=some (gp po v K o):=by
 unfold gp;rcases Nat.eq_zero_or_pos (fk po v K o).length with h | h
 ·rw [Zaq.1 h];rfl
 ·obtain ⟨k,hk⟩:∃ k,(fk po v K o).length=k+1:=⟨(fk po v K o).length-1,by omega⟩;have hl:=ke po v K o;have:=nM (po:=po) (v:=v) (o:=o) (show k<K by omega);rw [hk,<- this,List.getLast?_eq_getElem?,hk,ZaK,Zc (by omega)];rfl
theorem D4 {vs:List Value} (h:(xN po v K o)[k]? = some vs):∃ a,mA po v (k+1) o=some a/\vs=[.string a]/\(fk po v K o)[k]? = some a:=by
 unfold xN at h;rw [ZJ,Zak] at h;obtain ⟨a,ha,rfl⟩:=h;have hl:=ke po v K o;have hk:=(Zl.1 ha).1;exact ⟨a,by rw [<- nM (k:=K) (by omega)];exact ha,I,ha⟩
theorem Lm (v:Int) (x:Ti) {b1 b2:Nat} {w:World} (h:RR w r s d t p) (cJ:r.ti.length<=1000000) (hA:BR w b1 (RC r s d t p)) (f2:w.cell? ⟨b2,0,none⟩=some (.q v)) :
  ao T_ 237 [.agg x.cells.toArray,.p b1,.p b2] w (.bool (Mv r v x)):=by
 obtain ⟨h1,h2,h3,h4⟩:=h.one;have kq:∀ (j:Nat) (u:Value),[Value.int .i64 r.lv,.int .i64 r.ma,s,d,t,p][j]? = some u->w.cell? ⟨b1,0+j,none⟩=some u:=hA;unfold Ti.cells;refine ak func237 I I ?_
 (refine Jr<|Jy I I fun _ _=>Jz I I fun _ _=>Jn<|Jq<|Jr<|ab (iD (eO.base kq I)) I<|ab (ag (.of I) (At.base f2 I)) I<|bN I I ae<|JL I (.there .here) I ?_)
 rename_i b3 uY b4 xB;refine JN ek I (fun w1 aY=>vF v x.nm (h.keeps aY.keeps)) ?_;intro y _;dsimp only [id_eq,Zb,Za];refine Jn<|J0 ?_
 refine jn (ps:=[11]) (f:=222) (first:=[]) (cap:=[.pointer (some ⟨y.1,0,none⟩),.pointer (some ⟨y.2.1,0,none⟩),.pointer (some ⟨y.2.2,0,none⟩)]) (ι:=Unit) (κ:=Unit) (rst:=[]) ?hg
  [bA y.1 (.cells #[.string x.nm] 9 (0,0)),JP y.2.1 r s d t p,bA y.2.2 (.cells #[.q v] 3 (0,0))] (xN r.po v (r.ti.length+1) x.nm) ?hit
  (fun k _=>fy ((fk r.po v (r.ti.length+1) x.nm).take k) x.nm=false) (fun _=>[bA b4 (.cells #[.bool false] 4 (0,0)),bA b3 (.cells #[.string x.nm,.q x.fr,.q x.to] 187 (0,0))])
  (fun _=>Mv r v x=true) (fun _=>[bA b4 (.cells #[.bool true] 4 (0,0)),bA b3 (.cells #[.string x.nm,.q x.fr,.q x.to] 187 (0,0))]) (fun _=>.ret) () (by rw [Ze];rfl) ?ht ?hlen ?hps ?round ?kn ?kj
 case hg=>exact Is.of I
 case hit=>intro w' az;exact D5 v x.nm h RO.nil cJ
 case ht=>
  dsimp only [Zb,Za];exact .cons c6 (.cons c6 (.h3 .nil))
 case hlen=>intro vs oS;obtain ⟨x,_,rfl⟩:=Zw.1 oS;rfl
 case hps=>intro t ht;simp only [ZO,Zo,or_false] at ht;rcases ht with rfl;exact Zax rfl
 case kj=>
  intro y D hy;rw [hy];dsimp only [Zb,Za];refine Je<|Jm<|Jh ?_
  with_reducible first|apply aP|apply aQ
  case he=>exact F2 I inferInstance I (At.lit .here I)
  case hR=>exact fun w' az=>⟨I,az.keeps⟩
 case kn=>
  intro _ D hq;rw [rz,ZN] at hq;have xA:Mv r v x=false:=hq;rw [xA];dsimp only [Zb,Za]
  (refine Jj<|Jt<|Jr<|aq (.of I) (.of I) .here I I (dG I) (bF I) an<|Jn<|Je ?_)
  with_reducible first|apply aP|apply aQ
  case he=>exact F2 I inferInstance I (At.lit .here I)
  case hR=>exact fun w' az=>⟨I,az.keeps⟩
 case round=>
  intro l0 rc W fp k u vs hsz hk hq hB hF;obtain ⟨a,hit,rfl,CC⟩:=D4 hk;obtain ⟨aN,KQ⟩:=Zl.1 CC;have htk:(fk r.po v (r.ti.length+1) x.nm).take (k+1)=(fk r.po v (r.ti.length+1) x.nm).take k++[a]:=by rw [Zn aN,KQ]
  dsimp only [List.zip_cons_cons,List.zip_nil_right,ml,Zb,Za];refine Jg<|Ja I<|Jn ?_
  with_reducible apply mF
  case ht=>exact .here
  (refine J0<|Jr<|Jv I<|bN I I ae<|JL I bO I<|ab (eR (.of I) (.of I)) I<|Jn<|gR I (fun aA=>?_) fun aA=>?_;refine Jr<|aq (.of I) (.of I) (.there .here) I I (dG I) (bF I) an<|Jn<|Je<|Jm ?_;rotate_left;refine Jw<|Jj ?_;rotate_right)
  ·apply MQ () I
   case ht=>exact Take.there .here
   case hy=>
    refine dN.2 ?_;have:=ZV CC;rwa [aA] at this
   case h2=>exact .h2 .nil
  ·apply lU ()
   case ht=>exact .here
   case hx=>
    show fy ((fk r.po v (r.ti.length+1) x.nm).take (k+1)) x.nm=false;rw [htk];unfold fy at hq ⊢;rw [List.any_append,hq];simp;exact fun e=>aA e.symm
   case h2=>exact .h2 .nil
theorem EH (x:Sr) (o:ByteArray) {b2:Nat} {w:World} (f2:w.cell? ⟨b2,0,none⟩=some (.string o)) :
  ao T_ 228 [.agg x.cells.toArray,.p b2] w (.bool (decide (x.nm=o))):=by
 unfold Sr.cells;refine ak func228 I I ?_
 (refine Jr<|Jy I I fun _ _=>Ja I<|Ji<|bN I I ae<|JL I .here I<|ab (ag (.of I) (At.base f2 I)) I<|ab (eR (.of I) (.of I)) I<|Ja I<|Jn<|Je<|JT ?_)
 rfl
theorem OQ (v:Int) {w:World} (h:RR w r s d t p) (cJ:r.ti.length<=1000000):ao T_ 149 [RA r s d t p,.q v] w (.bool (r.ti.any (Mv r v))):=by
 obtain ⟨h1,h2,h3,h4⟩:=h.one;unfold RA;refine ak func149 I I ?_
 (refine Jr<|Jy I I fun _ _=>Jy I I fun _ _=>Ja I<|Ji<|bN I I ae<|JL I (.there .here) I<|ab (bI .nil (.o I (.o I .nil))) I ?_)
 rename_i b3 uY b4 xB
 with_reducible apply aj
 case hr=>exact bo
 case hd=>rfl
 case hc=>
  intro w' az;have hA:BR w' b3 [.q r.lv,.q r.ma,s,d,t,p]:=BR.of az (by exact Take.there .here);have f2:w'.cell? ⟨b4,0,none⟩=some (.q v):=At.lit (by exact .here) I w' az;have hR:=h.keeps az.keeps
  exact AU (f:=237) (p:=Mv r v) (first:=[]) (cap:=[.p b3,.p b4]) hR.ti
   (fun x hx w2 eL=>Lm v x (hR.keeps eL) cJ (hA.keeps eL) (cD f2 I eL))
 refine Ja I<|Jn<|Je<|JT ?_
 rfl
def kN (r:Ro) (v:Int) (o:ByteArray):ByteArray:=if r.sr.any (fun x=>decide (x.nm=gp r.po v (r.ti.length+1) o)) then gp r.po v (r.ti.length+1) o else ⟨#[]⟩
theorem mX (v:Int) (o:ByteArray) {w:World} (h:RR w r s d t p) (cJ:r.ti.length<=1000000):ao T_ 126 [RA r s d t p,.q v,.string o] w (.string (kN r v o)):=by
 obtain ⟨h1,h2,h3,h4⟩:=h.one;unfold RA;refine ak func126 I I ?_
 (refine Jr<|Jy I I fun _ _=>Ja I<|Ji<|Jv I<|Jz I I fun _ _=>aq (.of I) (.of I) .here I I (dG I) (bF I) an<|Jn<|Jq<|Jr<|ab (cN (.there .here)) I<|Jv I<|Jv I ?_)
 rename_i b3 uY b7 Ve;refine JN ek I (fun w1 aY=>vF v o (h.keeps aY.keeps)) ?_;intro y _;dsimp only [id_eq,Zb,Za];refine Jn<|J0 ?_
 refine jn (ps:=[14]) (f:=222) (first:=[]) (cap:=[.pointer (some ⟨y.1,0,none⟩),.pointer (some ⟨y.2.1,0,none⟩),.pointer (some ⟨y.2.2,0,none⟩)]) (ι:=ByteArray) (κ:=Empty) (rst:=[JP b3 r s d t p]) ?hg
  [bA y.1 (.cells #[.string o] 9 (0,0)),JP y.2.1 r s d t p,bA y.2.2 (.cells #[.q v] 3 (0,0))] (xN r.po v (r.ti.length+1) o) ?hit
  (fun k a=>mA r.po v k o=some a) (fun a=>[bA b7 (.cells #[.string a] 9 (0,0))])
  (fun _=>False) (fun _=>[]) (fun _=>.ret) o I ?ht ?hlen ?hps ?round ?kn ?kj
 case hg=>exact Is.of I
 case hit=>intro w' az;exact D5 v o h RO.nil cJ
 case ht=>
  dsimp only [Zb,Za];exact .cons c6 (.h3 .nil)
 case hlen=>intro vs oS;obtain ⟨x,_,rfl⟩:=Zw.1 oS;rfl
 case hps=>intro t ht;simp only [ZO,Zo,or_false] at ht;rcases ht with rfl;exact Zax rfl
 case kj=>
  intro y D hy;exact hy.elim
 case kn=>
  intro a D hq;rw [rz,SK,Option.some.injEq] at hq;have wH:kN r v o=if r.sr.any (fun x=>decide (x.nm=a)) then a else ⟨#[]⟩:=by rw [<- hq];rfl
  rw [wH];dsimp only [Zb,Za]
  (refine Jj<|Jt<|Jq<|Jr<|bN I I ae<|JL I dF I<|ab (bI .nil (.o I .nil)) I ?_)
  with_reducible apply aj
  case hr=>exact bo
  case hd=>rfl
  case hc=>
   intro w' az;have f2:w'.cell? ⟨b7,0,none⟩=some (.string a):=At.lit (by exact .here) I w' az
   exact Ou (f:=228) (p:=fun x=>decide (x.nm=a)) (first:=[]) (cap:=[.p b7]) (h.keeps az.keeps).sr
    (fun x hx w2 eL=>EH x a (cD f2 I eL))
  cases r.sr.any (fun x=>decide (x.nm=a)) with
  | true =>
   (refine Jn<|ch (.of I)<|Jr<|JL I .here I<|Ja I<|Jn<|Ju ?_)
   with_reducible first|apply aP|apply aQ
   case he=>exact dS I I
   case hR=>exact fun w' az=>⟨I,az.keeps⟩
  | false =>
   (refine Jn<|bJ (.of I)<|Jk<|Jr<|Ja I<|Jn<|Je ?_)
   with_reducible first|apply aP|apply aQ
   case he=>exact dS I I
   case hR=>exact fun w' az=>⟨I,az.keeps⟩
 case round=>
  intro l0 rc W fp k a0 vs hsz hk hq hB hF;obtain ⟨a,hit,rfl,CC⟩:=D4 hk;dsimp only [List.zip_cons_cons,List.zip_nil_right,ml,Zb,Za];refine Jg<|Ja I<|Jn ?_
  with_reducible apply mF
  case ht=>exact .here
  (refine J0<|Jg<|Jv I<|aq (.of I) (.of I) (.there .here) I I (dG I) (bF I) an<|Jx<|Jj ?_)
  apply lU a
  case ht=>exact Take.there .here
  case hx=>exact hit
  case h2=>
   exact .h1 .nil
theorem qV {k k':ByteArray} {v:Value}:∀ {l:List (ByteArray×Value)},eN k' (mY k v l)=if k'=k then some v else eN k' l
 | []=>by simp [mY,eN]
 | (x, u) :: r => by
  simp only [mY];split
  ·rename_i e;subst e;simp only [eN];split <;> rfl
  ·rename_i e;simp only [eN];rw [qV];by_cases h:k'=x
   ·rw [if_pos h,if_pos h,if_neg (fun q=>e (q.symm.trans h))]
   ·rw [if_neg h,if_neg h]
theorem Ka {α:Type} {l:List α} {key:α->ByteArray} {val:Nat->α->Value} {f:Nat->PM} (hs:∀ k (h:k<l.length),f (k+1)=mY (key l[k]) (val k l[k]) (f k)) (s:ByteArray) :
  (∀ k,k<=l.length->(∀ j (hj:j<l.length),j<k->key l[j]≠s)->eN s (f k)=eN s (f 0)) /\
  (∀ k,k<=l.length->∀ i (hi:i<l.length),i<k->key l[i]=s->(∀ j (hj:j<l.length),i<j->j<k->key l[j]≠s)->eN s (f k)=some (val i l[i])):=by
 constructor
 ·intro k
  induction k with
  | zero=>intro _ _;rfl
  | succ k ih =>
   intro hk hne;rw [hs k (by omega),qV,if_neg (fun e=>hne k (by omega) (by omega) e.symm)]
   exact ih (by omega) fun j hj h=>hne j hj (by omega)
 ·intro k
  induction k with
  | zero=>intro _ i _ h;omega
  | succ k ih =>
   intro hk i hi WT he hne;rw [hs k (by omega),qV];by_cases e:i=k
   ·subst e;rw [if_pos he.symm]
   ·rw [if_neg (fun q=>hne k (by omega) (by omega) (by omega) q.symm)]
    exact ih (by omega) i hi (by omega) he fun j hj h h'=>hne j hj h (by omega)
theorem vQ {α:Type} {l:List α} {key:α->ByteArray} {val:Nat->α->Value} {f:Nat->PM} (hs:∀ k (h:k<l.length),f (k+1)=mY (key l[k]) (val k l[k]) (f k)) (s:ByteArray) :
  (s ∉ l.map key->eN s (f l.length)=eN s (f 0))/\((l.map key).Nodup->∀ i (hi:i<l.length),key l[i]=s->eN s (f l.length)=some (val i l[i])):=by
 obtain ⟨h1,h2⟩:=Ka hs s;constructor
 ·intro hn;exact h1 _ (ZC _) fun j hj _ e=>hn (Zw.2 ⟨_,Zj hj,e⟩)
 ·intro hd i hi he;refine h2 _ (ZC _) i hi hi he fun j hj wA _ e=>?_;have:=(ZY.1 hd) i j (by rw [Zd];exact hi) (by rw [Zd];exact hj) wA;rw [Z2,Z2,he,e] at this;exact this I
structure Dq (r:Ro):Prop where
 nd:(cY r).Nodup
theorem Dq.parts (h:Dq r):(cz r).Nodup/\(bY r).Nodup/\(ct r).Nodup/\(∀ s∈cz r,s ∉ bY r)/\(∀ s∈cz r,s ∉ ct r)/\(∀ s∈bY r,s ∉ ct r):=by
 have:=h.nd;unfold cY at this;rw [Zx] at this;obtain ⟨h1,h2,h3⟩:=this;rw [Zx] at h1;obtain ⟨h4,h5,h6⟩:=h1;exact ⟨h4,h5,h2,fun s hs hd=>h6 s hs s hd I,fun s hs ht=>h3 s (ZD _ hs) s ht I,fun s hs ht=>h3 s (ZM _ hs) s ht I⟩
theorem cF {l:List ByteArray} {s:ByteArray} (h:s∈l):0<=br l s:=by
 have:=(not_congr (cm (l:=l) (s:=s))).2 (not_not_intro h);omega
theorem pS {l:List ByteArray} {s:ByteArray} (hd:l.Nodup) {i:Nat} (h:i<l.length) (e:l[i]=s):br l s=(i:Nat):=
 lx h e fun j hj q=>by
  have:=(ZY.1 hd) j i (by omega) h hj;exact this (q.trans e.symm)
theorem qA (hd:Dq r) (s:ByteArray):eN s (oI r)=if fy (cY r) s then some (lM (dY r s) (jR r s) (jH r s)) else none:=by
 obtain ⟨n1,n2,n3,d1,d2,d3⟩:=hd.parts;have hS:=vQ (l:=r.sr) (key:=Sr.nm) (val:=fun _ x=>lM (-1) (-1) x.mx) (f:=xz r.sr) (fun k h=>IT h) s
 have hD:=vQ (l:=r.de) (key:=De.nm) (val:=fun k x=>lM (k:Nat) x.mx (-1)) (f:=Dd (xz r.sr r.sr.length) r.de) (fun k h=>IU h) s
 have hT:=vQ (l:=r.ti) (key:=Ti.nm) (val:=fun k x=>lM ((r.de.length:Int)+(k:Nat)) x.fr x.to) (f:=Mf (Dd (xz r.sr r.sr.length) r.de r.de.length) r.de.length r.ti) (fun k h=>IS h) s
 change (s ∉ ct r->eN s (oI r)=eN s (Dd (xz r.sr r.sr.length) r.de r.de.length))/\((ct r).Nodup->_) at hT;change (s ∉ bY r->eN s (Dd (xz r.sr r.sr.length) r.de r.de.length)=eN s (xz r.sr r.sr.length))/\((bY r).Nodup->_) at hD;change (s ∉ cz r->eN s (xz r.sr r.sr.length)=eN s [])/\((cz r).Nodup->_) at hS;have dZ:fy (cY r) s=true↔(s∈cz r\/s∈bY r)\/s∈ct r:=by rw [dN];unfold cY;rw [Zq,Zq]
 by_cases ht:s∈ct r
 ·rw [if_pos (dZ.2 (.inr ht))];obtain ⟨i,hi,e⟩:=Zu ht;have xX:i<r.ti.length:=by unfold ct at hi;rwa [Zd] at hi
  have e':(r.ti[i]).nm=s:=by simpa [ct] using e
  have hf:=pS n3 hi e;have f1:br (bY r) s<0:=cm.2 fun h=>d3 s h ht
  have f2:br (cz r) s<0:=cm.2 fun h=>d2 s h ht
  refine (hT.2 n3 i xX e').trans ?_;unfold dY jR jH;rw [if_neg (by omega),if_pos (by rw [hf];omega),if_neg (by omega),if_pos (by rw [hf];omega),if_neg (by omega),if_pos (by rw [hf];omega),hf,Zy,Zk,Zc xX]
  rfl
 ·rw [hT.1 ht];have f3:br (ct r) s<0:=cm.2 ht;by_cases AQ:s∈bY r
  ·rw [if_pos (dZ.2 (.inl (.inr AQ)))];obtain ⟨i,hi,e⟩:=Zu AQ;have xX:i<r.de.length:=by unfold bY at hi;rwa [Zd] at hi
   have e':(r.de[i]).nm=s:=by simpa [bY] using e
   have hf:=pS n2 hi e;have f2:br (cz r) s<0:=cm.2 fun h=>d1 s h AQ
   refine (hD.2 n2 i xX e').trans ?_;unfold dY jR jH;rw [if_pos (by rw [hf];omega),if_pos (by rw [hf];omega),if_neg (by omega),if_neg (by omega),hf,Zy,Zk,Zc xX]
   rfl
  ·rw [hD.1 AQ];have f1:br (bY r) s<0:=cm.2 AQ;by_cases hs:s∈cz r
   ·rw [if_pos (dZ.2 (.inl (.inl hs)))];obtain ⟨i,hi,e⟩:=Zu hs;have xX:i<r.sr.length:=by unfold cz at hi;rwa [Zd] at hi
    have e':(r.sr[i]).nm=s:=by simpa [cz] using e
    have hf:=pS n1 hi e;refine (hS.2 n1 i xX e').trans ?_;unfold dY jR jH;rw [if_neg (by omega),if_neg (by omega),if_neg (by omega),if_neg (by omega),if_pos (by rw [hf];omega),hf,Zy,Zk,Zc xX]
    rfl
   ·rw [hS.1 hs,if_neg (fun h=>by rcases dZ.1 h with (h | h) | h <;> contradiction)]
    rfl
def kH (x y:Int):Int:=if x<y then -1 else if y<x then 1 else 0
def lP:List Int->List Int->Int
 | [],[]=>0
 | [],_::_=>-1
 | _::_,[]=>1
 | x::a,y::b=>if kH x y≠0 then kH x y else lP a b
theorem iM {x y:Int}:kH x y=0↔x=y:=by
 unfold kH;split
 ·constructor <;> intro h <;> omega
 ·split <;> constructor <;> intro h <;> omega
theorem Lu:∀ b:List Int,lP [] b=if 0<b.length then -1 else 0
 | []=>rfl
 | _::_=>rfl
theorem Hk {a b:List Int} (ha:k<a.length) (hb:k<b.length):lP (a.drop k) (b.drop k)=if kH a[k] b[k]≠0 then kH a[k] b[k] else lP (a.drop (k+1)) (b.drop (k+1)):=by
 rw [Zv ha,Zv hb];rfl
end Go.Proofs.A1
namespace Go.SL
open Go
def DV (l:List Oper) (m p:Nat):Bool:=
 l.all mo&&si l 0&&kV l.toArray (l.take m) 0&&(List.range' m (l.length-m)).all (fun k=>(List.range m).all fun i=>Nat.beq i p||((ix l []).getD k 0).testBit i)&&Nat.ble m l.length
def QT (l:List Oper) (m:Nat):Bool:=DV l m m
structure Pe (l:List Oper) (m p:Nat):Prop where
 op:∀ o∈l,mo o=true
 ac:si l 0=true
 vH:kV l.toArray (l.take m) 0=true
 tail:∀ k,m<=k->k<l.length->∀ i,i<m->i≠p->((ix l []).getD k 0).testBit i=true
 le:m<=l.length
theorem Ce {l:List Oper} {m p:Nat} (h:DV l m p=true):Pe l m p:=by
 simp only [DV,Zm,Z7] at h;obtain ⟨⟨⟨⟨h1,h2⟩,h3⟩,h5⟩,h6⟩:=h;refine ⟨h1,h2,h3,fun k hk aN i hi hne=>?_,by simpa using h6⟩;have:=h5 k (ZaF.2 ⟨hk,by omega⟩) i (ZU.2 hi);rw [ZP] at this;exact this.resolve_left (by simpa using hne)
theorem rB {l:List Oper} {m p:Nat} (hc:Pe l m p) {i j:Nat} {x y:Oper} (wA:i<j) (hj:j<m) (hx:l[i]? = some x) (hy:l[j]? = some y):qB l.toArray x y i=true:=by
 have:=ny hc.vH (i:=i) (j:=j) wA (by rw [ZH,if_pos (by omega)];exact hx) (by rw [ZH,if_pos hj];exact hy);simpa using this
theorem Ch {l:List Oper} {m p:Nat} (hc:Pe l m p) {listed:Array Bool} (hsz:listed.size=l.length) (ur:DC l (Ls listed)) {i:Nat} (hi:i∈Region.ready .any l.toArray listed) (hm:m<=i):∀ j,j<m->j≠p->Ls listed j:=by
 intro j hj Yw;obtain ⟨o,ho,hn,hd⟩:=(dQ hsz).1 hi;have aN:i<l.length:=(Zl.1 ho).1;have AP:DC l (fun k=>k=i\/Ls listed k):=by
  intro k ok hk hL e he hb;rcases hL with e' | hL
  ·subst e';rw [ho] at hk;cases hk;exact .inr (hd e he hb)
  ·exact .inr (ur k ok hk hL e he hb)
 rcases gA AP hc.ac i aN (.inl rfl) j (hc.tail i hm aN j hj Yw) with h | h
 ·omega
 ·exact h
structure cj where
 F:(Nat->Value)->Value
 A:(Nat->Value)->List bh
def uE (β:Nat->Value) (i:Nat) (x:Value):Nat->Value:=fun k=>if k=i then x else β k
theorem mD (β:Nat->Value) (i:Nat):uE β i (β i)=β:=by
 funext k;unfold uE;split
 ·rename_i h;rw [h]
 ·rfl
theorem ji (β:Nat->Value) (i:Nat) (x:Value):uE β i x i=x:=by unfold uE;rw [if_pos I]
theorem vg {β:Nat->Value} {i k:Nat} {x:Value} (h:k≠i):uE β i x k=β k:=by unfold uE;rw [if_neg h]
def uz (l:List Oper) (i k:Nat):Bool:=Nat.beq i k||((ix l []).getD i 0).testBit k
def dM (β:Nat->Value) (lst:Nat->Bool):List cj->Nat->List bh
 | [],_=>[]
 | s::S,i=>(if lst i then s.A β else [])++dM β lst S (i+1)
theorem gU {β β':Nat->Value} {lst nD:Nat->Bool}:∀ {S:List cj} {i:Nat},(∀ j s,S[j]? = some s->lst (i+j)=nD (i+j)/\(lst (i+j)=true->s.A β=s.A β'))->dM β lst S i=dM β' nD S i
 | [],_,_=>rfl
 | s :: S, i, h => by
  have h0:=h 0 s I;have ih:dM β lst S (i+1)=dM β' nD S (i+1):=gU fun j s' hj=>by have:=h (j+1) s' (by simpa using hj);rwa [show i+(j+1)=i+1+j from by omega] at this
  simp only [Zay] at h0;unfold dM;rw [ih,<- h0.1];by_cases hl:lst i=true
  ·rw [if_pos hl,if_pos hl,h0.2 hl]
  ·rw [if_neg hl,if_neg hl]
theorem rk {β:Nat->Value} {lst nD:Nat->Bool} {k:Nat} {s:cj}:∀ {S:List cj} {i:Nat},S[k]? = some s->lst (i+k)=false->nD (i+k)=true->(∀ j,j≠i+k->nD j=lst j) ->
  (s.A β++dM β lst S i).Perm (dM β nD S i)
 | [],_,h,_,_,_=>by simp at h
 | s0 :: S, i, h, h1, h2, h3 => by
  cases k with
  | zero =>
   simp at h;subst h;have e:dM β lst S (i+1)=dM β nD S (i+1):=gU fun j s' hj=>⟨(h3 (i+1+j) (by omega)).symm,fun _=>rfl⟩
   simp only [Zay] at h1 h2;unfold dM;rw [if_neg (by simp [h1]),if_pos h2,e];simp
  | succ k =>
   have ih:(s.A β++dM β lst S (i+1)).Perm (dM β nD S (i+1)):=by
    refine rk (k:=k) (by simpa using h) ?_ ?_ ?_
    all_goals rw [show i+1+k=i+(k+1) from by omega];assumption
   unfold dM;rw [h3 i (by omega)];refine List.Perm.trans ?_ (ih.append_left _);rw [<- Zh,<- Zh];exact List.perm_append_comm.append_right _
theorem rj {β:Nat->Value} {lst:Nat->Bool} {s:cj}:∀ {S:List cj} {i j:Nat},S[j]? = some s->lst (i+j)=true->(s.A β).Sublist (dM β lst S i)
 | [],_,j,h,_=>by simp at h
 | s0 :: S, i, 0, h, h1 => by
  simp at h;subst h;unfold dM;rw [Zay] at h1;rw [if_pos h1];exact ZaY _ _
 | s0 :: S, i, j + 1, h, h1 => by
  unfold dM;exact (rj (S:=S) (i:=i+1) (j:=j) (by simpa using h) (by rwa [show i+1+j=i+(j+1) from by omega])).trans (ZaT _ _)
theorem cA.sublist {h:Nat->Option Obj} {l1 l2:List bh} (hs:l1.Sublist l2):∀ {fp:List Nat},cA h l2 fp->∃ lO:List Nat,cA h l1 lO/\lO.Sublist fp:=by
 induction hs with
 | slnil=>intro fp hf;exact ⟨fp,hf,List.Sublist.refl _⟩
 | cons A _ ih =>
  rintro fp ⟨f1,f2,rfl,_,h2⟩;obtain ⟨g,hg,iV⟩:=ih h2;exact ⟨g,hg,iV.trans (ZaT _ _)⟩
 | cons_cons A _ ih =>
  rintro fp ⟨f1,f2,rfl,h1,h2⟩;obtain ⟨g,hg,iV⟩:=ih h2;exact ⟨f1++g,⟨f1,g,I,h1,hg⟩,(List.Sublist.refl f1).append iV⟩
theorem Mem.sublist {c:Cx} {l1 l2:List bh} {w:World} (h:Mem c l2 w) (hs:l1.Sublist l2):Mem c l1 w:=by
 obtain ⟨k,fp,hn,gY,hb⟩:=h;obtain ⟨g,hg,iV⟩:=gY.sublist hs;exact ⟨k,g,hn.sublist iV,hg,fun b dK=>hb b (iV.subset dK)⟩
def od (P:Program) (o:Oper) (a:Act) (w:World) (K:Value->World->Prop):Prop:=
 match (execOp a.eval o).run P w with
 | .ok (.value v) w'=>K v w'
 | .ok (.enter f args) w'=>w'=w/\Calls P f args w (fun e vf=>∃ v,e=.returned v/\K v vf)
 | _=>False
section
variable {P:Program} {c:Cx} {D:List Nat} {sl:aD} {hs:List bh} {Q:Exit->Act->World->Prop} {l:List Oper} {m:Nat}
def jm (c:Cx) (hs:List bh) (S:List cj) (B:List Nat) (β:Nat->Value) (w:World):Prop:=∀ A:List bh,(A=[]\/∃ j,j∈B/\∃ s,S[j]? = some s/\A=s.A β)->Mem c (A++hs) w
variable {B:List Nat} {i:Nat} {o:Oper} {w:World} {β:Nat->Value}
theorem jm.mem {S:List cj} (h:jm c hs S B β w):Mem c hs w:=h [] (.inl I)
theorem jm.at {S:List cj} (h:jm c hs S B β w) (j:Nat) {s:cj} (hj:j∈B) (hs':S[j]? = some s):Mem c (s.A β++hs) w:=h _ (.inr ⟨j,hj,s,hs',I⟩)
def L5 (i:Nat) (s:cj) (β:Nat->Value) (w:World) (v:Value) (w':World):Prop:=∃ x,v=s.F (uE β i x)/\aH [] w w'/\∃ fp:List Nat,fp.Nodup/\cA (hp w') (s.A (uE β i x)) fp/\∀ b∈fp,w.heap.size<=b
def lI {α:Type} (l:List Oper) (i:Nat) (F:(Nat->Value)->α):Prop:=∀ β β',(∀ k,uz l i k=true->β k=β' k)->F β=F β'
structure EP (P:Program) (c:Cx) (hs:List bh) (l:List Oper) (i:Nat) (o:Oper) (SL:(Nat->Value)->aD) (S:List cj) (s:cj):Prop where
 xQ:lI l i s.F
 xR:lI l i s.A
 run:∃ B:List Nat,(∀ j∈B,dR o j=true)/\∀ β a w,bW (SL β) a->jm c hs S B β w->if Region.wanted o (yielded l.toArray a.tmps)=true then od P o a w (L5 i s β w) else L5 i s β w undef w
def jZ (l:List Oper) (o:Oper) (j:Nat):Bool:=dR o j||(List.range l.length).any fun k=>dR o k&&(match l[k]? with | some q=>dR q j | none=>false)
theorem Gi {l:List Oper} {j:Nat} (h:dR o j=true):jZ l o j=true:=by unfold jZ;rw [h];rfl
structure Bi (P:Program) (c:Cx) (hs:List bh) (l:List Oper) (i:Nat) (o:Oper) (SL:(Nat->Value)->aD) (S:List cj) (s:cj):Prop where
 xQ:lI l i s.F
 xR:lI l i s.A
 run:∃ B:List Nat,(∀ j∈B,jZ l o j=true)/\∀ β a w,bW (SL β) a->jm c hs S B β w->if Region.wanted o (yielded l.toArray a.tmps)=true then od P o a w (L5 i s β w) else L5 i s β w undef w
theorem EP.toT {P:Program} {c:Cx} {hs:List bh} {l:List Oper} {SL:(Nat->Value)->aD} {S:List cj} {s:cj} (h:EP P c hs l i o SL S s):Bi P c hs l i o SL S s:=⟨h.xQ,h.xR,let ⟨B,hB,r⟩:=h.run;⟨B,fun j hj=>Gi (hB j hj),r⟩⟩
inductive xk (P:Program) (c:Cx) (hs:List bh) (l:List Oper):Nat->List Oper->((Nat->Value)->aD)->List cj->List cj->((Nat->Value)->aD)->Prop
 | nil {i:Nat} {SL:(Nat->Value)->aD} {S:List cj}:xk P c hs l i [] SL S S SL
 | step {i d:Nat} {o:Oper} {rest:List Oper} {SL kJ:(Nat->Value)->aD} {S S':List cj} {s:cj} (hd:o.dst=some d) (fF:d<c.nt) (h:Bi P c hs l i o SL S s)
   (t:xk P c hs l (i+1) rest (fun β=>(d,s.F β)::SL β) (S++[s]) S' kJ):xk P c hs l i (o::rest) SL S S' kJ
def jP (sl:aD) (pre:List Oper) (SL:(Nat->Value)->aD) (S:List cj):Prop:=
 ∀ β t v,cW (SL β) t=some v->(∃ (j:Nat) (oj:Oper) (s:cj),pre[j]? = some oj/\oj.dst=some t/\S[j]? = some s/\v=s.F β)\/((∀ oj∈pre,oj.dst≠some t)/\cW sl t=some v)
theorem jP.step {pre:List Oper} {SL:(Nat->Value)->aD} {S:List cj} (h:jP sl pre SL S) (hl:S.length=pre.length) {o:Oper} {d:Nat} {s:cj} (hd:o.dst=some d):jP sl (pre++[o]) (fun β=>(d,s.F β)::SL β) (S++[s]):=by
 intro β t v hv;by_cases e:d=t
 ·subst e;rw [fO] at hv;cases hv;exact .inl ⟨pre.length,o,s,by simp,hd,by rw [<- hl];simp,I⟩
 ·rw [fN e] at hv;rcases h β t v hv with ⟨j,oj,s',h1,h2,h3,h4⟩ | ⟨h1,h2⟩
  ·refine .inl ⟨j,oj,s',?_,h2,?_,h4⟩
   ·rw [ZG (Zl.1 h1).1];exact h1
   ·rw [ZG (Zl.1 h3).1];exact h3
  ·refine .inr ⟨fun oj CA=>?_,h2⟩;rcases Zq.1 CA with CA | CA
   ·exact h1 oj CA
   ·rw [ZB.1 CA,hd];simp [e]
theorem xk.spec {rest:List Oper} {SL kJ:(Nat->Value)->aD} {S S':List cj} (h:xk P c hs l i rest SL S S' kJ):∀ pre:List Oper,pre.length=i->S.length=i->jP sl pre SL S ->
  S'.length=i+rest.length/\S <+: S'/\jP sl (pre++rest) kJ S'/\∀ k o,i<=k->(pre++rest)[k]? = some o->∃ d C8 s,o.dst=some d/\d<c.nt/\S'[k]? = some s/\jP sl ((pre++rest).take k) C8 (S'.take k)/\Bi P c hs l k o C8 (S'.take k) s:=by
 induction h with
 | @nil i SL S =>
  intro pre hp hS jI;refine ⟨by simpa using hS,List.prefix_rfl,by simpa using jI,fun k o hk ho=>?_⟩;have:=(Zl.1 ho).1;simp at this;omega
 | @step i d o rest SL kJ S S' s hd fF bj t ih =>
  intro pre hp hS jI;obtain ⟨h1,h2,h3,h4⟩:=ih (pre++[o]) (by simp [hp]) (by simp [hS]) (jI.step (by omega) hd);rw [Zh,List.singleton_append] at h3 h4;have FH:S <+: S':=(ZaL S [s]).trans h2;have qJ:S'[i]? = some s:=by
   obtain ⟨r,rfl⟩:=h2;rw [Zh,ZI (by omega),hS];simp
  have Vm:S'.take i=S:=by
   obtain ⟨r,rfl⟩:=FH;rw [<- hS];simp
  refine ⟨by rw [h1];simp;omega,FH,h3,fun k ok hk ho=>?_⟩;by_cases e:k=i
  ·subst e;have Di:ok=o:=by
    rw [ZI (by omega),hp] at ho;simpa using ho.symm
   subst Di;have htk:(pre++ok::rest).take k=pre:=by rw [<- hp];simp
   rw [htk,Vm];exact ⟨d,SL,s,hd,fF,qJ,jI,bj⟩
  ·exact h4 k ok (by omega) ho
structure Wh (c:Cx) (D:List Nat) (hs:List bh) (l:List Oper) (m:Nat) (S:List cj) (a0:Act) (fuel:Nat) (listed:Array Bool) (a:Act) (w:World):Prop where
 sz:listed.size=l.length
 dc:DC l (Ls listed)
 hi:∀ k,m<=k->¬ Ls listed k
 defers:a.defers=D.map mark
 size:a.tmps.size=c.nt
 Bo:∀ t,(∀ (j:Nat) (o:Oper),l[j]? = some o->Ls listed j->o.dst≠some t)->a.tmps[t]? = a0.tmps[t]?
 left:∃ U:List Nat,U.Nodup/\(∀ i,i∈U↔i<l.length/\¬ Ls listed i)/\U.length=fuel
 own:∃ β:Nat->Value,Mem c (dM β (fun i=>listed.getD i false) S 0++(hs++mN D)) w/\∀ (j:Nat) (o:Oper) (d:Nat) (s:cj),l[j]? = some o->o.dst=some d->S[j]? = some s->Ls listed j->a.tmps[d]? = some (s.F β)
def kK (n m:Nat):Array Bool:=(List.replicate m true++List.replicate (n-m) false).toArray
theorem Lf {P:Program} {dst:Option Tmp} {x:Operand} {k:Nat} {ty:TypeId} {pos:String} {af:Array Edge} {ρ:Operand->Value} {K:Value->World->Prop}
  (h:match (execOp ρ ⟨dst,.extract x k,ty,pos,af,none⟩).run P w with
   | .ok (.value v) w'=>K v w'
   | .ok (.enter f args) w'=>w'=w/\Calls P f args w (fun e vf=>∃ v,e=.returned v/\K v vf)
   | _=>False):∃ v,K v w/\∀ w2,(execOp ρ ⟨dst,.extract x k,ty,pos,af,none⟩).run P w2=.ok (.value v) w2:=by
 simp only [execOp] at h ⊢;generalize ρ x=u at h ⊢;cases u with
 | tuple vs =>
  simp only [Instr.extract] at h ⊢;cases hv:vs[k]? with
  | none=>simp [hv] at h
  | some v=>simp [hv] at h ⊢;exact h
 | _=>simp [Instr.extract] at h
def ES (l:List Oper) (p:Nat):Prop:=∃ d x k ty pos af,l[p]? = some ⟨some d,.extract x k,ty,pos,af,none⟩/\Region.noSelect l.toArray=true/\Region.free .any l.toArray ((List.range l.length).map fun j=>((ix l []).getD p 0).testBit j).toArray p=true
theorem He {ops:Array Oper} {l1 l2:Array Bool} (h:Region.free .any ops l1 i=true) (hle:∀ j,j<ops.size->j≠i->l1.getD j true=true->l2.getD j true=true):Region.free .any ops l2 i=true:=by
 unfold Region.free at h ⊢;cases hi:ops[i]? with
 | none=>rw [hi] at h;cases h
 | some oi =>
  rw [hi] at h;simp only [Z7,ZU] at h ⊢;intro j hj;have h1:=h j hj;simp only [ZP] at h1 ⊢;rcases h1 with (h1 | h1) | h1
  ·exact .inl (.inl h1)
  ·by_cases e:j=i
   ·exact .inl (.inl (by simp [e]))
   ·exact .inl (.inr (hle j hj e h1))
  ·exact .inr h1
theorem GI {l:List Oper} (Vj:si l 0=true) {listed:Array Bool} (hsz:listed.size=l.length) (ur:DC l (Ls listed)) {i:Nat} (hi:i∈Region.ready .any l.toArray listed) {j:Nat} (Y3:((ix l []).getD i 0).testBit j=true):j=i\/Ls listed j:=by
 obtain ⟨o,ho,hn,hd⟩:=(dQ hsz).1 hi;have aN:i<l.length:=(Zl.1 ho).1;have AP:DC l (fun k=>k=i\/Ls listed k):=by
  intro k ok hk hL e he hb;rcases hL with e' | hL
  ·subst e';rw [ho] at hk;cases hk;exact .inr (hd e he hb)
  ·exact .inr (ur k ok hk hL e he hb)
 exact gA AP Vj i aN (.inl I) j Y3
def py (P:Program) (c:Cx) (D:List Nat) (hs:List bh) (l:List Oper) (Q:Exit->Act->World->Prop) (m i n:Nat) (rest:List Oper) (SL:(Nat->Value)->aD) (S:List cj):Prop:=
 ∃ S' kJ,xk P c hs l i (rest.take n) SL S S' kJ/\∀ β,Tr c D (kJ β) (dM β (fun _=>true) S' 0++hs) (Left P l.toArray Q (l.length-m) (kK l.length m))
end
end Go.SL
