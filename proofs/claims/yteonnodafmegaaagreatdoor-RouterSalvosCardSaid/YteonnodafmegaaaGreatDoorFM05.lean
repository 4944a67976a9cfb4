/- Parts of the proof: K5 K6 GkLook K7 K8 K9 K9q. -/
import Derived.Test.YteonnodafmegaaaGreatDoorFM04
import Derived.Test.YteonnodafmegaaaGreatDoorFM03
import Derived.Test.YteonnodafmegaaaGreatDoorFM02
set_option linter.unusedSectionVars false
set_option linter.unusedVariables false
set_option linter.unusedSimpArgs false
namespace Go.Proofs.A1
open Go Go.SL
open Tryz
open Tryz renaming prog->T_
variable {D:List Nat} {X:Act->World->Prop} {bf:List ByteArray} {bv:Value} {cap:List Value} {f:FuncId} {first:List Value} {k:Nat} {l:List ByteArray} {lv:Value} {r:Ro} {w:World}
theorem Hm {c:Cx} {sl:aL} {hs hs':List bd} {E:TypeId} {g:Nat} {xs:List Value} (n sz:Nat) (ht:Take hs (bz g (.cells xs.toArray E (0,0))) hs') (hl:xs.length=n*sz) (hn:Nat.ble n 1000=true)
  (k:Tr c D sl (row E sz (.w g n n) n xs::hs') X):Tr c D sl hs X:=
 dC (cur:=[]) (by rw [ZN];exact ht) (Zz _) (by have:=ZaD hn;unfold maxLen;omega) (by rw [ZN];exact hl) hl k
theorem bP {c:Cx} {sl:aL} {hs hs':List bd} {E:TypeId} {g:Nat} {xs ys:List Value} (n sz:Nat) (ht:Take hs (bz g (.cells xs.toArray E (0,0))) hs') (he:xs=ys) (hl:ys.length=n*sz) (hn:Nat.ble n 1000=true)
  (k:Tr c D sl (row E sz (.w g n n) n ys::hs') X):Tr c D sl hs X:=by
 subst he;exact Hm n sz ht hl hn k
def jL (l:List ByteArray) (x:ByteArray):Bool:=l.any fun y=>decide (x=y)
theorem fG {x:ByteArray}:jL l x=true↔x∈l:=by
 unfold jL;rw [ZQ];constructor
 ·rintro ⟨y,hy,h⟩;rw [decide_eq_true_iff] at h;rw [h];exact hy
 ·intro h;exact ⟨x,h,by simp⟩
theorem LJ (x:ByteArray) {w:World} (h:Rd w lv 1 (gT l)) :
  ak T_ 181 [lv,.string x] w (.q (iT (fun y=>decide (x=y)) l)):=by
 obtain ⟨a,cp,b,o,rfl,dy,bT,ha,hc⟩:=h;rw [bF] at *;unfold maxLen at bT;refine ah func181 I I ?_;refine Jr<|Ja I<|Jn<|Jq<|Jr<|Jv I<|JI I<|Jv I<|Jn<|J0 ?_;refine aV (fun k:Nat=>k<=l.length/\∀ i,i<k->(l[i]?.map fun y=>decide (x=y)).getD false=false) (fun k=>[(8,.int .i64 k),(7,.int .i64 l.length),(0,.slice a l.length cp),(1,.string x)]) (fun _=>[]) (fun k=>l.length-k) ?_ ?_
 ·apply aI 0 ⟨Zi _,fun i h=>by omega⟩
  case hs1=>exact bS
  case ht=>(try simp only [Ze,Zf,Za]);exact .nil
 rintro k ⟨hk,hf⟩;by_cases aM:k<l.length
 ·have cu:=ha (ij aM);have c0:w.cell? ⟨b,o+k*1,none⟩=some (.string l[k]):=(hc k _ (fw aM)).2 0 _ I;have hps:(l[k]?.map fun y=>decide (x=y)).getD false=decide (x=l[k]):=by simp [aM]
  (refine Jr<|JA I<|Jn<|Jq<|Jd I fun au=>Jk<|Jq<|J0<|Jr<|Jv I<|Ja I<|Ji<|Jv I<|Jv I<|Jv I<|ab (fY cu au) I<|ab (ag (.of I) (At.base c0 I)) I<|ab (dB (.of I) (.of I)) I<|Jn<|gG I (fun au=>?_) fun au=>?_;refine Jr<|Jv I<|Ja I<|Jn<|Je<|Jm<|Jh<|Jh<|Jm<|Jh<|JT ?_;rotate_left;refine Jw<|Jj<|Jt<|Jg<|JB I (by omega)<|Jv I<|Jn ?_;rotate_right)
  ·rw [gQ hf aM (by simpa using au)]
  ·apply aG (k+1) ⟨by omega,fun i hi=>by
    by_cases e:i=k
    ·rw [e,hps];simpa using au
    ·exact hf i (by omega)⟩ (by omega)
   case hs1=>exact bS
   case ht=>(try simp only [Ze,Zf,Za]);exact .nil
 ·obtain rfl:k=l.length:=by omega
  refine Jr<|JA I<|Jn<|Jq<|Jc I fun au=>Jp<|Jl<|Jo<|Jt<|Jr<|Ja I<|Jn<|Je<|JT ?_;rw [fP hf]
theorem qg (x:ByteArray) {w:World} (h:Rd w lv 1 (gT l)) :
  ak T_ 179 [lv,.string x] w (.bool (jL l x)):=by
 have jK:∀ w',aJ [] w w'->ak T_ 181 [lv,.string x] w' (.q (iT (fun y=>decide (x=y)) l)):=fun w' hk=>LJ x (h.keeps hk)
 have e:jL l x=l.any fun y=>decide (x=y):=rfl
 rw [e,<- lf];refine ah func179 I I ?_
 (refine Jr<|Ja I<|Ji<|Jv I<|Jv I<|aj bb I (fun w' aB=>(jK w' (Mem.keeps aB)))<|JG I<|Ja I<|Jn<|Je<|JT ?_)
 rfl
theorem Pq {l:List Int} (x:Int) {w:World} (h:Rd w lv 1 (ints l)) :
  ak T_ 241 [lv,.q x] w (.q (iT (fun y=>decide (x=y)) l)):=by
 obtain ⟨a,cp,b,o,rfl,dy,bT,ha,hc⟩:=h;rw [dz] at *;unfold maxLen at bT;refine ah func241 I I ?_;refine Jr<|Ja I<|Jn<|Jq<|Jr<|Jv I<|JI I<|Jv I<|Jn<|J0 ?_;refine aV (fun k:Nat=>k<=l.length/\∀ i,i<k->(l[i]?.map fun y=>decide (x=y)).getD false=false) (fun k=>[(8,.int .i64 k),(7,.int .i64 l.length),(0,.slice a l.length cp),(1,.int .i64 x)]) (fun _=>[]) (fun k=>l.length-k) ?_ ?_
 ·apply aI 0 ⟨Zi _,fun i h=>by omega⟩
  case hs1=>exact bS
  case ht=>(try simp only [Ze,Zf,Za]);exact .nil
 rintro k ⟨hk,hf⟩;by_cases aM:k<l.length
 ·have cu:=ha (kp aM);have c0:w.cell? ⟨b,o+k*1,none⟩=some (.q l[k]):=(hc k _ (jd aM)).2 0 _ I;have hps:(l[k]?.map fun y=>decide (x=y)).getD false=decide (x=l[k]):=by simp [aM]
  (refine Jr<|JA I<|Jn<|Jq<|Jd I fun au=>Jk<|Jq<|J0<|Jr<|Jv I<|Ja I<|Ji<|Jv I<|Jv I<|Jv I<|ab (fY cu au) I<|ab (ag (.of I) (At.base c0 I)) I<|JC I<|Jn<|gG I (fun au=>?_) fun au=>?_;refine Jr<|Jv I<|Ja I<|Jn<|Je<|Jm<|Jh<|Jh<|Jm<|Jh<|JT ?_;rotate_left;refine Jw<|Jj<|Jt<|Jg<|JB I (by omega)<|Jv I<|Jn ?_;rotate_right)
  ·rw [gQ hf aM (by simpa using au)]
  ·apply aG (k+1) ⟨by omega,fun i hi=>by
    by_cases e:i=k
    ·rw [e,hps];simpa using au
    ·exact hf i (by omega)⟩ (by omega)
   case hs1=>exact bS
   case ht=>(try simp only [Ze,Zf,Za]);exact .nil
 ·obtain rfl:k=l.length:=by omega
  refine Jr<|JA I<|Jn<|Jq<|Jc I fun au=>Jp<|Jl<|Jo<|Jt<|Jr<|Ja I<|Jn<|Je<|JT ?_;rw [fP hf]
theorem mr {l:List Int} (x:Int) {w:World} (h:Rd w lv 1 (ints l)) :
  ak T_ 154 [lv,.q x] w (.bool (l.contains x)):=by
 have jK:∀ w',aJ [] w w'->ak T_ 241 [lv,.q x] w' (.q (iT (fun y=>decide (x=y)) l)):=fun w' hk=>Pq x (h.keeps hk)
 have e:l.contains x=l.any fun y=>decide (x=y):=by
  rw [List.contains_eq_any_beq];rfl
 rw [e,<- lf];refine ah func154 I I ?_
 (refine Jr<|Ja I<|Ji<|Jv I<|Jv I<|aj bb I (fun w' aB=>(jK w' (Mem.keeps aB)))<|JG I<|Ja I<|Jn<|Je<|JT ?_)
 rfl
theorem xH (h:Rd w lv 1 (gT l)) (hl:l.length<=1000) :
  bh T_ 234 [lv] w [] (fun _:Value=>True) id (fun v=>[row 9 1 v l.length (aP l)]):=by
 have h':=h;obtain ⟨a,cp,b,o,rfl,dy,bT,ha,hc⟩:=h;refine aR func234 I I ?_;cases a with
 | none =>
  have mX:l=[]:=by
   cases l with
   | nil=>rfl
   | cons x r=>exact absurd (ha (by simp [gT])) (by simp)
  subst mX
  (refine Jr<|Ja I<|Jn<|Jq<|Jr<|Jv I<|ab (iE (.of I) (.of I)) I<|Jn<|cY (.of I)<|Jr<|Ja I<|Jn<|Ju ?_)
  refine aN 9 1 ?_
  first | with_reducible apply aO | with_reducible apply aQ
  case he=>exact dI I I
  case hR=>
   intro w' aB;exact aF (.z) trivial (by exact .h1 .nil) aB I
 | some ad =>
  (refine Jr<|Ja I<|Jn<|Jq<|Jr<|Jv I<|ab (iE (.of I) (.of I)) I<|Jn<|bZ (.of I)<|Jk<|Jr<|a8 (aD .nil I I I I) I fun _ _=>Jv I ?_)
  rename_i bq nf;refine bP (g:=bq) (E:=9) (ys:=[]) 0 1 (by exact .here) I I I ?_
  with_reducible apply eX
  case hx=>exact Is.of I
  case hy=>exact Is.of I
  case ht=>exact .here
  case hsrc=>exact fun w' aB=>h'.keeps aB.keeps
  case h1=>exact vn l
  case hz=>exact I
  case hsz=>exact I
  case hb0=>exact I
  case hb=>rw [bF];omega
  case hd=>rfl
  intro v';rw [bF,<- pj,Zx,Za];refine Ja I<|Jn<|Je ?_
  first | with_reducible apply aO | with_reducible apply aQ
  case he=>exact dI I I
  case hR=>
   intro w' aB;exact aF v' trivial (by exact .h1 .nil) aB I
theorem Ox (l:List Sr):kG l=(vZ l).flatten:=rfl
theorem Im {l:List Sr} (h:Rd w lv 2 (vZ l)) (hl:l.length<=1000) :
  bh T_ 266 [lv] w [] (fun _:Value=>True) id (fun v=>[row 186 2 v l.length (kG l)]):=by
 have h':=h;obtain ⟨a,cp,b,o,rfl,dy,bT,ha,hc⟩:=h;refine aR func266 I I ?_;cases a with
 | none =>
  have mX:l=[]:=by
   cases l with
   | nil=>rfl
   | cons x r=>exact absurd (ha (by simp [vZ])) (by simp)
  subst mX
  (refine Jr<|Ja I<|Jn<|Jq<|Jr<|Jv I<|ab (iE (.of I) (.of I)) I<|Jn<|cY (.of I)<|Jr<|Ja I<|Jn<|Ju ?_)
  refine aN 186 2 ?_
  first | with_reducible apply aO | with_reducible apply aQ
  case he=>exact dI I I
  case hR=>
   intro w' aB;exact aF (.z) trivial (by exact .h1 .nil) aB I
 | some ad =>
  (refine Jr<|Ja I<|Jn<|Jq<|Jr<|Jv I<|ab (iE (.of I) (.of I)) I<|Jn<|bZ (.of I)<|Jk<|Jr ?_)
  with_reducible apply a8
  case hr=>exact lK
  case hd=>rfl
  intro bq nf;refine HK I I ?_;refine bP (g:=bq) (E:=186) (ys:=[]) 0 2 (by exact .here) I I I ?_
  with_reducible apply eX
  case hx=>exact Is.of I
  case hy=>exact Is.of I
  case ht=>exact .here
  case hsrc=>exact fun w' aB=>h'.keeps aB.keeps
  case h1=>exact F5 l
  case hz=>exact I
  case hsz=>exact I
  case hb0=>exact I
  case hb=>rw [ct];omega
  case hd=>rfl
  intro v';rw [ct,Zx,Za,<- Ox];refine Ja I<|Jn<|Je ?_
  first | with_reducible apply aO | with_reducible apply aQ
  case he=>exact dI I I
  case hR=>
   intro w' aB;exact aF v' trivial (by exact .h1 .nil) aB I
theorem Qi (l:List De):jX l=(vJ l).flatten:=rfl
theorem Ip {l:List De} (h:Rd w lv 3 (vJ l)) (hl:l.length<=1000) :
  bh T_ 267 [lv] w [] (fun _:Value=>True) id (fun v=>[row 90 3 v l.length (jX l)]):=by
 have h':=h;obtain ⟨a,cp,b,o,rfl,dy,bT,ha,hc⟩:=h;refine aR func267 I I ?_;cases a with
 | none =>
  have mX:l=[]:=by
   cases l with
   | nil=>rfl
   | cons x r=>exact absurd (ha (by simp [vJ])) (by simp)
  subst mX
  (refine Jr<|Ja I<|Jn<|Jq<|Jr<|Jv I<|ab (iE (.of I) (.of I)) I<|Jn<|cY (.of I)<|Jr<|Ja I<|Jn<|Ju ?_)
  refine aN 90 3 ?_
  first | with_reducible apply aO | with_reducible apply aQ
  case he=>exact dI I I
  case hR=>
   intro w' aB;exact aF (.z) trivial (by exact .h1 .nil) aB I
 | some ad =>
  (refine Jr<|Ja I<|Jn<|Jq<|Jr<|Jv I<|ab (iE (.of I) (.of I)) I<|Jn<|bZ (.of I)<|Jk<|Jr ?_)
  with_reducible apply a8
  case hr=>exact lK
  case hd=>rfl
  intro bq nf;refine HK I I ?_;refine bP (g:=bq) (E:=90) (ys:=[]) 0 3 (by exact .here) I I I ?_
  with_reducible apply eX
  case hx=>exact Is.of I
  case hy=>exact Is.of I
  case ht=>exact .here
  case hsrc=>exact fun w' aB=>h'.keeps aB.keeps
  case h1=>exact GX l
  case hz=>exact I
  case hsz=>exact I
  case hb0=>exact I
  case hb=>rw [bY];omega
  case hd=>rfl
  intro v';rw [bY,Zx,Za,<- Qi];refine Ja I<|Jn<|Je ?_
  first | with_reducible apply aO | with_reducible apply aQ
  case he=>exact dI I I
  case hR=>
   intro w' aB;exact aF v' trivial (by exact .h1 .nil) aB I
theorem Of (l:List Ti):kU l=(vm l).flatten:=rfl
theorem Il {l:List Ti} (h:Rd w lv 3 (vm l)) (hl:l.length<=1000) :
  bh T_ 268 [lv] w [] (fun _:Value=>True) id (fun v=>[row 187 3 v l.length (kU l)]):=by
 have h':=h;obtain ⟨a,cp,b,o,rfl,dy,bT,ha,hc⟩:=h;refine aR func268 I I ?_;cases a with
 | none =>
  have mX:l=[]:=by
   cases l with
   | nil=>rfl
   | cons x r=>exact absurd (ha (by simp [vm])) (by simp)
  subst mX
  (refine Jr<|Ja I<|Jn<|Jq<|Jr<|Jv I<|ab (iE (.of I) (.of I)) I<|Jn<|cY (.of I)<|Jr<|Ja I<|Jn<|Ju ?_)
  refine aN 187 3 ?_
  first | with_reducible apply aO | with_reducible apply aQ
  case he=>exact dI I I
  case hR=>
   intro w' aB;exact aF (.z) trivial (by exact .h1 .nil) aB I
 | some ad =>
  (refine Jr<|Ja I<|Jn<|Jq<|Jr<|Jv I<|ab (iE (.of I) (.of I)) I<|Jn<|bZ (.of I)<|Jk<|Jr ?_)
  with_reducible apply a8
  case hr=>exact lK
  case hd=>rfl
  intro bq nf;refine HK I I ?_;refine bP (g:=bq) (E:=187) (ys:=[]) 0 3 (by exact .here) I I I ?_
  with_reducible apply eX
  case hx=>exact Is.of I
  case hy=>exact Is.of I
  case ht=>exact .here
  case hsrc=>exact fun w' aB=>h'.keeps aB.keeps
  case h1=>exact FZ l
  case hz=>exact I
  case hsz=>exact I
  case hb0=>exact I
  case hb=>rw [bQ];omega
  case hd=>rfl
  intro v';rw [bQ,Zx,Za,<- Of];refine Ja I<|Jn<|Je ?_
  first | with_reducible apply aO | with_reducible apply aQ
  case he=>exact dI I I
  case hR=>
   intro w' aB;exact aF v' trivial (by exact .h1 .nil) aB I
theorem A0 (l:List Po):gA l=(uE l).flatten:=rfl
theorem O9 {l:List Sr} {g:Sr->ByteArray} [bV T_ f] {w:World} (h:Rd w lv 2 (vZ l)) (hn:l.length<=1000000)
  (cF:∀ x∈l,∀ w',aJ [] w w'->ak T_ f (first++[.agg x.cells.toArray]++cap) w' (.string (g x))) :
  bh T_ 140 [lv,.func (.func f) first.toArray cap.toArray] w [] (fun _:Value=>True) id (fun v=>[row 9 1 v l.length (aP (l.map g))]):=by
 obtain ⟨a,cp,b,o,rfl,dy,bT,ha,hc⟩:=h;rw [ct] at *;unfold maxLen at bT;refine aR func140 I I ?_;refine Jr<|Ja I<|Ji<|Ja I<|Jn<|Jq<|Jr<|Jv I<|JI I<|Jv I<|Jn<|J0 ?_;refine aN 9 1 ?_;refine aV (ι:=Nat×Value) (fun x=>x.1<=l.length) (fun x=>[(10,.int .i64 x.1),(9,.int .i64 l.length),(8,.slice a l.length cp),(5,x.2),(1,.func (.func f) first.toArray cap.toArray)]) (fun x=>[row 9 1 x.2 x.1 (aP ((l.take x.1).map g))]) (fun x=>l.length-x.1) ?_ ?_
 ·apply aI (0,.z) (Zi _)
  case hs1=>exact bS
  case ht=>
   exact .h1 .nil
 rintro ⟨k,v⟩ hk;dsimp only at hk ⊢;by_cases aM:k<l.length
 ·have cu:=ha (iK aM);have aC:=(hc k _ (fV aM)).2;have jK:=cF _ (Zj aM);have LQ:aP ((l.take (k+1)).map g)=aP ((l.take k).map g)++[.string (g l[k])]:=by
   rw [Zm aM,Zt,eT];rfl
  generalize g l[k]=gk at jK LQ;unfold Sr.cells at aC jK
  (refine Jr<|JA I<|Jn<|Jq<|Jd I fun au=>Jk<|Jq<|J0<|Jr<|ab (fY cu au) I<|ab (iU (eR.base aC I)) I<|Jz I I fun _ _=>ao (.of I) (.of I) .here I I (gO I I) (bu I) ai<|Jn<|Jg<|Jv I<|Jv I<|ab (cm .here) I ?_)
  refine aj bN I (fun w' aB=>(jK w' (Mem.keeps aB))) ?_;refine a8 (aD (.o I .nil) I I I I) I (fun _ _=>?_);refine bn (.of I) (.of I) bI .here ai (by rfl) (dG I) (by rfl) (by rfl) (by rfl) dW (by rfl) ?_;intro v';refine Ja I<|Jx<|Jj<|Jt<|Jg<|JB I (by omega)<|Jv I<|Jn ?_;apply aG (k+1,v') (by show k+1<=l.length;omega) (by show l.length-(k+1)<l.length-k;omega)
  case hs1=>exact bS
  case ht=>
   show bC _ [row 9 1 v' (k+1) (aP ((l.take (k+1)).map g))] _;rw [LQ];exact .h1 .nil
 ·obtain rfl:k=l.length:=by omega
  rw [ZO];refine Jr<|JA I<|Jn<|Jq<|Jc I fun au=>Jp<|Jl<|Jo<|Jt<|Jr<|Jv I<|Ja I<|Jn<|Je ?_
  first | with_reducible apply aO | with_reducible apply aQ
  case he=>exact dI I I
  case hR=>
   intro w' aB;exact aF v trivial (by exact .h1 .nil) aB I
theorem Gq {l:List De} {g:De->ByteArray} [bV T_ f] {w:World} (h:Rd w lv 3 (vJ l)) (hn:l.length<=1000000)
  (cF:∀ x∈l,∀ w',aJ [] w w'->ak T_ f (first++[.agg x.cells.toArray]++cap) w' (.string (g x))) :
  bh T_ 143 [lv,.func (.func f) first.toArray cap.toArray] w [] (fun _:Value=>True) id (fun v=>[row 9 1 v l.length (aP (l.map g))]):=by
 obtain ⟨a,cp,b,o,rfl,dy,bT,ha,hc⟩:=h;rw [bY] at *;unfold maxLen at bT;refine aR func143 I I ?_;refine Jr<|Ja I<|Ji<|Ja I<|Jn<|Jq<|Jr<|Jv I<|JI I<|Jv I<|Jn<|J0 ?_;refine aN 9 1 ?_;refine aV (ι:=Nat×Value) (fun x=>x.1<=l.length) (fun x=>[(10,.int .i64 x.1),(9,.int .i64 l.length),(8,.slice a l.length cp),(5,x.2),(1,.func (.func f) first.toArray cap.toArray)]) (fun x=>[row 9 1 x.2 x.1 (aP ((l.take x.1).map g))]) (fun x=>l.length-x.1) ?_ ?_
 ·apply aI (0,.z) (Zi _)
  case hs1=>exact bS
  case ht=>
   exact .h1 .nil
 rintro ⟨k,v⟩ hk;dsimp only at hk ⊢;by_cases aM:k<l.length
 ·have cu:=ha (iy aM);have aC:=(hc k _ (fN aM)).2;have jK:=cF _ (Zj aM);have LQ:aP ((l.take (k+1)).map g)=aP ((l.take k).map g)++[.string (g l[k])]:=by
   rw [Zm aM,Zt,eT];rfl
  generalize g l[k]=gk at jK LQ;unfold De.cells at aC jK
  (refine Jr<|JA I<|Jn<|Jq<|Jd I fun au=>Jk<|Jq<|J0<|Jr<|ab (fY cu au) I<|ab (iU (eR.base aC I)) I<|Jz I I fun _ _=>ao (.of I) (.of I) .here I I (fv I I I) (bu I) ai<|Jn<|Jg<|Jv I<|Jv I<|ab (cm .here) I ?_)
  refine aj bN I (fun w' aB=>(jK w' (Mem.keeps aB))) ?_;refine a8 (aD (.o I .nil) I I I I) I (fun _ _=>?_);refine bn (.of I) (.of I) bI .here ai (by rfl) (dG I) (by rfl) (by rfl) (by rfl) dW (by rfl) ?_;intro v';refine Ja I<|Jx<|Jj<|Jt<|Jg<|JB I (by omega)<|Jv I<|Jn ?_;apply aG (k+1,v') (by show k+1<=l.length;omega) (by show l.length-(k+1)<l.length-k;omega)
  case hs1=>exact bS
  case ht=>
   show bC _ [row 9 1 v' (k+1) (aP ((l.take (k+1)).map g))] _;rw [LQ];exact .h1 .nil
 ·obtain rfl:k=l.length:=by omega
  rw [ZO];refine Jr<|JA I<|Jn<|Jq<|Jc I fun au=>Jp<|Jl<|Jo<|Jt<|Jr<|Jv I<|Ja I<|Jn<|Je ?_
  first | with_reducible apply aO | with_reducible apply aQ
  case he=>exact dI I I
  case hR=>
   intro w' aB;exact aF v trivial (by exact .h1 .nil) aB I
theorem O8 {l:List Ti} {g:Ti->ByteArray} [bV T_ f] {w:World} (h:Rd w lv 3 (vm l)) (hn:l.length<=1000000)
  (cF:∀ x∈l,∀ w',aJ [] w w'->ak T_ f (first++[.agg x.cells.toArray]++cap) w' (.string (g x))) :
  bh T_ 178 [lv,.func (.func f) first.toArray cap.toArray] w [] (fun _:Value=>True) id (fun v=>[row 9 1 v l.length (aP (l.map g))]):=by
 obtain ⟨a,cp,b,o,rfl,dy,bT,ha,hc⟩:=h;rw [bQ] at *;unfold maxLen at bT;refine aR func178 I I ?_;refine Jr<|Ja I<|Ji<|Ja I<|Jn<|Jq<|Jr<|Jv I<|JI I<|Jv I<|Jn<|J0 ?_;refine aN 9 1 ?_;refine aV (ι:=Nat×Value) (fun x=>x.1<=l.length) (fun x=>[(10,.int .i64 x.1),(9,.int .i64 l.length),(8,.slice a l.length cp),(5,x.2),(1,.func (.func f) first.toArray cap.toArray)]) (fun x=>[row 9 1 x.2 x.1 (aP ((l.take x.1).map g))]) (fun x=>l.length-x.1) ?_ ?_
 ·apply aI (0,.z) (Zi _)
  case hs1=>exact bS
  case ht=>
   exact .h1 .nil
 rintro ⟨k,v⟩ hk;dsimp only at hk ⊢;by_cases aM:k<l.length
 ·have cu:=ha (fm aM);have aC:=(hc k _ (ef aM)).2;have jK:=cF _ (Zj aM);have LQ:aP ((l.take (k+1)).map g)=aP ((l.take k).map g)++[.string (g l[k])]:=by
   rw [Zm aM,Zt,eT];rfl
  generalize g l[k]=gk at jK LQ;unfold Ti.cells at aC jK
  (refine Jr<|JA I<|Jn<|Jq<|Jd I fun au=>Jk<|Jq<|J0<|Jr<|ab (fY cu au) I<|ab (iU (eR.base aC I)) I<|Jz I I fun _ _=>ao (.of I) (.of I) .here I I (fv I I I) (bu I) ai<|Jn<|Jg<|Jv I<|Jv I<|ab (cm .here) I ?_)
  refine aj bN I (fun w' aB=>(jK w' (Mem.keeps aB))) ?_;refine a8 (aD (.o I .nil) I I I I) I (fun _ _=>?_);refine bn (.of I) (.of I) bI .here ai (by rfl) (dG I) (by rfl) (by rfl) (by rfl) dW (by rfl) ?_;intro v';refine Ja I<|Jx<|Jj<|Jt<|Jg<|JB I (by omega)<|Jv I<|Jn ?_;apply aG (k+1,v') (by show k+1<=l.length;omega) (by show l.length-(k+1)<l.length-k;omega)
  case hs1=>exact bS
  case ht=>
   show bC _ [row 9 1 v' (k+1) (aP ((l.take (k+1)).map g))] _;rw [LQ];exact .h1 .nil
 ·obtain rfl:k=l.length:=by omega
  rw [ZO];refine Jr<|JA I<|Jn<|Jq<|Jc I fun au=>Jp<|Jl<|Jo<|Jt<|Jr<|Jv I<|Ja I<|Jn<|Je ?_
  first | with_reducible apply aO | with_reducible apply aQ
  case he=>exact dI I I
  case hR=>
   intro w' aB;exact aF v trivial (by exact .h1 .nil) aB I
theorem P1 (n:Nat) (hn:n<=1000) (w:World):bh T_ 235 [.z,.q (n:Int)] w [] (fun _:Value=>True) id (fun v=>[row 9 1 v 0 []]):=by
 refine aR func235 I I ?_
 (refine Jr<|Ja I<|Jn<|Jq<|Jr<|Jv I<|JA I<|Jn<|Jc I fun au=>Jk<|Jq<|Jr<|Jv I<|Jv I<|ab (sB (.of I)) I<|Jv I<|JI I<|JS I (by omega)<|JS I (by omega)<|Ja I<|Ji<|Jv I<|JE I<|Jn<|gG I (fun au=>?_) fun au=>?_;refine Jg<|Jv I<|Jv I<|ab (sB (.of I)) I<|ab (iZ (.of I) (.of I) (by omega) (by omega)) I<|Jv I ?_;rotate_left;refine Jk<|Jr<|Jv I<|Ja I<|Jn<|Je ?_;rotate_right)
 ·rw [show (n:Int)-(((0:Nat):Int)-((0:Nat):Int))=(n:Int) by omega]
  with_reducible apply Ee
  case hx=>exact Is.of I
  case hy=>exact Is.of I
  case h0=>omega
  case hz=>exact I
  case hsz=>exact I
  case hb0=>exact I
  case hb=>omega
  case hd=>rfl
  intro v';refine dA (E:=9) (sz:=1) (by exact .here) (by omega) fun g iz cur e oQ Da C7 yA=>?_;subst e
  (refine Jv I<|JI I<|ab (iZ (.of I) (.of I) (by omega) (by omega)) I<|Ja I<|Ji<|Jv I<|Ja I<|Jn<|Je ?_)
  rw [show Go.sliced (some ⟨g,0,none⟩) 0 (((0:Nat):Int)).toNat iz 1=.w g 0 iz from Ct g iz 1]
  skip
  generalize hA:_++cur=al at C7 ⊢;refine dC (n:=0) (xs:=[]) (cur:=al) (cap:=iz) (g:=g) (E:=9) (sz:=1) (by rw [Za];exact .here) (Zi _) Da C7 I ?_
  first | with_reducible apply aO | with_reducible apply aQ
  case he=>exact dI I I
  case hR=>
   intro w' aB;exact aF (.w g 0 iz) trivial (by exact .h1 .nil) aB I
 ·refine aN 9 1 ?_
  first | with_reducible apply aO | with_reducible apply aQ
  case he=>exact dI I I
  case hR=>
   intro w' aB;exact aF (.z) trivial (by exact .h1 .nil) aB I
theorem Ot (a b:List ByteArray):gT (a++b)=gT a++gT b:=by simp [gT]
theorem tE {α:Type} {l:List (List α)} (h:k<l.length):(l.take (k+1)).flatten=(l.take k).flatten++l[k]:=by
 rw [List.take_add_one,Zc h,Zaf];simp
theorem GP {α:Type} (l:List (List α)) (k:Nat):(l.take k).flatten.length<=l.flatten.length:=by
 conv=>rhs;rw [<- Z5 k l]
 rw [Zaf,Zg];omega
theorem Cu {α:Type} {l:List α} (h:k<l.length):(l.map fun v=>[v])[k]? = some [l[k]]:=by simp [h]
theorem Ij {vs:List Value} {ess:List (List ByteArray)} (h:Rd w lv 1 (vs.map fun v=>[v])) (hl:vs.length=ess.length) (hr:∀ (i:Nat) (v:Value) (es:List ByteArray),vs[i]? = some v->ess[i]? = some es->Rd w v 1 (gT es)) (hn:ess.flatten.length<=1000) :
  bh T_ 142 [lv] w [] (fun _:Value=>True) id (fun v=>[row 9 1 v ess.flatten.length (gT ess.flatten).flatten]):=by
 obtain ⟨a,cp,b,o,rfl,dy,bT,ha,hc⟩:=h;rw [Zd] at *;unfold maxLen at bT;refine aR func142 I I ?_;refine Jr<|Ja I<|Ji<|Ja I<|Jn<|Jq<|Jr<|Jv I<|JI I<|Jv I<|Jn<|J0 ?_;refine aV (ι:=Nat) (fun k=>k<=vs.length) (fun k=>[(11,.int .i64 k),(10,.int .i64 vs.length),(9,.slice a vs.length cp),(0,.slice a vs.length cp),(3,.int .i64 (((ess.take k).flatten.length:Nat):Int))]) (fun _=>[]) (fun k=>vs.length-k) ?_ ?_
 ·apply aI (0:Nat) (show (0:Nat)<=vs.length from Zi _)
  case hs1=>exact bS
  case ht=>(try simp only [Ze,Zf,Za]);exact .nil
 intro k hk;by_cases aM:k<vs.length
 ·have fU:k<ess.length:=by omega
  have cu:=ha (by intro e;have:=congrArg List.length e;simp at this;subst this;simp at aM);have WM:=hr k _ _ (Zc aM) (Zc fU);obtain ⟨a1,ei,b1,o1,e1,_⟩:=WM;rw [bF] at e1;have c0:w.cell? ⟨b,o+k*1,none⟩=some (.slice a1 ess[k].length ei):=by rw [<- e1];exact (hc k _ (Cu aM)).2 0 _ I
  have tz:=GP ess (k+1);have hs:((ess.take (k+1)).flatten.length:Int)=(ess.take k).flatten.length+ess[k].length:=by rw [tE fU,Zg];omega
  (refine Jr<|JA I<|Jn<|Jq<|Jd I fun au=>Jk<|Jq<|J0<|Jr<|ab (fY cu au) I<|ab (ag (.of I) (At.base c0 I)) I<|Ja I<|Ji<|Jv I<|Jv I<|JI I<|JB I (by omega)<|Ja I<|Ji<|Jv I<|JA I<|Jn<|Jc I fun au=>Jw<|Jj<|Jt<|Jg<|JB I (by omega)<|Jv I<|Jn ?_)
  apply aG (k+1) (show k+1<=vs.length by omega) (show vs.length-(k+1)<vs.length-k by omega)
  case hs1=>
   rw [hs];exact .cons I (.cons I (.cons I (.cons I (.cons I .nil))))
  case ht=>exact .nil
 ·obtain rfl:k=vs.length:=by omega
  rw [show ess.take vs.length=ess by rw [hl,ZO]];refine Jr<|JA I<|Jn<|Jq<|Jc I fun au=>Jp<|Jl<|Jo<|Jt<|Jr<|Jv I ?_;refine JN bb I (fun w1 aT=>P1 _ hn _) ?_;intro v0 _;dsimp only [id_eq,Zb,Za];refine Ja I<|Jn<|Jq<|Jr<|Jv I<|JI I<|Jv I<|Jn<|J0 ?_;refine aV (ι:=Nat×Value) (fun x=>x.1<=vs.length) (fun x=>[(27,.q x.1),(26,.q vs.length),(25,.slice a vs.length cp),(6,x.2)]) (fun x=>[row 9 1 x.2 (ess.take x.1).flatten.length (gT (ess.take x.1).flatten).flatten]) (fun x=>vs.length-x.1) ?_ ?_
  ·apply aI (0,v0) (Zi _)
   case hs1=>exact bS
   case ht=>
    exact .h1 .nil
  rintro ⟨k,v⟩ hk;dsimp only at hk ⊢;by_cases aM:k<vs.length
  ·have fU:k<ess.length:=by omega
   have cu:=ha (by intro e;have:=congrArg List.length e;simp at this;subst this;simp at aM);have WM:=hr k _ _ (Zc aM) (Zc fU);have aa5:=WM;obtain ⟨a1,ei,b1,o1,e1,_⟩:=aa5;rw [bF] at e1;rw [e1] at WM;have c0:w.cell? ⟨b,o+k*1,none⟩=some (.slice a1 ess[k].length ei):=by rw [<- e1];exact (hc k _ (Cu aM)).2 0 _ I
   have tz:=GP ess (k+1);have hs:(ess.take (k+1)).flatten.length=(ess.take k).flatten.length+ess[k].length:=by rw [tE fU,Zg]
   (refine Jr<|JA I<|Jn<|Jq<|Jd I fun au=>Jk<|Jq<|J0<|Jr<|ab (fY cu au) I<|ab (ag (.of I) (At.base c0 I)) I<|Ja I<|Jn<|Jg<|Jv I<|Jv I ?_)
   with_reducible apply eX
   case hx=>exact Is.of I
   case hy=>exact Is.of I
   case ht=>exact .here
   case hsrc=>exact fun w' aB=>WM.keeps aB.keeps
   case h1=>exact vn _
   case hz=>exact I
   case hsz=>exact I
   case hb0=>exact I
   case hb=>rw [bF];omega
   case hd=>rfl
   intro v';rw [bF];refine Ja I<|Jx<|Jj<|Jt<|Jg<|JB I (by omega)<|Jv I<|Jn ?_;apply aG (k+1,v') (show k+1<=vs.length by omega) (show vs.length-(k+1)<vs.length-k by omega)
   case hs1=>exact bS
   case ht=>
    show bC _ [row 9 1 v' (ess.take (k+1)).flatten.length (gT (ess.take (k+1)).flatten).flatten] _;rw [hs,tE fU,Ot,Zaf];exact .h1 .nil
  ·obtain rfl:k=vs.length:=by omega
   have qH:vs.length=ess.length:=hl;rw [qH,ZO];refine Jr<|JA I<|Jn<|Jq<|Jc I fun au=>Jp<|Jl<|Jo<|Jt<|Jr<|Jv I<|Ja I<|Jn<|Je ?_
   first | with_reducible apply aO | with_reducible apply aQ
   case he=>exact dI I I
   case hR=>
    intro w' aB;exact aF v trivial (by exact .h1 .nil) aB I
theorem Rd.one {v:Value} {sz:Nat} {xs:List (List Value)} (h:Rd w v sz xs):v.oneCell'=true:=by
 obtain ⟨a,cap,b,o,rfl,_⟩:=h;rfl
def yu {α:Type} (bf:List ByteArray) (nm:α->ByteArray) (ck:α->Int) (l:List α) (k:Nat):Int:=(l[k]?.map fun x=>aZ [cn (!k7 (nm x)) 8,cn (jL (bf++(l.take k).map nm) (nm x)) 9,ck x]).getD 0
def fK {α:Type} (rH:Int) (bf:List ByteArray) (nm:α->ByteArray) (ck:α->Int) (l:List α):Int:=if rH<(l.length:Int) then 5 else ku (yu bf nm ck l) l.length
theorem RR.one {s d t p:Value} (h:RR w r s d t p):s.oneCell'=true/\d.oneCell'=true/\t.oneCell'=true/\p.oneCell'=true:=⟨Rd.one h.sr,Rd.one h.de,Rd.one h.ti,Rd.one h.po⟩
theorem pI {α:Type} {nm:α->ByteArray} {ck:α->Int} {l:List α} (h:k<l.length):yu bf nm ck l k=aZ [cn (!k7 (nm l[k])) 8,cn (jL (bf++(l.take k).map nm) (nm l[k])) 9,ck l[k]]:=by
 unfold yu;rw [Zc h];rfl
def fM (r:Ro) (m:Int):Int:=cn (decide (m<0)||decide (r.ma<=m)) 10
theorem GD {s d t p:Value} (m:Int) {w w1:World} (h:RR w1 r s d t p):ak T_ 136 [RA r s d t p,.q m] w (.q (fM r m)):=by
 obtain ⟨h1,h2,h3,h4⟩:=h.one;unfold RA;refine ah func136 I I ?_
 (refine Jr<|Jy I I fun _ _=>Ja I<|Ji<|Jv I<|JA I<|Jv I<|jz I I I I<|aH I I inferInstance (fun hg bE=>(aq (.of I) ae)) I<|aH I I inferInstance (fun hg bE=>(ag (.bM hg I) (At.lit .here I))) I<|aH I I inferInstance (fun hg bE=>(AR (.bM hg I) (.bM hg I))) I<|ab (bH (.of I) I) I<|aj bb I (fun w' aB=>(eE _ 10 w'))<|Ja I<|Jn<|Je<|JT ?_)
 rfl
theorem Lj (x:Sr) (w:World):ak T_ 139 [.agg x.cells.toArray] w (.string x.nm):=by
 unfold Sr.cells;refine ah func139 I I ?_
 (refine Jr<|Jy I I fun _ _=>Ja I<|Ji<|bG I I ae<|JL I .here I<|Ja I<|Jn<|Je<|JT ?_)
 rfl
theorem EN (x:De) (w:World):ak T_ 124 [.agg x.cells.toArray] w (.string x.nm):=by
 unfold De.cells;refine ah func124 I I ?_
 (refine Jr<|Jy I I fun _ _=>Ja I<|Ji<|bG I I ae<|JL I .here I<|Ja I<|Jn<|Je<|JT ?_)
 rfl
theorem Li (x:Ti) (w:World):ak T_ 119 [.agg x.cells.toArray] w (.string x.nm):=by
 unfold Ti.cells;refine ah func119 I I ?_
 (refine Jr<|Jy I I fun _ _=>Ja I<|Ji<|bG I I ae<|JL I .here I<|Ja I<|Jn<|Je<|JT ?_)
 rfl
set_option maxHeartbeats 1000000 in
theorem DD {l:List Sr} (rH:Int) {ck:Sr->Int} {f1 f2:FuncId} {first2 cap:List Value} [bV T_ f1] [bV T_ f2] {w:World} (h:Rd w lv 2 (vZ l)) (hb:Rd w bv 1 (gT bf)) (hn:bf.length+l.length<=1000)
  (xk:∀ x∈l,∀ w',aJ [] w w'->ak T_ f1 [.agg x.cells.toArray] w' (.string x.nm)) (xj:∀ x∈l,∀ w',aJ [] w w'->ak T_ f2 (first2++[.agg x.cells.toArray]++cap) w' (.q (ck x))) :
  ak T_ 138 [lv,.q rH,bv,.func (.func f1) #[] #[],.func (.func f2) first2.toArray cap.toArray] w (.q (fK rH bf Sr.nm ck l)):=by
 obtain ⟨a,cp,b,o,rfl,dy,bT,ha,hc⟩:=h;rw [ct] at *;unfold maxLen at bT;unfold fK;refine ah func138 I I ?_
 (refine Jr<|Ja I<|Jn<|Jq<|Jr<|Jv I<|JI I<|Jv I<|JE I<|Jn<|gG I (fun au=>?_) fun au=>?_;refine Jr<|Ja I<|Jn<|Ju<|JT ?_;rotate_left;refine Jk<|Jr<|Jv I ?_;rotate_right)
 ·rw [if_pos (by omega)]
 rw [if_neg (by omega)];refine JN bN I (fun w1 aT=>xH (hb.keeps aT.keeps) (by omega)) ?_;intro v0 _;dsimp only [id_eq,Zb,Za];refine Ja I<|Jn<|Jq<|Jr<|Jv I<|JI I<|Jv I<|Jn<|J0 ?_;refine aV (ι:=Nat×Value) (fun x=>x.1<=l.length/\∀ i,i<x.1->yu bf Sr.nm ck l i=0) (fun x=>[(24,.q x.1),(23,.q l.length),(22,.slice a l.length cp),(11,x.2),(3,.func (.func f1) #[] #[]),(4,.func (.func f2) first2.toArray cap.toArray)]) (fun x=>[row 9 1 x.2 (bf++(l.take x.1).map Sr.nm).length (aP (bf++(l.take x.1).map Sr.nm))]) (fun x=>l.length-x.1) ?_ ?_
 ·apply aI (0,v0) ⟨Zi _,fun i hi=>absurd hi (ZU _)⟩
  case hs1=>exact bS
  case ht=>
   rw [show bf++(l.take 0).map Sr.nm=bf by simp];exact .h1 .nil
 rintro ⟨k,v⟩ ⟨hk,hf⟩;dsimp only at hk hf ⊢;by_cases aM:k<l.length
 ·have cu:=ha (iK aM);have aC:=(hc k _ (fV aM)).2;have zN:=xk _ (Zj aM);have gD:=xj _ (Zj aM);have hE:=pI (bf:=bf) (nm:=Sr.nm) (ck:=ck) aM;have htk:bf++(l.take (k+1)).map Sr.nm=(bf++(l.take k).map Sr.nm)++[(l[k]).nm]:=by
   rw [Zm aM,Zt,Zh];rfl
  have hlen:(bf++(l.take k).map Sr.nm).length=bf.length+k:=by
   rw [Zg,Zd,Zq];omega
  have Mk:∀ (w':World),Rd w' v 1 (gT (bf++(l.take k).map Sr.nm))->ak T_ 179 [v,.string (l[k]).nm] w' (.bool (jL (bf++(l.take k).map Sr.nm) (l[k]).nm)):=fun w' hr=>qg _ hr
  generalize hB:bf++(l.take k).map Sr.nm=B at hE htk hlen Mk ⊢;have qT:B.length=B.length:=rfl;generalize l[k]=x at aC zN gD hE htk Mk;have a7:aP (B++[x.nm])=aP B++[.string x.nm]:=by rw [eT];rfl
  have LS:(B++[x.nm]).length=B.length+1:=by simp
  unfold Sr.cells at aC zN gD
  (refine Jr<|JA I<|Jn<|Jq<|Jd I fun au=>Jk<|Jq<|J0<|Jr<|ab (fY cu au) I<|ab (iU (eR.base aC I)) I<|Jz I I fun _ _=>ao (.of I) (.of I) .here I I (gO I I) (bu I) ai<|Ji<|Jv I<|ab (cm .here) I<|aj bN I (fun w' aB=>(zN w' (Mem.keeps aB)))<|Ja I<|Jn<|Jq<|Jq ?_)
  with_reducible refine di 12 (by kernel_rfl) ?_
  (refine az mB I<|aY bN I (fun w' aB=>(EO _ w'))<|az (eF (.of I)) I<|aY bb I (fun w' aB=>(eE _ 8 w'))<|az mB I<|az mB I<|aY bb I (fun w' aB=>(Mk w' (eM aB (.there .here) qT)))<|aY bb I (fun w' aB=>(eE _ 9 w'))<|az mB I<|az (cm .here) I<|aY bN I (fun w' aB=>(gD w' (Mem.keeps aB)))<|eN (aD (.o I (.o I (.o I .nil))) I I I I) I I ?_)
  with_reducible refine dN I fun bq nf=>?_
  (refine aj bN I (fun w' aB=>(ee (Mem.dH aB .here I I) (cg.cons (cg.cons (cg.cons cg.nil)))))<|Ja I<|Ji<|Jv I<|JD I<|Jn<|gG I (fun au=>?_) fun au=>?_;refine Jr<|Jv I<|Ja I<|Jn<|Ju<|Jm<|Jh<|Jh<|Jm<|Jh<|JT ?_;rotate_left;refine Jk<|Jg<|Jv I<|Jv I<|a8 (aD (.o I .nil) I I I I) I fun _ _=>?_;rotate_right)
  ·rw [<- hE] at au ⊢;rw [fI hf aM au]
  have hz:yu bf Sr.nm ck l k=0:=by rw [hE];exact Zo.1 au
  refine bn (.of I) (.of I) cZ .here ai (by rfl) (dG I) (by rfl) (by rfl) (by rfl) dW (by rfl) ?_;intro v';refine Ja I<|Jx<|Jj<|Jt<|Jg<|JB I (by omega)<|Jv I<|Jn ?_;apply aG (k+1,v') ⟨show k+1<=l.length by omega,fun i hi=>by
   by_cases e:i=k
   ·rw [e];exact hz
   ·exact hf i (by omega)⟩ (show l.length-(k+1)<l.length-k by omega)
  case hs1=>exact bS
  case ht=>
   show bC _ [row 9 1 v' (bf++(l.take (k+1)).map Sr.nm).length (aP (bf++(l.take (k+1)).map Sr.nm))] _;rw [htk,a7,LS];exact .h1 .nil
 ·obtain rfl:k=l.length:=by omega
  refine Jr<|JA I<|Jn<|Jq<|Jc I fun au=>Jp<|Jl<|Jo<|Jt<|Jr<|Ja I<|Jn<|Je<|JT ?_;rw [ew.2 hf]
set_option maxHeartbeats 1000000 in
theorem DE {l:List De} (rH:Int) {ck:De->Int} {f1 f2:FuncId} {first2 cap:List Value} [bV T_ f1] [bV T_ f2] {w:World} (h:Rd w lv 3 (vJ l)) (hb:Rd w bv 1 (gT bf)) (hn:bf.length+l.length<=1000)
  (xk:∀ x∈l,∀ w',aJ [] w w'->ak T_ f1 [.agg x.cells.toArray] w' (.string x.nm)) (xj:∀ x∈l,∀ w',aJ [] w w'->ak T_ f2 (first2++[.agg x.cells.toArray]++cap) w' (.q (ck x))) :
  ak T_ 141 [lv,.q rH,bv,.func (.func f1) #[] #[],.func (.func f2) first2.toArray cap.toArray] w (.q (fK rH bf De.nm ck l)):=by
 obtain ⟨a,cp,b,o,rfl,dy,bT,ha,hc⟩:=h;rw [bY] at *;unfold maxLen at bT;unfold fK;refine ah func141 I I ?_
 (refine Jr<|Ja I<|Jn<|Jq<|Jr<|Jv I<|JI I<|Jv I<|JE I<|Jn<|gG I (fun au=>?_) fun au=>?_;refine Jr<|Ja I<|Jn<|Ju<|JT ?_;rotate_left;refine Jk<|Jr<|Jv I ?_;rotate_right)
 ·rw [if_pos (by omega)]
 rw [if_neg (by omega)];refine JN bN I (fun w1 aT=>xH (hb.keeps aT.keeps) (by omega)) ?_;intro v0 _;dsimp only [id_eq,Zb,Za];refine Ja I<|Jn<|Jq<|Jr<|Jv I<|JI I<|Jv I<|Jn<|J0 ?_;refine aV (ι:=Nat×Value) (fun x=>x.1<=l.length/\∀ i,i<x.1->yu bf De.nm ck l i=0) (fun x=>[(24,.q x.1),(23,.q l.length),(22,.slice a l.length cp),(11,x.2),(3,.func (.func f1) #[] #[]),(4,.func (.func f2) first2.toArray cap.toArray)]) (fun x=>[row 9 1 x.2 (bf++(l.take x.1).map De.nm).length (aP (bf++(l.take x.1).map De.nm))]) (fun x=>l.length-x.1) ?_ ?_
 ·apply aI (0,v0) ⟨Zi _,fun i hi=>absurd hi (ZU _)⟩
  case hs1=>exact bS
  case ht=>
   rw [show bf++(l.take 0).map De.nm=bf by simp];exact .h1 .nil
 rintro ⟨k,v⟩ ⟨hk,hf⟩;dsimp only at hk hf ⊢;by_cases aM:k<l.length
 ·have cu:=ha (iy aM);have aC:=(hc k _ (fN aM)).2;have zN:=xk _ (Zj aM);have gD:=xj _ (Zj aM);have hE:=pI (bf:=bf) (nm:=De.nm) (ck:=ck) aM;have htk:bf++(l.take (k+1)).map De.nm=(bf++(l.take k).map De.nm)++[(l[k]).nm]:=by
   rw [Zm aM,Zt,Zh];rfl
  have hlen:(bf++(l.take k).map De.nm).length=bf.length+k:=by
   rw [Zg,Zd,Zq];omega
  have Mk:∀ (w':World),Rd w' v 1 (gT (bf++(l.take k).map De.nm))->ak T_ 179 [v,.string (l[k]).nm] w' (.bool (jL (bf++(l.take k).map De.nm) (l[k]).nm)):=fun w' hr=>qg _ hr
  generalize hB:bf++(l.take k).map De.nm=B at hE htk hlen Mk ⊢;have qT:B.length=B.length:=rfl;generalize l[k]=x at aC zN gD hE htk Mk;have a7:aP (B++[x.nm])=aP B++[.string x.nm]:=by rw [eT];rfl
  have LS:(B++[x.nm]).length=B.length+1:=by simp
  unfold De.cells at aC zN gD
  (refine Jr<|JA I<|Jn<|Jq<|Jd I fun au=>Jk<|Jq<|J0<|Jr<|ab (fY cu au) I<|ab (iU (eR.base aC I)) I<|Jz I I fun _ _=>ao (.of I) (.of I) .here I I (fv I I I) (bu I) ai<|Ji<|Jv I<|ab (cm .here) I<|aj bN I (fun w' aB=>(zN w' (Mem.keeps aB)))<|Ja I<|Jn<|Jq<|Jq ?_)
  with_reducible refine di 12 (by kernel_rfl) ?_
  (refine az mB I<|aY bN I (fun w' aB=>(EO _ w'))<|az (eF (.of I)) I<|aY bb I (fun w' aB=>(eE _ 8 w'))<|az mB I<|az mB I<|aY bb I (fun w' aB=>(Mk w' (eM aB (.there .here) qT)))<|aY bb I (fun w' aB=>(eE _ 9 w'))<|az mB I<|az (cm .here) I<|aY bN I (fun w' aB=>(gD w' (Mem.keeps aB)))<|eN (aD (.o I (.o I (.o I .nil))) I I I I) I I ?_)
  with_reducible refine dN I fun bq nf=>?_
  (refine aj bN I (fun w' aB=>(ee (Mem.dH aB .here I I) (cg.cons (cg.cons (cg.cons cg.nil)))))<|Ja I<|Ji<|Jv I<|JD I<|Jn<|gG I (fun au=>?_) fun au=>?_;refine Jr<|Jv I<|Ja I<|Jn<|Ju<|Jm<|Jh<|Jh<|Jm<|Jh<|JT ?_;rotate_left;refine Jk<|Jg<|Jv I<|Jv I<|a8 (aD (.o I .nil) I I I I) I fun _ _=>?_;rotate_right)
  ·rw [<- hE] at au ⊢;rw [fI hf aM au]
  have hz:yu bf De.nm ck l k=0:=by rw [hE];exact Zo.1 au
  refine bn (.of I) (.of I) cZ .here ai (by rfl) (dG I) (by rfl) (by rfl) (by rfl) dW (by rfl) ?_;intro v';refine Ja I<|Jx<|Jj<|Jt<|Jg<|JB I (by omega)<|Jv I<|Jn ?_;apply aG (k+1,v') ⟨show k+1<=l.length by omega,fun i hi=>by
   by_cases e:i=k
   ·rw [e];exact hz
   ·exact hf i (by omega)⟩ (show l.length-(k+1)<l.length-k by omega)
  case hs1=>exact bS
  case ht=>
   show bC _ [row 9 1 v' (bf++(l.take (k+1)).map De.nm).length (aP (bf++(l.take (k+1)).map De.nm))] _;rw [htk,a7,LS];exact .h1 .nil
 ·obtain rfl:k=l.length:=by omega
  refine Jr<|JA I<|Jn<|Jq<|Jc I fun au=>Jp<|Jl<|Jo<|Jt<|Jr<|Ja I<|Jn<|Je<|JT ?_;rw [ew.2 hf]
set_option maxHeartbeats 1000000 in
theorem DB {l:List Ti} (rH:Int) {ck:Ti->Int} {f1 f2:FuncId} {first2 cap:List Value} [bV T_ f1] [bV T_ f2] {w:World} (h:Rd w lv 3 (vm l)) (hb:Rd w bv 1 (gT bf)) (hn:bf.length+l.length<=1000)
  (xk:∀ x∈l,∀ w',aJ [] w w'->ak T_ f1 [.agg x.cells.toArray] w' (.string x.nm)) (xj:∀ x∈l,∀ w',aJ [] w w'->ak T_ f2 (first2++[.agg x.cells.toArray]++cap) w' (.q (ck x))) :
  ak T_ 144 [lv,.q rH,bv,.func (.func f1) #[] #[],.func (.func f2) first2.toArray cap.toArray] w (.q (fK rH bf Ti.nm ck l)):=by
 obtain ⟨a,cp,b,o,rfl,dy,bT,ha,hc⟩:=h;rw [bQ] at *;unfold maxLen at bT;unfold fK;refine ah func144 I I ?_
 (refine Jr<|Ja I<|Jn<|Jq<|Jr<|Jv I<|JI I<|Jv I<|JE I<|Jn<|gG I (fun au=>?_) fun au=>?_;refine Jr<|Ja I<|Jn<|Ju<|JT ?_;rotate_left;refine Jk<|Jr<|Jv I ?_;rotate_right)
 ·rw [if_pos (by omega)]
 rw [if_neg (by omega)];refine JN bN I (fun w1 aT=>xH (hb.keeps aT.keeps) (by omega)) ?_;intro v0 _;dsimp only [id_eq,Zb,Za];refine Ja I<|Jn<|Jq<|Jr<|Jv I<|JI I<|Jv I<|Jn<|J0 ?_;refine aV (ι:=Nat×Value) (fun x=>x.1<=l.length/\∀ i,i<x.1->yu bf Ti.nm ck l i=0) (fun x=>[(24,.q x.1),(23,.q l.length),(22,.slice a l.length cp),(11,x.2),(3,.func (.func f1) #[] #[]),(4,.func (.func f2) first2.toArray cap.toArray)]) (fun x=>[row 9 1 x.2 (bf++(l.take x.1).map Ti.nm).length (aP (bf++(l.take x.1).map Ti.nm))]) (fun x=>l.length-x.1) ?_ ?_
 ·apply aI (0,v0) ⟨Zi _,fun i hi=>absurd hi (ZU _)⟩
  case hs1=>exact bS
  case ht=>
   rw [show bf++(l.take 0).map Ti.nm=bf by simp];exact .h1 .nil
 rintro ⟨k,v⟩ ⟨hk,hf⟩;dsimp only at hk hf ⊢;by_cases aM:k<l.length
 ·have cu:=ha (fm aM);have aC:=(hc k _ (ef aM)).2;have zN:=xk _ (Zj aM);have gD:=xj _ (Zj aM);have hE:=pI (bf:=bf) (nm:=Ti.nm) (ck:=ck) aM;have htk:bf++(l.take (k+1)).map Ti.nm=(bf++(l.take k).map Ti.nm)++[(l[k]).nm]:=by
   rw [Zm aM,Zt,Zh];rfl
  have hlen:(bf++(l.take k).map Ti.nm).length=bf.length+k:=by
   rw [Zg,Zd,Zq];omega
  have Mk:∀ (w':World),Rd w' v 1 (gT (bf++(l.take k).map Ti.nm))->ak T_ 179 [v,.string (l[k]).nm] w' (.bool (jL (bf++(l.take k).map Ti.nm) (l[k]).nm)):=fun w' hr=>qg _ hr
  generalize hB:bf++(l.take k).map Ti.nm=B at hE htk hlen Mk ⊢;have qT:B.length=B.length:=rfl;generalize l[k]=x at aC zN gD hE htk Mk;have a7:aP (B++[x.nm])=aP B++[.string x.nm]:=by rw [eT];rfl
  have LS:(B++[x.nm]).length=B.length+1:=by simp
  unfold Ti.cells at aC zN gD
  (refine Jr<|JA I<|Jn<|Jq<|Jd I fun au=>Jk<|Jq<|J0<|Jr<|ab (fY cu au) I<|ab (iU (eR.base aC I)) I<|Jz I I fun _ _=>ao (.of I) (.of I) .here I I (fv I I I) (bu I) ai<|Ji<|Jv I<|ab (cm .here) I<|aj bN I (fun w' aB=>(zN w' (Mem.keeps aB)))<|Ja I<|Jn<|Jq<|Jq ?_)
  with_reducible refine di 12 (by kernel_rfl) ?_
  (refine az mB I<|aY bN I (fun w' aB=>(EO _ w'))<|az (eF (.of I)) I<|aY bb I (fun w' aB=>(eE _ 8 w'))<|az mB I<|az mB I<|aY bb I (fun w' aB=>(Mk w' (eM aB (.there .here) qT)))<|aY bb I (fun w' aB=>(eE _ 9 w'))<|az mB I<|az (cm .here) I<|aY bN I (fun w' aB=>(gD w' (Mem.keeps aB)))<|eN (aD (.o I (.o I (.o I .nil))) I I I I) I I ?_)
  with_reducible refine dN I fun bq nf=>?_
  (refine aj bN I (fun w' aB=>(ee (Mem.dH aB .here I I) (cg.cons (cg.cons (cg.cons cg.nil)))))<|Ja I<|Ji<|Jv I<|JD I<|Jn<|gG I (fun au=>?_) fun au=>?_;refine Jr<|Jv I<|Ja I<|Jn<|Ju<|Jm<|Jh<|Jh<|Jm<|Jh<|JT ?_;rotate_left;refine Jk<|Jg<|Jv I<|Jv I<|a8 (aD (.o I .nil) I I I I) I fun _ _=>?_;rotate_right)
  ·rw [<- hE] at au ⊢;rw [fI hf aM au]
  have hz:yu bf Ti.nm ck l k=0:=by rw [hE];exact Zo.1 au
  refine bn (.of I) (.of I) cZ .here ai (by rfl) (dG I) (by rfl) (by rfl) (by rfl) dW (by rfl) ?_;intro v';refine Ja I<|Jx<|Jj<|Jt<|Jg<|JB I (by omega)<|Jv I<|Jn ?_;apply aG (k+1,v') ⟨show k+1<=l.length by omega,fun i hi=>by
   by_cases e:i=k
   ·rw [e];exact hz
   ·exact hf i (by omega)⟩ (show l.length-(k+1)<l.length-k by omega)
  case hs1=>exact bS
  case ht=>
   show bC _ [row 9 1 v' (bf++(l.take (k+1)).map Ti.nm).length (aP (bf++(l.take (k+1)).map Ti.nm))] _;rw [htk,a7,LS];exact .h1 .nil
 ·obtain rfl:k=l.length:=by omega
  refine Jr<|JA I<|Jn<|Jq<|Jc I fun au=>Jp<|Jl<|Jo<|Jt<|Jr<|Ja I<|Jn<|Je<|JT ?_;rw [ew.2 hf]
end Go.Proofs.A1
namespace Go.SL
open Go
section
variable {P:Program} {c:Cx} {sl:aL} {hs:List bd} {dst:Option Tmp} {ty:TypeId} {pos:String} {af:Array Edge} {g:Option (Nat×Bool)}
variable {κ:Type} [DecidableEq κ] {kv:κ->Value} {kind:TypeDesc}
theorem Ew {t kt et:TypeId} {x y:Operand} {b:Nat} {k:κ} {l:List (κ×Value)} {z:Value} [hu:jw P t (.map kt et)] [H3:jw P kt kind] [hz:mL P et z] (hk:KeyLaw kind kv) (hx:Is sl x (.map (some b))) (hy:Is sl y (kv k)) (hl:Looks c hs b kv l) :
  du P c sl hs ⟨dst,.lookup t x y true,ty,pos,af,g⟩ (.tuple #[(fh k l).getD z,.bool (fh k l).isSome]):=
 ⟨by
   simp,fun a w ha hm=>by
  obtain ⟨es,ck,h1,h2⟩:=hl w hm;have hg:(getObj b).run P w=.ok (.map es ck) w:=by simp [getObj,Sem.run,h1]
  have yg:=hk.flat P kt es.isEmpty w k H3.eq;rcases findNow_spec hk k es.toList l 0 h2.eq with ⟨a1,a2⟩ | ⟨j,v,a1,a2,_⟩
  ·have:(Instr.findKey kt (kv k) es.toList).run P w=.ok none w:=by
    simp [Instr.findKey,aX H3.eq,a2]
   simp [execOp,hx a ha,hy a ha,Instr.lookup,aX hu.eq,hg,yg,this,a1,jm (t:=et) (v:=z)]
  ·have:(Instr.findKey kt (kv k) es.toList).run P w=.ok (some (0+j,v)) w:=by
    simp [Instr.findKey,aX H3.eq,a2]
   simp [execOp,hx a ha,hy a ha,Instr.lookup,aX hu.eq,hg,yg,this,a1]⟩
end
end Go.SL
namespace Go.Proofs.A1
open Go Go.SL
open Tryz
open Tryz renaming prog->T_
def mD (a b c:Int):Value:=.agg #[.q a,.q b,.q c]
abbrev PM:=List (ByteArray×Value)
def ye (l:List Sr):Nat->PM
 | 0=>[]
 | k + 1 => match l[k]? with
  | some x=>nX x.nm (mD (-1) (-1) x.mx) (ye l k)
  | none=>ye l k
def DV (m:PM) (l:List De):Nat->PM
 | 0=>m
 | k + 1 => match l[k]? with
  | some x=>nX x.nm (mD (k:Nat) x.mx (-1)) (DV m l k)
  | none=>DV m l k
def Nw (m:PM) (n:Nat) (l:List Ti):Nat->PM
 | 0=>m
 | k + 1 => match l[k]? with
  | some x=>nX x.nm (mD ((n:Int)+(k:Nat)) x.fr x.to) (Nw m n l k)
  | none=>Nw m n l k
def pJ (r:Ro):PM:=Nw (DV (ye r.sr r.sr.length) r.de r.de.length) r.de.length r.ti r.ti.length
variable {K:Nat} {d:Value} {k:Nat} {l:List ByteArray} {o:ByteArray} {p:Value} {po:List Po} {r:Ro} {s t:Value} {v:Int} {w w':World}
theorem K1 {l:List Sr} (h:k<l.length):ye l (k+1)=nX (l[k]).nm (mD (-1) (-1) (l[k]).mx) (ye l k):=by rw [ye,Zc h]
theorem K2 {m:PM} {l:List De} (h:k<l.length):DV m l (k+1)=nX (l[k]).nm (mD (k:Nat) (l[k]).mx (-1)) (DV m l k):=by rw [DV,Zc h]
theorem K0 {m:PM} {n:Nat} {l:List Ti} (h:k<l.length):Nw m n l (k+1)=nX (l[k]).nm (mD ((n:Int)+(k:Nat)) (l[k]).fr (l[k]).to) (Nw m n l k):=by rw [Nw,Zc h]
set_option maxHeartbeats 1000000 in
theorem Gg (h:RR w r s d t p) (c8:r.de.length+r.ti.length<=1000000):bh T_ 186 [RA r s d t p] w [] (fun _:Nat=>True) (fun b=>.map (some b)) (fun b=>[mp (fun s:ByteArray=>Value.string s) b (pJ r)]):=by
 obtain ⟨h1,h2,h3,h4⟩:=h.one;have hs:=h.sr;have hd:=h.de;have yy:=h.ti;obtain ⟨a1,ei,IW,IL,rfl,oP,iI,lF,kS⟩:=hs;obtain ⟨a2,db,IV,IK,rfl,kq,eU,jB,kr⟩:=hd;obtain ⟨a3,dV,G1,Gj,rfl,nb,gC,se,o9⟩:=yy;rw [ct] at *;rw [bY] at *;rw [bQ] at *;unfold maxLen at iI eU gC;unfold RA;refine aR func186 I I ?_;refine Jr<|Jy I I fun _ _=>Ja I<|Ji ?_;rename_i b1 r9;refine Cl I ?_;intro bm Y2
 (refine Ja I<|Jn<|Jq<|Jr<|bG I I ae<|JL I (.there .here) I<|JI I<|Jv I<|Jn<|J0 ?_)
 refine aV (fun k:Nat=>k<=r.sr.length) (fun k=>[(14,.q k),(13,.q r.sr.length),(12,.slice a1 r.sr.length ei),(3,.map (some bm)),(1,.p b1)]) (fun k=>[mp (fun s:ByteArray=>Value.string s) bm (ye r.sr k),JP b1 r (.slice a1 r.sr.length ei) (.slice a2 r.de.length db) (.slice a3 r.ti.length dV) p]) (fun k=>r.sr.length-k) ?_ ?_
 ·apply aI 0 (show 0<=r.sr.length from Zi _)
  case hs1=>exact bS
  case ht=>
   exact .h2 .nil
 intro k hk;by_cases aM:k<r.sr.length
 ·have cu:=lF (iK aM);have aC:=(kS k _ (fV aM)).2;have gn:ye r.sr (k+1)=_:=K1 aM;unfold Sr.cells at aC;unfold mD at gn;generalize r.sr[k]=x at aC gn
  (refine Jr<|JA I<|Jn<|Jq<|Jd I fun au=>Jk<|Jq<|J0<|Jr<|ab (fY cu au) I<|ab (iU (eR.base aC I)) I<|Jz I I fun _ _=>ao (.of I) (.of I) .here I I (gO I I) (bu I) ai<|Jn<|Jg<|Jv I<|bG I I ae<|JL I .here I<|bG I I ae<|JL I .here I<|ab (aU (.o I (.o I (.o I .nil))) ai) I ?_)
  refine oh Lz (.of I) (.of I) (.of I) (.there .here) ?_;refine Jx<|Jj<|Jt<|Jg<|JB I (by omega)<|Jv I<|Jn ?_;apply aG (k+1) (show k+1<=r.sr.length by omega) (show r.sr.length-(k+1)<r.sr.length-k by omega)
  case hs1=>exact bS
  case ht=>
   show bC _ [mp (fun s:ByteArray=>Value.string s) bm (ye r.sr (k+1)),JP b1 r (.slice a1 r.sr.length ei) (.slice a2 r.de.length db) (.slice a3 r.ti.length dV) p] _
   rw [gn];exact .h1 (.cons (.there .here) .nil)
 obtain rfl:k=r.sr.length:=by omega
 (refine Jr<|JA I<|Jn<|Jq<|Jc I fun au=>Jp<|Jl<|Jo<|Jt<|Jq<|Jr<|bG I I ae<|JL I (.there .here) I<|JI I<|Jv I<|Jn<|J0 ?_)
 refine aV (fun k:Nat=>k<=r.de.length) (fun k=>[(28,.q k),(27,.q r.de.length),(26,.slice a2 r.de.length db),(3,.map (some bm)),(1,.p b1)]) (fun k=>[mp (fun s:ByteArray=>Value.string s) bm (DV (ye r.sr r.sr.length) r.de k),JP b1 r (.slice a1 r.sr.length ei) (.slice a2 r.de.length db) (.slice a3 r.ti.length dV) p]) (fun k=>r.de.length-k) ?_ ?_
 ·apply aI 0 (show 0<=r.de.length from Zi _)
  case hs1=>exact bS
  case ht=>
   exact .h2 .nil
 intro k hk;by_cases aM:k<r.de.length
 ·have cu:=jB (iy aM);have aC:=(kr k _ (fN aM)).2;have gn:DV (ye r.sr r.sr.length) r.de (k+1)=_:=K2 aM;unfold De.cells at aC;unfold mD at gn;generalize r.de[k]=x at aC gn
  (refine Jr<|JA I<|Jn<|Jq<|Jd I fun au=>Jk<|Jq<|J0<|Jr<|Jv I<|ab (fY cu au) I<|ab (iU (eR.base aC I)) I<|Jz I I fun _ _=>Ja I<|ao (.of I) (.of I) .here I I (fv I I I) (bu I) ai<|Jn<|Jg<|Jv I<|bG I I ae<|JL I .here I<|Jv I<|bG I I ae<|JL I .here I<|ab (aU (.o I (.o I (.o I .nil))) ai) I ?_)
  refine oh Lz (.of I) (.of I) (.of I) (.there .here) ?_;refine Jx<|Jj<|Jt<|Jg<|JB I (by omega)<|Jv I<|Jn ?_;apply aG (k+1) (show k+1<=r.de.length by omega) (show r.de.length-(k+1)<r.de.length-k by omega)
  case hs1=>exact bS
  case ht=>
   show bC _ [mp (fun s:ByteArray=>Value.string s) bm (DV (ye r.sr r.sr.length) r.de (k+1)),JP b1 r (.slice a1 r.sr.length ei) (.slice a2 r.de.length db) (.slice a3 r.ti.length dV) p] _
   rw [gn];exact .h1 (.cons (.there .here) .nil)
 obtain rfl:k=r.de.length:=by omega
 (refine Jr<|JA I<|Jn<|Jq<|Jc I fun au=>Jp<|Jl<|Jo<|Jt<|Jq<|Jr<|bG I I ae<|JL I (.there .here) I<|JI I<|Jv I<|Jn<|J0 ?_)
 refine aV (fun k:Nat=>k<=r.ti.length) (fun k=>[(44,.q k),(43,.q r.ti.length),(42,.slice a3 r.ti.length dV),(3,.map (some bm)),(1,.p b1)]) (fun k=>[mp (fun s:ByteArray=>Value.string s) bm (Nw (DV (ye r.sr r.sr.length) r.de r.de.length) r.de.length r.ti k),JP b1 r (.slice a1 r.sr.length ei) (.slice a2 r.de.length db) (.slice a3 r.ti.length dV) p]) (fun k=>r.ti.length-k) ?_ ?_
 ·apply aI 0 (show 0<=r.ti.length from Zi _)
  case hs1=>exact bS
  case ht=>
   exact .h2 .nil
 intro k hk;by_cases aM:k<r.ti.length
 ·have cu:=se (fm aM);have aC:=(o9 k _ (ef aM)).2;have gn:Nw (DV (ye r.sr r.sr.length) r.de r.de.length) r.de.length r.ti (k+1)=_:=K0 aM;unfold Ti.cells at aC;unfold mD at gn;generalize r.ti[k]=x at aC gn
  (refine Jr<|JA I<|Jn<|Jq<|Jd I fun au=>Jk<|Jq<|J0<|Jr<|Jv I<|ab (fY cu au) I<|ab (iU (eR.base aC I)) I<|Jz I I fun _ _=>Ja I<|ao (.of I) (.of I) .here I I (fv I I I) (bu I) ai<|Jn<|Jg<|Jv I<|bG I I ae<|JL I .here I<|bG I I ae<|JL I bI I<|JI I<|Jv I<|JB I (by omega)<|bG I I ae<|JL I .here I<|bG I I ae<|JL I .here I<|ab (aU (.o I (.o I (.o I .nil))) ai) I ?_)
  refine oh Lz (.of I) (.of I) (.of I) (.there .here) ?_;refine Jx<|Jj<|Jt<|Jg<|JB I (by omega)<|Jv I<|Jn ?_;apply aG (k+1) (show k+1<=r.ti.length by omega) (show r.ti.length-(k+1)<r.ti.length-k by omega)
  case hs1=>exact bS
  case ht=>
   show bC _ [mp (fun s:ByteArray=>Value.string s) bm (Nw (DV (ye r.sr r.sr.length) r.de r.de.length) r.de.length r.ti (k+1)),JP b1 r (.slice a1 r.sr.length ei) (.slice a2 r.de.length db) (.slice a3 r.ti.length dV) p] _
   rw [gn];exact .h1 (.cons (.there .here) .nil)
 obtain rfl:k=r.ti.length:=by omega
 refine Jr<|JA I<|Jn<|Jq<|Jc I fun au=>Jp<|Jl<|Jo<|Jt<|Jr<|Jv I<|Ja I<|Jn<|Je ?_
 first | with_reducible apply aO | with_reducible apply aQ
 case he=>exact dI I I
 case hR=>
  intro w' aB;exact aF bm trivial (show bC _ [mp (fun s:ByteArray=>Value.string s) bm (pJ r)] _ from by unfold pJ;exact .h1 .nil) aB I
theorem cG {a:Addr} {v:Value} (h:w.cell? a=some v) (hs:a.spot=none) (hk:aJ [] w w'):w'.cell? a=some v:=by
 have hb:=World.block_lt_of_cell? w a h;obtain ⟨b,o,s⟩:=a;subst hs;have:=hk.block b hb (by simp);rw [<- h];simp [World.cell?,this]
theorem ki {P:Program} {c:Cx} {sl:aL} {hs:List bd} {dst:Option Tmp} {ty:TypeId} {pos:String} {af:Array Edge} {g:Option (Nat×Bool)} {x y z:Operand} {q:Bool} {v u V:Value} (hx:Is sl x (.bool q)) (hy:Is sl y v) (hz:Is sl z u) (e:(bif q then v else u)=V):du P c sl hs ⟨dst,.pick x y z,ty,pos,af,g⟩ V:=e ▸ vq hx hy hz
theorem qG {α:Type} (p:α->Bool) (l:List α):(iT p l = -1/\l.find? p=none)\/∃ i,∃ h:i<l.length,iT p l=(i:Nat)/\l.find? p=some l[i]:=by
 cases hf:l.find? p with
 | none =>
  rw [ZaQ] at hf;refine .inl ⟨fP fun i hi=>?_,I⟩;simpa [hi] using hf l[i] (Zj hi)
 | some x =>
  obtain ⟨hp,i,hi,rfl,hb⟩:=ZaH.1 hf;refine .inr ⟨i,hi,gQ (fun j hj=>?_) hi hp,I⟩;have:=hb j hj;simpa [show j<l.length by omega] using this
theorem Tw (x:Po) {b1 b2:Nat} {v:Int} {o:ByteArray} {w:World} (f1:w.cell? ⟨b1,0,none⟩=some (.q v)) (f2:w.cell? ⟨b2,0,none⟩=some (.string o)) :
  ak T_ 298 [.agg x.cells.toArray,.p b1,.p b2] w (.bool (Ft v o x)):=by
 unfold Po.cells;refine ah func298 I I ?_
 (refine Jr<|Jy I I fun _ _=>Ja I<|Ji<|ab (cm .here) I<|ab (ag (.of I) (At.base f1 I)) I<|ab (ag (.of I) (At.base f2 I)) I<|bG I I ae<|JL I .here I<|ab (aU (.o I (.o I (.o I .nil))) ai) I<|ab (vt (.of I) (.of I) (kQ (fT (fT mU))) I) I<|Ja I<|Jn<|Je<|JT ?_)
 simp [Ft]
theorem Sp (x:Po) {b1 b2:Nat} {v:Int} {o:ByteArray} {w:World} (f1:w.cell? ⟨b1,0,none⟩=some (.q v)) (f2:w.cell? ⟨b2,0,none⟩=some (.string o)) :
  ak T_ 302 [.agg x.cells.toArray,.p b1,.p b2] w (.bool (yx v o x)):=by
 unfold Po.cells;refine ah func302 I I ?_
 (refine Jr<|Jy I I fun _ _=>Ja I<|Ji<|ab (cm .here) I<|ab (ag (.of I) (At.base f1 I)) I<|bG I I ae<|JL I .here I<|ab (ag (.of I) (At.base f2 I)) I<|ab (aU (.o I (.o I (.o I .nil))) ai) I<|ab (vt (.of I) (.of I) (kQ (fT (fT mU))) I) I<|Ja I<|Jn<|Je<|JT ?_)
 simp [yx]
theorem Bh (v:Int) (o:ByteArray) {w:World} (h:RR w r s d t p):ak T_ 223 [RA r s d t p,.q v,.string o] w (.tuple #[.string ((eB r.po v o).getD ⟨#[]⟩),.bool (eB r.po v o).isSome]):=by
 have h1:=Rd.one h.sr;have h2:=Rd.one h.de;have h3:=Rd.one h.ti;have hp:=h.po;obtain ⟨a,cp,b,o',rfl,dy,bT,ha,hc⟩:=hp;rw [cT] at *;unfold maxLen at bT;unfold RA;refine ah func223 I I ?_
 (refine Jr<|Jy I I fun _ _=>Jy I I fun _ _=>Jy I I fun _ _=>Ja I<|Ja I<|Ji<|bG I I ae<|JL I bI I<|ab (bD .nil (.o I (.o I .nil))) I ?_)
 rename_i b3 uf b4 uT b5 H7
 with_reducible apply aj
 case hr=>exact bb
 case hd=>rfl
 case hc=>
  intro w' aB;have f1:w'.cell? ⟨b4,0,none⟩=some (.q v):=At.lit (by exact Take.there .here) I w' aB;have f2:w'.cell? ⟨b5,0,none⟩=some (.string o):=At.lit (by exact .here) I w' aB
  exact Bi (f:=298) (p:=Ft v o) (first:=[]) (cap:=[.p b4,.p b5]) (h.po.keeps aB.keeps)
   (fun x hx w2 fo=>Tw x (cG f1 I fo) (cG f2 I fo))
 have mY:eB r.po v o=(r.po.find? (Ft v o)).map Po.ip:=rfl;rcases qG (Ft v o) r.po with ⟨e1,e2⟩ | ⟨i,hi,e1,e2⟩
 ·rw [e1];rw [e2] at mY;rw [mY];refine Ja I<|Jn<|Jq<|Jr<|Jv I<|JA I<|Jn<|Jd I fun au=>Jr<|Ja I<|Ja I<|Jn<|Ju<|qp I (gF I I I) ?_
  rfl
 ·rw [e1];rw [e2] at mY;rw [mY];have cu:=ha (kl hi);have aC:=(hc i _ (iq hi)).2;unfold Po.cells at aC;have kr:=aC 2 _ I
  (refine Ja I<|Jn<|Jq<|Jr<|Jv I<|JA I<|Jn<|Jc I fun au=>Jk<|Jr<|bG I I ae<|JL I bI I<|Jv I<|ab (an (.of I) (.of I) cu (by omega) (by omega) aW) I<|bG I I ae<|ab (ag (.of I) (At.base kr I)) I<|Ja I<|Ja I<|Jn<|Je<|qp I (gF I I I) ?_)
  rfl
theorem J6 (v:Int) (o:ByteArray) {w:World} (h:RR w r s d t p):ak T_ 239 [RA r s d t p,.q v,.string o] w (.bool (nD r.po v o)):=by
 obtain ⟨h1,h2,h3,h4⟩:=h.one;unfold RA;refine ah func239 I I ?_
 (refine Jr<|Jy I I fun _ _=>Jy I I fun _ _=>Jy I I fun _ _=>Ja I<|Ji<|bG I I ae<|JL I bI I<|ab (bD .nil (.o I (.o I .nil))) I ?_)
 rename_i b3 uf b4 uT b5 H7
 with_reducible apply aj
 case hr=>exact bb
 case hd=>rfl
 case hc=>
  intro w' aB;have f1:w'.cell? ⟨b4,0,none⟩=some (.q v):=At.lit (by exact Take.there .here) I w' aB;have f2:w'.cell? ⟨b5,0,none⟩=some (.string o):=At.lit (by exact .here) I w' aB
  exact PY (f:=302) (p:=yx v o) (first:=[]) (cap:=[.p b4,.p b5]) (h.po.keeps aB.keeps)
   (fun x hx w2 fo=>Sp x (cG f1 I fo) (cG f2 I fo))
 refine Ja I<|Jn<|Je<|JT ?_
 rfl
theorem wC (v:Int) (o:ByteArray) {w w1:World} (h:RR w1 r s d t p) :
  bh T_ 116 [RA r s d t p,.q v,.string o] w [] (fun _:Nat×Nat×Nat=>True) (fun x=>.func (.func 222) #[] #[.pointer (some ⟨x.1,0,none⟩),.pointer (some ⟨x.2.1,0,none⟩),.pointer (some ⟨x.2.2,0,none⟩)])
   (fun x=>[bz x.1 (.cells #[.string o] 9 (0,0)),JP x.2.1 r s d t p,bz x.2.2 (.cells #[.q v] 3 (0,0))]):=by
 obtain ⟨h1,h2,h3,h4⟩:=h.one;unfold RA;refine aR func116 I I ?_
 (refine Jr<|Jy I I fun _ _=>Jy I I fun _ _=>Jy I I fun _ _=>Ja I<|Ji<|ab (bD .nil (.o I (.o I (.o I .nil)))) I<|Ja I<|Jn<|Je ?_)
 rename_i b3 uf b4 uT b5 H7
 first | with_reducible apply aO | with_reducible apply aQ
 case he=>exact dI I I
 case hR=>
  intro w' aB;exact aF (b5,b3,b4) trivial (by exact .h1 (.cons (.there .here) (.h1 .nil))) aB I
structure RO (md:List Nat) (r:Ro) (s d t p:Value):Prop where
 sr:Out md s (vZ r.sr)
 de:Out md d (vJ r.de)
 ti:Out md t (vm r.ti)
 po:Out md p (uE r.po)
theorem RO.nil {r:Ro} {s d t p:Value}:RO [] r s d t p:=⟨Out.nil _ _,Out.nil _ _,Out.nil _ _,Out.nil _ _⟩
theorem RR.ko {md:List Nat} (h:RR w r s d t p) (hn:RO md r s d t p) (hk:aJ md w w'):RR w' r s d t p:=⟨h.sr.ko hn.sr hk,h.de.ko hn.de hk,h.ti.ko hn.ti hk,h.po.ko hn.po hk⟩
theorem RR.out {md fp:List Nat} {w0:World} (h:RR w0 r s d t p) (hn:RO md r s d t p) (hF:∀ b∈fp,b∈md\/w0.heap.size<=b):RO fp r s d t p:=⟨h.sr.out (by omega) hn.sr hF,h.de.out (by omega) hn.de hF,h.ti.out (by omega) hn.ti hF,h.po.out (by omega) hn.po hF⟩
def yw (po:List Po) (v:Int) (k:Nat) (o:ByteArray):List (List Value):=(fJ po v k o).map fun x=>[.string x]
theorem sK (po:List Po) (v:Int) (k:Nat) (o:ByteArray):(yw po v k o).length=(fJ po v k o).length:=by simp [yw]
theorem wY {o a:ByteArray} (h:mV po v k o=some a):mV po v (k+1) o=eB po v a:=by
 rw [kR,h];show (eB po v a).bind (mV po v 0)=_;cases eB po v a <;> rfl
theorem G0 {o a:ByteArray} (h:mV po v k o=some a) (hk:k<=K) (hn:eB po v a=none\/k=K):(fJ po v K o).length=k:=by
 have hl:=kT po v K o;have h1:k<=(fJ po v K o).length:=by
  cases k with
  | zero=>exact Zi _
  | succ k =>
   have:=oI (po:=po) (v:=v) (o:=o) (show k<K by omega);rw [h] at this;exact (Zl.1 this).1
 rcases hn with hn | rfl
 ·by_cases e:k=K
  ·omega
  ·have:=oI (po:=po) (v:=v) (o:=o) (show k<K by omega);rw [wY h,hn,List.getElem?_eq_none_iff] at this;omega
 ·omega
theorem OY {o a i:ByteArray} (h:mV po v k o=some a) (hk:k<K) (hi:eB po v a=some i):(yw po v K o)[k]? = some [.string i]:=by
 unfold yw;rw [ZI,oI hk,wY h,hi];rfl
set_option maxHeartbeats 1000000 in
theorem EJ {b1 b2 b3:Nat} (v:Int) (o:ByteArray) {w0 w:World} {md:List Nat} (h:RR w0 r s d t p) (hn:RO md r s d t p) (c8:r.ti.length<=1000000) :
  Iter T_ 222 [] [.p b1,.p b2,.p b3] [bz b1 (.cells #[.string o] 9 (0,0)),JP b2 r s d t p,bz b3 (.cells #[.q v] 3 (0,0))] (yw r.po v (r.ti.length+1) o) w0 md w:=by
 intro l fp J E hB hF jq hs hy;have hR:=h.ko hn hB;have hO:=h.out hn hF;rw [sK];have h1:=Rd.one hR.sr;have h2:=Rd.one hR.de;have h4:=Rd.one hR.po;have hti:=hR.ti;obtain ⟨a,cp,b,o',rfl,dy,bT,ha,hc⟩:=hti;rw [bQ] at *;unfold maxLen at bT;refine eh func222 I I jq hs ?_
 (refine Jr<|JL I (.there .here) I<|Ja I<|Ji<|bG I I ae<|JL I bI I<|JI I<|JB I (by omega)<|Jv I<|Jn<|J0 ?_)
 refine aV (ι:=Nat×ByteArray) (fun x=>x.1<=r.ti.length+1/\mV r.po v x.1 o=some x.2) (fun x=>[(13,.q (x.1:Nat)),(12,.q ((r.ti.length:Int)+1)),(5,.string x.2),(0,.func (.yield l) #[] #[]),(2,.p b2),(3,.p b3)])
  (fun x=>[J x.1,bz b1 (.cells #[.string o] 9 (0,0)),JP b2 r s d (.slice a r.ti.length cp) p,bz b3 (.cells #[.q v] 3 (0,0))]) (fun x=>r.ti.length+1-x.1) ?_ ?_
 ·apply aI (0,o) ⟨Zi _,I⟩
  case hs1=>exact bS
  case ht=>(try simp only [Ze,Zf,Za]);exact .h4 .nil
 rintro ⟨k,at_⟩ ⟨hk,hit⟩;dsimp only at hk hit ⊢;by_cases aM:k<r.ti.length+1
 ·have Xf:∀ w',aJ fp w w'->ak T_ 223 [.agg #[.q r.lv,.q r.ma,s,d,.slice a r.ti.length cp,p],.q v,.string at_] w' (.tuple #[.string ((eB r.po v at_).getD ⟨#[]⟩),.bool (eB r.po v at_).isSome]):=fun w' hk=>Bh v at_ (hR.ko hO hk)
  cases hi:eB r.po v at_ with
  | none =>
   have mY:∀ w',aJ fp w w'->ak T_ 223 [.agg #[.q r.lv,.q r.ma,s,d,.slice a r.ti.length cp,p],.q v,.string at_] w' (.tuple #[.string ⟨#[]⟩,.bool false]):=fun w' hk=>by
    have:=Xf w' hk;rwa [hi] at this
   have a7:=G0 hit hk (.inl hi)
   (refine Jr<|JA I<|Jn<|Jq<|Jd I fun au=>Jk<|Jq<|J0<|Jr<|ab (cm bI) I<|JL I cZ I<|Jv I<|aj eo I (fun w' aB=>(mY w' (Mem.keeps aB)))<|Jv I<|JJ I I<|JJ I I<|Ja I<|Ja I<|Jn<|Jq<|Jr<|Jv I<|JH I<|Jv I<|jz I I I I<|jz I I I I<|eS I I I I<|aH I I inferInstance (fun hg bE=>(eF (.bM bE I))) I<|ab (bH (.of I) I) I<|Jn<|cY (.of I)<|Ju<|Jm<|Jh<|Jh<|Jm ?_)
   first | with_reducible apply aO | with_reducible apply aQ
   case he=>exact rk I
   case hR=>
    intro w' aB;exact aF true trivial (show bC _ [J (fJ r.po v (r.ti.length+1) o).length,_,_,_] _ by rw [a7];exact .h4 .nil) aB I
  | some nx =>
   have mY:∀ w',aJ fp w w'->ak T_ 223 [.agg #[.q r.lv,.q r.ma,s,d,.slice a r.ti.length cp,p],.q v,.string at_] w' (.tuple #[.string nx,.bool true]):=fun w' hk=>by
    have:=Xf w' hk;rwa [hi] at this
   have Ws:=hy k _ (OY hit aM hi);have abD:mV r.po v (k+1) o=some nx:=by rw [wY hit,hi]
   (refine Jr<|JA I<|Jn<|Jq<|Jd I fun au=>Jk<|Jq<|J0<|Jr<|ab (cm bI) I<|JL I cZ I<|Jv I<|aj eo I (fun w' aB=>(mY w' (Mem.keeps aB)))<|Jv I<|JJ I I<|JJ I I<|Ja I<|Ja I<|Jn<|Jq<|Jr<|Jv I<|JH I<|Jv I<|JK I I<|Jv I<|JK I I<|Jv I<|JK I I ?_)
   with_reducible apply yZ hB hF Ws
   case hx=>exact Is.of I
   case ha=>exact .o I .nil
   case hd=>rfl
   case ht=>exact .here
   intro q;cases q with
   | false =>
    simp only [cond_false]
    (refine JK I I<|JH I<|ab (ki (.of I) (.of I) (.of I) I) I<|Jn<|cY (.of I)<|Ju<|Jm<|Jh<|Jh<|Jm ?_)
    first | with_reducible apply aO | with_reducible apply aQ
    case he=>exact rk I
    case hR=>
     intro w' aB;exact aF false trivial (by exact .h4 .nil) aB I
   | true =>
    simp only [cond_true]
    (refine JK I I<|JH I<|ab (ki (.of I) (.of I) (.of I) I) I<|Jn<|bZ (.of I)<|Jk<|Jg<|Jv I<|Ja I<|Jx<|Jj<|Jt<|Jg<|JB I (by omega)<|Jv I<|Jn ?_)
    apply aG (k+1,nx) ⟨show k+1<=r.ti.length+1 by omega,abD⟩ (show r.ti.length+1-(k+1)<r.ti.length+1-k by omega)
    case hs1=>exact bS
    case ht=>(try simp only [Ze,Zf,Za]);exact .h4 .nil
 ·obtain rfl:k=r.ti.length+1:=by omega
  have a7:=G0 hit hk (.inr I);refine Jr<|JA I<|Jn<|Jq<|Jc I fun au=>Jp<|Jl<|Jo ?_
  first | with_reducible apply aO | with_reducible apply aQ
  case he=>exact rk I
  case hR=>
   intro w' aB;exact aF true trivial (show bC _ [J (fJ r.po v (r.ti.length+1) o).length,_,_,_] _ by rw [a7];exact .h4 .nil) aB I
def RC (r:Ro) (s d t p:Value):List Value:=[.q r.lv,.q r.ma,s,d,t,p]
def BR (w:World) (b:Nat) (cs:List Value):Prop:=∀ (j:Nat) (u:Value),cs[j]? = some u->w.cell? ⟨b,0+j,none⟩=some u
theorem BR.keeps {b:Nat} {cs:List Value} (h:BR w b cs) (hk:aJ [] w w'):BR w' b cs:=fun j u hu=>cG (h j u hu) I hk
theorem BR.of {c:Cx} {hs hs':List bd} (hm:Mem c hs w) {b:Nat} {cs:List Value} {E:TypeId} {fz:Nat×Nat} (ht:Take hs (bz b (.cells cs.toArray E fz)) hs'):BR w b cs:=fun j u hu=>by
 rw [Zx];exact At.mJ ht hu w hm
theorem CL {P:Program} {c:Cx} {sl:aL} {hs:List bd} {dst:Option Tmp} {ty:TypeId} {pos:String} {af:Array Edge} {g:Option (Nat×Bool)} {t u:TypeId} {x y:Operand} {a b:Bool} [hu:jw P t .bool] (hx:Is sl x (.bool a)) (hy:Is sl y (.bool b)) :
  du P c sl hs ⟨dst,.binOp .neq t x y u,ty,pos,af,g⟩ (.bool (a != b)):=
 jH hx hy fun w=>by
  have:(Op.equal t (.bool a) (.bool b)).run P w=.ok (a==b) w:=by
   exact Gr (d:=9999) (by rw [hu.eq];rfl) (fun k h=>by rw [hu.eq] at h;cases h) (fun h=>by rw [hu.eq] at h;cases h) (fun _=>⟨a,I⟩) I
  simp [BC,binOp,this,bne]
def Le (r:Ro) (v:Int) (x:Ti):Bool:=gM r.po v x.nm != nD r.po v x.nm
def NM (r:Ro) (v:Int) (x:Ti):Bool:=jL (fJ r.po v (r.ti.length+1) x.nm) x.nm
theorem O3 (v:Int) (x:Ti) {b1 b2:Nat} {w:World} (h:RR w r s d t p) (hA:BR w b1 (RC r s d t p)) (f2:w.cell? ⟨b2,0,none⟩=some (.q v)) :
  ak T_ 238 [.agg x.cells.toArray,.p b1,.p b2] w (.bool (Le r v x)):=by
 obtain ⟨h1,h2,h3,h4⟩:=h.one;have lj:∀ (j:Nat) (u:Value),[Value.int .i64 r.lv,.int .i64 r.ma,s,d,t,p][j]? = some u->w.cell? ⟨b1,0+j,none⟩=some u:=hA;unfold Ti.cells;refine ah func238 I I ?_
 (refine Jr<|Jy I I fun _ _=>Ja I<|Ji<|ab (iU (eR.base lj I)) I<|ab (ag (.of I) (At.base f2 I)) I<|bG I I ae<|JL I .here I ?_)
 refine aj eo I (fun w' aB=>Bh (s:=s) (d:=d) (t:=t) (p:=p) v x.nm (h.keeps aB.keeps)) ?_
 (refine Jv I<|JJ I I<|JJ I I<|Ja I<|Ja I<|Ji<|Jv I<|ab (iU (eR.base lj I)) I<|ab (ag (.of I) (At.base f2 I)) I<|bG I I ae<|JL I .here I ?_)
 refine aj eo I (fun w' aB=>J6 (s:=s) (d:=d) (t:=t) (p:=p) v x.nm (h.keeps aB.keeps)) ?_
 skip
 refine ab (CL (.of I) (.of I)) I ?_;refine Ja I<|Jn<|Je<|JT ?_
 rfl
theorem Te (v:Int) {w:World} (h:RR w r s d t p):ak T_ 150 [RA r s d t p,.q v] w (.bool (r.ti.any (Le r v))):=by
 obtain ⟨h1,h2,h3,h4⟩:=h.one;unfold RA;refine ah func150 I I ?_
 (refine Jr<|Jy I I fun _ _=>Jy I I fun _ _=>Ja I<|Ji<|bG I I ae<|JL I (.there .here) I<|ab (bD .nil (.o I (.o I .nil))) I ?_)
 rename_i b3 uf b4 uT
 with_reducible apply aj
 case hr=>exact bb
 case hd=>rfl
 case hc=>
  intro w' aB;have hA:BR w' b3 [.q r.lv,.q r.ma,s,d,t,p]:=BR.of aB (by exact Take.there .here);have f2:w'.cell? ⟨b4,0,none⟩=some (.q v):=At.lit (by exact .here) I w' aB;have hR:=h.keeps aB.keeps
  exact Bp (f:=238) (p:=Le r v) (first:=[]) (cap:=[.p b3,.p b4]) hR.ti
   (fun x hx w2 fo=>O3 v x (hR.keeps fo) (hA.keeps fo) (cG f2 I fo))
 refine Ja I<|Jn<|Je<|JT ?_
 rfl
theorem R6 {q:Int->Bool} {f:FuncId} {first cap:List Value} [bV T_ f] {w w1:World} (h:RR w1 r s d t p) (tW:r.lv<=1000000)
  (cF:∀ v:Int,0<=v->v<r.lv->∀ w',aJ [] w w'->ak T_ f (first++[.q v]++cap) w' (.bool (q v))) :
  ak T_ 148 [RA r s d t p,.func (.func f) first.toArray cap.toArray] w (.bool ((List.range r.lv.toNat).any fun i=>q (i:Nat))):=by
 obtain ⟨h1,h2,h3,h4⟩:=h.one;unfold RA;refine ah func148 I I ?_
 (refine Jr<|Jy I I fun _ _=>Ja I<|Jn<|Jq<|Jr<|bG I I ae<|JL I .here I<|Jv I<|Jn<|J0 ?_)
 refine aV (ι:=Nat) (fun k=>k<=r.lv.toNat/\∀ i,i<k->q (i:Nat)=false) (fun k=>[(8,.q (k:Nat)),(7,.q r.lv),(1,.func (.func f) first.toArray cap.toArray)]) (fun k=>[]) (fun k=>r.lv.toNat-k) ?_ ?_
 ·apply aI 0 ⟨Zi _,fun i h=>by omega⟩
  case hs1=>exact bS
  case ht=>(try simp only [Ze,Zf,Za]);exact .nil
 rintro k ⟨hk,hz⟩;by_cases aM:k<r.lv.toNat
 ·have E5:((k:Nat):Int)<r.lv:=by omega
  refine Jr<|JA I<|Jn<|Jq<|Jd I fun au=>Jk<|Jq<|J0<|Jr<|Jv I<|Ja I<|Ji<|Jv I<|Jv I ?_;refine aj bN I (fun w' aB=>cF (k:Nat) (by omega) E5 w' aB.keeps) ?_;cases hq:q (k:Nat) with
  | true =>
   have e:(List.range r.lv.toNat).any (fun i=>q (i:Nat))=true:=ZQ.2 ⟨k,ZX.2 aM,hq⟩
   rw [e]
   (refine Jn<|cY (.of I)<|Jr<|Ja I<|Jn<|Je<|Jm<|Jh<|Jh<|Jm<|Jh<|JT ?_)
   rfl
  | false =>
   (refine Jn<|bZ (.of I)<|Jw<|Jj<|Jt<|Jg<|JB I (by omega)<|Jv I<|Jn ?_)
   have LN:∀ i,i<k+1->q (i:Nat)=false:=fun i hi=>by
    by_cases e:i=k
    ·rw [e];exact hq
    ·exact hz i (by omega)
   apply aG (k+1) ⟨show k+1<=r.lv.toNat by omega,LN⟩ (show r.lv.toNat-(k+1)<r.lv.toNat-k by omega)
   case hs1=>exact bS
   case ht=>(try simp only [Ze,Zf,Za]);exact .nil
 ·have e:(List.range r.lv.toNat).any (fun i=>q (i:Nat))=false:=by
   rw [Zas];intro i hi;simp [hz i (by have:=ZX.1 hi;omega)]
  rw [e];refine Jr<|JA I<|Jn<|Jq<|Jc I fun au=>Jp<|Jl<|Jo<|Jt<|Jr<|Ja I<|Jn<|Je<|JT ?_
  rfl
theorem UE :mV po v (fJ po v K o).length o=some (iL po v K o):=by
 unfold iL;rcases Nat.eq_zero_or_pos (fJ po v K o).length with h | h
 ·rw [Zak.1 h];rfl
 ·obtain ⟨k,hk⟩:∃ k,(fJ po v K o).length=k+1:=⟨(fJ po v K o).length-1,by omega⟩;have hl:=kT po v K o;have:=oI (po:=po) (v:=v) (o:=o) (show k<K by omega);rw [hk,<- this,List.getLast?_eq_getElem?,hk,ZaA,Zc (by omega)];rfl
theorem EI {vs:List Value} (h:(yw po v K o)[k]? = some vs):∃ a,mV po v (k+1) o=some a/\vs=[.string a]/\(fJ po v K o)[k]? = some a:=by
 unfold yw at h;rw [ZI,Zaq] at h;obtain ⟨a,ha,rfl⟩:=h;have hl:=kT po v K o;have hk:=(Zl.1 ha).1;exact ⟨a,by rw [<- oI (k:=K) (by omega)];exact ha,I,ha⟩
theorem MK (v:Int) (x:Ti) {b1 b2:Nat} {w:World} (h:RR w r s d t p) (c8:r.ti.length<=1000000) (hA:BR w b1 (RC r s d t p)) (f2:w.cell? ⟨b2,0,none⟩=some (.q v)) :
  ak T_ 237 [.agg x.cells.toArray,.p b1,.p b2] w (.bool (NM r v x)):=by
 obtain ⟨h1,h2,h3,h4⟩:=h.one;have lj:∀ (j:Nat) (u:Value),[Value.int .i64 r.lv,.int .i64 r.ma,s,d,t,p][j]? = some u->w.cell? ⟨b1,0+j,none⟩=some u:=hA;unfold Ti.cells;refine ah func237 I I ?_
 (refine Jr<|Jy I I fun _ _=>Jz I I fun _ _=>Jn<|Jq<|Jr<|ab (iU (eR.base lj I)) I<|ab (ag (.of I) (At.base f2 I)) I<|bG I I ae<|JL I (.there .here) I ?_)
 rename_i b3 uf b4 uT;refine JN eo I (fun w1 aT=>wC v x.nm (h.keeps aT.keeps)) ?_;intro y _;dsimp only [id_eq,Zb,Za];refine Jn<|J0 ?_
 refine kb (ps:=[11]) (f:=222) (first:=[]) (cap:=[.pointer (some ⟨y.1,0,none⟩),.pointer (some ⟨y.2.1,0,none⟩),.pointer (some ⟨y.2.2,0,none⟩)]) (ι:=Unit) (κ:=Unit) (rst:=[]) ?hg
  [bz y.1 (.cells #[.string x.nm] 9 (0,0)),JP y.2.1 r s d t p,bz y.2.2 (.cells #[.q v] 3 (0,0))] (yw r.po v (r.ti.length+1) x.nm) ?hit
  (fun k _=>jL ((fJ r.po v (r.ti.length+1) x.nm).take k) x.nm=false) (fun _=>[bz b4 (.cells #[.bool false] 4 (0,0)),bz b3 (.cells #[.string x.nm,.q x.fr,.q x.to] 187 (0,0))])
  (fun _=>NM r v x=true) (fun _=>[bz b4 (.cells #[.bool true] 4 (0,0)),bz b3 (.cells #[.string x.nm,.q x.fr,.q x.to] 187 (0,0))]) (fun _=>.ret) () (by rw [Ze];rfl) ?ht ?hlen ?hps ?round ?kn ?kj
 case hg=>exact Is.of I
 case hit=>intro w' aB;exact EJ v x.nm h RO.nil c8
 case ht=>
  dsimp only [Zb,Za];exact .cons cZ (.cons cZ (.h3 .nil))
 case hlen=>intro vs pQ;obtain ⟨x,_,rfl⟩:=Zy.1 pQ;rfl
 case hps=>intro t ht;simp only [ZT,Zp,or_false] at ht;rcases ht with rfl;exact ZaD rfl
 case kj=>
  intro y D hy;rw [hy];dsimp only [Zb,Za];refine Je<|Jm<|Jh ?_
  first | with_reducible apply aO | with_reducible apply aQ
  case he=>exact GU I inferInstance I (At.lit .here I)
  case hR=>exact fun w' aB=>⟨I,aB.keeps⟩
 case kn=>
  intro _ D hq;rw [sK,ZO] at hq;have uQ:NM r v x=false:=hq;rw [uQ];dsimp only [Zb,Za]
  (refine Jj<|Jt<|Jr<|ao (.of I) (.of I) .here I I (dG I) (bu I) ai<|Jn<|Je ?_)
  first | with_reducible apply aO | with_reducible apply aQ
  case he=>exact GU I inferInstance I (At.lit .here I)
  case hR=>exact fun w' aB=>⟨I,aB.keeps⟩
 case round=>
  intro l0 rc W fp k u vs hsz hk hq hB hF;obtain ⟨a,hit,rfl,Dj⟩:=EI hk;obtain ⟨aM,Mf⟩:=Zl.1 Dj;have htk:(fJ r.po v (r.ti.length+1) x.nm).take (k+1)=(fJ r.po v (r.ti.length+1) x.nm).take k++[a]:=by rw [Zm aM,Mf]
  dsimp only [List.zip_cons_cons,List.zip_nil_right,ns,Zb,Za];refine Jg<|Ja I<|Jn ?_
  with_reducible apply nJ
  case ht=>exact .here
  (refine J0<|Jr<|Jv I<|bG I I ae<|JL I bI I<|ab (dB (.of I) (.of I)) I<|Jn<|gG I (fun au=>?_) fun au=>?_;refine Jr<|ao (.of I) (.of I) (.there .here) I I (dG I) (bu I) ai<|Jn<|Je<|Jm ?_;rotate_left;refine Jw<|Jj ?_;rotate_right)
  ·apply N8 () I
   case ht=>exact Take.there .here
   case hy=>
    refine fG.2 ?_;have:=ZV Dj;rwa [au] at this
   case h2=>exact .h2 .nil
  ·apply mO ()
   case ht=>exact .here
   case hx=>
    show jL ((fJ r.po v (r.ti.length+1) x.nm).take (k+1)) x.nm=false;rw [htk];unfold jL at hq ⊢;rw [List.any_append,hq];simp;exact fun e=>au e.symm
   case h2=>exact .h2 .nil
theorem Fm (x:Sr) (o:ByteArray) {b2:Nat} {w:World} (f2:w.cell? ⟨b2,0,none⟩=some (.string o)) :
  ak T_ 228 [.agg x.cells.toArray,.p b2] w (.bool (decide (x.nm=o))):=by
 unfold Sr.cells;refine ah func228 I I ?_
 (refine Jr<|Jy I I fun _ _=>Ja I<|Ji<|bG I I ae<|JL I .here I<|ab (ag (.of I) (At.base f2 I)) I<|ab (dB (.of I) (.of I)) I<|Ja I<|Jn<|Je<|JT ?_)
 rfl
theorem Qm (v:Int) {w:World} (h:RR w r s d t p) (c8:r.ti.length<=1000000):ak T_ 149 [RA r s d t p,.q v] w (.bool (r.ti.any (NM r v))):=by
 obtain ⟨h1,h2,h3,h4⟩:=h.one;unfold RA;refine ah func149 I I ?_
 (refine Jr<|Jy I I fun _ _=>Jy I I fun _ _=>Ja I<|Ji<|bG I I ae<|JL I (.there .here) I<|ab (bD .nil (.o I (.o I .nil))) I ?_)
 rename_i b3 uf b4 uT
 with_reducible apply aj
 case hr=>exact bb
 case hd=>rfl
 case hc=>
  intro w' aB;have hA:BR w' b3 [.q r.lv,.q r.ma,s,d,t,p]:=BR.of aB (by exact Take.there .here);have f2:w'.cell? ⟨b4,0,none⟩=some (.q v):=At.lit (by exact .here) I w' aB;have hR:=h.keeps aB.keeps
  exact Bp (f:=237) (p:=NM r v) (first:=[]) (cap:=[.p b3,.p b4]) hR.ti
   (fun x hx w2 fo=>MK v x (hR.keeps fo) c8 (hA.keeps fo) (cG f2 I fo))
 refine Ja I<|Jn<|Je<|JT ?_
 rfl
def jD (r:Ro) (v:Int) (o:ByteArray):ByteArray:=if r.sr.any (fun x=>decide (x.nm=iL r.po v (r.ti.length+1) o)) then iL r.po v (r.ti.length+1) o else ⟨#[]⟩
theorem qP (v:Int) (o:ByteArray) {w:World} (h:RR w r s d t p) (c8:r.ti.length<=1000000):ak T_ 126 [RA r s d t p,.q v,.string o] w (.string (jD r v o)):=by
 obtain ⟨h1,h2,h3,h4⟩:=h.one;unfold RA;refine ah func126 I I ?_
 (refine Jr<|Jy I I fun _ _=>Ja I<|Ji<|Jv I<|Jz I I fun _ _=>ao (.of I) (.of I) .here I I (dG I) (bu I) ai<|Jn<|Jq<|Jr<|ab (cm (.there .here)) I<|Jv I<|Jv I ?_)
 rename_i b3 uf b7 Um;refine JN eo I (fun w1 aT=>wC v o (h.keeps aT.keeps)) ?_;intro y _;dsimp only [id_eq,Zb,Za];refine Jn<|J0 ?_
 refine kb (ps:=[14]) (f:=222) (first:=[]) (cap:=[.pointer (some ⟨y.1,0,none⟩),.pointer (some ⟨y.2.1,0,none⟩),.pointer (some ⟨y.2.2,0,none⟩)]) (ι:=ByteArray) (κ:=Empty) (rst:=[JP b3 r s d t p]) ?hg
  [bz y.1 (.cells #[.string o] 9 (0,0)),JP y.2.1 r s d t p,bz y.2.2 (.cells #[.q v] 3 (0,0))] (yw r.po v (r.ti.length+1) o) ?hit
  (fun k a=>mV r.po v k o=some a) (fun a=>[bz b7 (.cells #[.string a] 9 (0,0))])
  (fun _=>False) (fun _=>[]) (fun _=>.ret) o I ?ht ?hlen ?hps ?round ?kn ?kj
 case hg=>exact Is.of I
 case hit=>intro w' aB;exact EJ v o h RO.nil c8
 case ht=>
  dsimp only [Zb,Za];exact .cons cZ (.h3 .nil)
 case hlen=>intro vs pQ;obtain ⟨x,_,rfl⟩:=Zy.1 pQ;rfl
 case hps=>intro t ht;simp only [ZT,Zp,or_false] at ht;rcases ht with rfl;exact ZaD rfl
 case kj=>
  intro y D hy;exact hy.elim
 case kn=>
  intro a D hq;rw [sK,UE,Option.some.injEq] at hq;have r8:jD r v o=if r.sr.any (fun x=>decide (x.nm=a)) then a else ⟨#[]⟩:=by rw [<- hq];rfl
  rw [r8];dsimp only [Zb,Za]
  (refine Jj<|Jt<|Jq<|Jr<|bG I I ae<|JL I dL I<|ab (bD .nil (.o I .nil)) I ?_)
  with_reducible apply aj
  case hr=>exact bb
  case hd=>rfl
  case hc=>
   intro w' aB;have f2:w'.cell? ⟨b7,0,none⟩=some (.string a):=At.lit (by exact .here) I w' aB
   exact PX (f:=228) (p:=fun x=>decide (x.nm=a)) (first:=[]) (cap:=[.p b7]) (h.keeps aB.keeps).sr
    (fun x hx w2 fo=>Fm x a (cG f2 I fo))
  cases r.sr.any (fun x=>decide (x.nm=a)) with
  | true =>
   (refine Jn<|cY (.of I)<|Jr<|JL I .here I<|Ja I<|Jn<|Ju ?_)
   first | with_reducible apply aO | with_reducible apply aQ
   case he=>exact dI I I
   case hR=>exact fun w' aB=>⟨I,aB.keeps⟩
  | false =>
   (refine Jn<|bZ (.of I)<|Jk<|Jr<|Ja I<|Jn<|Je ?_)
   first | with_reducible apply aO | with_reducible apply aQ
   case he=>exact dI I I
   case hR=>exact fun w' aB=>⟨I,aB.keeps⟩
 case round=>
  intro l0 rc W fp k a0 vs hsz hk hq hB hF;obtain ⟨a,hit,rfl,Dj⟩:=EI hk;dsimp only [List.zip_cons_cons,List.zip_nil_right,ns,Zb,Za];refine Jg<|Ja I<|Jn ?_
  with_reducible apply nJ
  case ht=>exact .here
  (refine J0<|Jg<|Jv I<|ao (.of I) (.of I) (.there .here) I I (dG I) (bu I) ai<|Jx<|Jj ?_)
  apply mO a
  case ht=>exact Take.there .here
  case hx=>exact hit
  case h2=>
   exact .h1 .nil
theorem rX {k k':ByteArray} {v:Value}:∀ {l:List (ByteArray×Value)},fh k' (nX k v l)=if k'=k then some v else fh k' l
 | []=>by simp [nX,fh]
 | (x, u) :: r => by
  simp only [nX];split
  ·rename_i e;subst e;simp only [fh];split <;> rfl
  ·rename_i e;simp only [fh];rw [rX];by_cases h:k'=x
   ·rw [if_pos h,if_pos h,if_neg (fun q=>e (q.symm.trans h))]
   ·rw [if_neg h,if_neg h]
theorem Lt {α:Type} {l:List α} {key:α->ByteArray} {val:Nat->α->Value} {f:Nat->PM} (hs:∀ k (h:k<l.length),f (k+1)=nX (key l[k]) (val k l[k]) (f k)) (s:ByteArray) :
  (∀ k,k<=l.length->(∀ j (hj:j<l.length),j<k->key l[j]≠s)->fh s (f k)=fh s (f 0)) /\
  (∀ k,k<=l.length->∀ i (hi:i<l.length),i<k->key l[i]=s->(∀ j (hj:j<l.length),i<j->j<k->key l[j]≠s)->fh s (f k)=some (val i l[i])):=by
 constructor
 ·intro k
  induction k with
  | zero=>intro _ _;rfl
  | succ k ih =>
   intro hk hne;rw [hs k (by omega),rX,if_neg (fun e=>hne k (by omega) (by omega) e.symm)]
   exact ih (by omega) fun j hj h=>hne j hj (by omega)
 ·intro k
  induction k with
  | zero=>intro _ i _ h;omega
  | succ k ih =>
   intro hk i hi YX he hne;rw [hs k (by omega),rX];by_cases e:i=k
   ·subst e;rw [if_pos he.symm]
   ·rw [if_neg (fun q=>hne k (by omega) (by omega) (by omega) q.symm)]
    exact ih (by omega) i hi (by omega) he fun j hj h h'=>hne j hj h (by omega)
theorem wO {α:Type} {l:List α} {key:α->ByteArray} {val:Nat->α->Value} {f:Nat->PM} (hs:∀ k (h:k<l.length),f (k+1)=nX (key l[k]) (val k l[k]) (f k)) (s:ByteArray) :
  (s ∉ l.map key->fh s (f l.length)=fh s (f 0))/\((l.map key).Nodup->∀ i (hi:i<l.length),key l[i]=s->fh s (f l.length)=some (val i l[i])):=by
 obtain ⟨h1,h2⟩:=Lt hs s;constructor
 ·intro hn;exact h1 _ (Zz _) fun j hj _ e=>hn (Zy.2 ⟨_,Zj hj,e⟩)
 ·intro hd i hi he;refine h2 _ (Zz _) i hi hi he fun j hj yC _ e=>?_;have:=(Zac.1 hd) i j (by rw [Zd];exact hi) (by rw [Zd];exact hj) yC;rw [Z2,Z2,he,e] at this;exact this I
structure D4 (r:Ro):Prop where
 nd:(eI r).Nodup
theorem D4.parts (h:D4 r):(cK r).Nodup/\(cy r).Nodup/\(cR r).Nodup/\(∀ s∈cK r,s ∉ cy r)/\(∀ s∈cK r,s ∉ cR r)/\(∀ s∈cy r,s ∉ cR r):=by
 have:=h.nd;unfold eI at this;rw [ZK] at this;obtain ⟨h1,h2,h3⟩:=this;rw [ZK] at h1;obtain ⟨h4,h5,h6⟩:=h1;exact ⟨h4,h5,h2,fun s hs hd=>h6 s hs s hd I,fun s hs ht=>h3 s (ZJ _ hs) s ht I,fun s hs ht=>h3 s (ZW _ hs) s ht I⟩
theorem dS {s:ByteArray} (h:s∈l):0<=bA l s:=by
 have:=(not_congr (cM (l:=l) (s:=s))).2 (not_not_intro h);omega
theorem ui {s:ByteArray} (hd:l.Nodup) {i:Nat} (h:i<l.length) (e:l[i]=s):bA l s=(i:Nat):=
 rP h e fun j hj q=>by
  have:=(Zac.1 hd) j i (by omega) h hj;exact this (q.trans e.symm)
theorem rD (hd:D4 r) (s:ByteArray):fh s (pJ r)=if jL (eI r) s then some (mD (eC r s) (k6 r s) (kI r s)) else none:=by
 obtain ⟨n1,n2,n3,d1,d2,d3⟩:=hd.parts;have hS:=wO (l:=r.sr) (key:=Sr.nm) (val:=fun _ x=>mD (-1) (-1) x.mx) (f:=ye r.sr) (fun k h=>K1 h) s
 have hD:=wO (l:=r.de) (key:=De.nm) (val:=fun k x=>mD (k:Nat) x.mx (-1)) (f:=DV (ye r.sr r.sr.length) r.de) (fun k h=>K2 h) s
 have hT:=wO (l:=r.ti) (key:=Ti.nm) (val:=fun k x=>mD ((r.de.length:Int)+(k:Nat)) x.fr x.to) (f:=Nw (DV (ye r.sr r.sr.length) r.de r.de.length) r.de.length r.ti) (fun k h=>K0 h) s
 change (s ∉ cR r->fh s (pJ r)=fh s (DV (ye r.sr r.sr.length) r.de r.de.length))/\((cR r).Nodup->_) at hT;change (s ∉ cy r->fh s (DV (ye r.sr r.sr.length) r.de r.de.length)=fh s (ye r.sr r.sr.length))/\((cy r).Nodup->_) at hD;change (s ∉ cK r->fh s (ye r.sr r.sr.length)=fh s [])/\((cK r).Nodup->_) at hS;have dK:jL (eI r) s=true↔(s∈cK r\/s∈cy r)\/s∈cR r:=by rw [fG];unfold eI;rw [ZB,ZB]
 by_cases ht:s∈cR r
 ·rw [if_pos (dK.2 (.inr ht))];obtain ⟨i,hi,e⟩:=ZA ht;have yD:i<r.ti.length:=by unfold cR at hi;rwa [Zd] at hi
  have e':(r.ti[i]).nm=s:=by simpa [cR] using e
  have hf:=ui n3 hi e;have f1:bA (cy r) s<0:=cM.2 fun h=>d3 s h ht
  have f2:bA (cK r) s<0:=cM.2 fun h=>d2 s h ht
  refine (hT.2 n3 i yD e').trans ?_;unfold eC k6 kI;rw [if_neg (by omega),if_pos (by rw [hf];omega),if_neg (by omega),if_pos (by rw [hf];omega),if_neg (by omega),if_pos (by rw [hf];omega),hf,ZL,Zk,Zc yD]
  rfl
 ·rw [hT.1 ht];have f3:bA (cR r) s<0:=cM.2 ht;by_cases u9:s∈cy r
  ·rw [if_pos (dK.2 (.inl (.inr u9)))];obtain ⟨i,hi,e⟩:=ZA u9;have yD:i<r.de.length:=by unfold cy at hi;rwa [Zd] at hi
   have e':(r.de[i]).nm=s:=by simpa [cy] using e
   have hf:=ui n2 hi e;have f2:bA (cK r) s<0:=cM.2 fun h=>d1 s h u9
   refine (hD.2 n2 i yD e').trans ?_;unfold eC k6 kI;rw [if_pos (by rw [hf];omega),if_pos (by rw [hf];omega),if_neg (by omega),if_neg (by omega),hf,ZL,Zk,Zc yD]
   rfl
  ·rw [hD.1 u9];have f1:bA (cy r) s<0:=cM.2 u9;by_cases hs:s∈cK r
   ·rw [if_pos (dK.2 (.inl (.inl hs)))];obtain ⟨i,hi,e⟩:=ZA hs;have yD:i<r.sr.length:=by unfold cK at hi;rwa [Zd] at hi
    have e':(r.sr[i]).nm=s:=by simpa [cK] using e
    have hf:=ui n1 hi e;refine (hS.2 n1 i yD e').trans ?_;unfold eC k6 kI;rw [if_neg (by omega),if_neg (by omega),if_neg (by omega),if_neg (by omega),if_pos (by rw [hf];omega),hf,ZL,Zk,Zc yD]
    rfl
   ·rw [hS.1 hs,if_neg (fun h=>by rcases dK.1 h with (h | h) | h <;> contradiction)]
    rfl
def lA (x y:Int):Int:=if x<y then -1 else if y<x then 1 else 0
def mI:List Int->List Int->Int
 | [],[]=>0
 | [],_::_=>-1
 | _::_,[]=>1
 | x::a,y::b=>if lA x y≠0 then lA x y else mI a b
theorem js {x y:Int}:lA x y=0↔x=y:=by
 unfold lA;split
 ·constructor <;> intro h <;> omega
 ·split <;> constructor <;> intro h <;> omega
theorem MR:∀ b:List Int,mI [] b=if 0<b.length then -1 else 0
 | []=>rfl
 | _::_=>rfl
theorem Ik {a b:List Int} (ha:k<a.length) (hb:k<b.length):mI (a.drop k) (b.drop k)=if lA a[k] b[k]≠0 then lA a[k] b[k] else mI (a.drop (k+1)) (b.drop (k+1)):=by
 rw [Zu ha,Zu hb];rfl
end Go.Proofs.A1
