/- Parts of the proof: K5 K6 GkLook K7 K8 K9 K9q GkRegM. -/
import Derived.Test.YteonnodafmegaaaGreatDoorOM04
import Derived.Test.YteonnodafmegaaaGreatDoorOM03
import Derived.Test.YteonnodafmegaaaGreatDoorOM02
set_option linter.unusedSectionVars false
set_option linter.unusedVariables false
set_option linter.unusedSimpArgs false
namespace Go.Proofs.A1
open Go Go.SL
open Tryz
open Tryz renaming prog->T_
variable {X:Act->World->Prop} {bf:List ByteArray} {bv:Value} {cap:List Value} {f:FuncId} {first:List Value} {k:Nat} {lv:Value} {r:Ro} {w:World}
theorem Hr {c:Cx} {D:List Nat} {sl:aL} {hs hs':List bd} {E:TypeId} {g:Nat} {xs:List Value} (n sz:Nat) (ht:Take hs (bE g (.cells xs.toArray E (0,0))) hs') (hl:xs.length=n*sz) (hn:Nat.ble n 1000=true)
  (k:Tr c D sl (row E sz (.w g n n) n xs::hs') X):Tr c D sl hs X:=
 dC (cur:=[]) (by rw [ZJ];exact ht) (Zy _) (by have:=ZaA hn;unfold maxLen;omega) (by rw [ZJ];exact hl) hl k
theorem bU {c:Cx} {D:List Nat} {sl:aL} {hs hs':List bd} {E:TypeId} {g:Nat} {xs ys:List Value} (n sz:Nat) (ht:Take hs (bE g (.cells xs.toArray E (0,0))) hs') (he:xs=ys) (hl:ys.length=n*sz) (hn:Nat.ble n 1000=true)
  (k:Tr c D sl (row E sz (.w g n n) n ys::hs') X):Tr c D sl hs X:=by
 subst he;exact Hr n sz ht hl hn k
def jr (l:List ByteArray) (x:ByteArray):Bool:=l.any fun y=>decide (x=y)
theorem fI {l:List ByteArray} {x:ByteArray}:jr l x=true↔x∈l:=by
 unfold jr;rw [ZR];constructor
 ·rintro ⟨y,hy,h⟩;rw [decide_eq_true_iff] at h;rw [h];exact hy
 ·intro h;exact ⟨x,h,by simp⟩
theorem L8 {l:List ByteArray} (x:ByteArray) {w:World} (h:Rd w lv 1 (gi l)) :
  aj T_ 181 [lv,.string x] w (.q (iN (fun y=>decide (x=y)) l)):=by
 obtain ⟨a,cp,b,o,rfl,dd,bO,ha,hc⟩:=h;rw [bG] at *;unfold maxLen at bO;refine ah func181 I I ?_;refine Jr<|Ja I<|Jn<|Jq<|Jr<|Jv I<|JI I<|Jv I<|Jn<|J0 ?_;refine aV (fun k:Nat=>k<=l.length/\∀ i,i<k->(l[i]?.map fun y=>decide (x=y)).getD false=false) (fun k=>[(8,.int .i64 k),(7,.int .i64 l.length),(0,.slice a l.length cp),(1,.string x)]) (fun _=>[]) (fun k=>l.length-k) ?_ ?_
 ·apply aI 0 ⟨Zi _,fun i h=>by omega⟩
  case hs1=>exact bS
  case ht=>(try simp only [Ze,Zf,Za]);exact .nil
 rintro k ⟨hk,hf⟩;by_cases aK:k<l.length
 ·have cq:=ha (iE aK);have c0:w.cell? ⟨b,o+k*1,none⟩=some (.string l[k]):=(hc k _ (fM aK)).2 0 _ I;have hps:(l[k]?.map fun y=>decide (x=y)).getD false=decide (x=l[k]):=by simp [aK]
  (refine Jr<|JA I<|Jn<|Jq<|Jd I fun az=>Jk<|Jq<|J0<|Jr<|Jv I<|Ja I<|Ji<|Jv I<|Jv I<|Jv I<|ab (fT cq az) I<|ab (ag (.of I) (At.base c0 I)) I<|ab (dF (.of I) (.of I)) I<|Jn<|gm I (fun az=>?_) fun az=>?_;refine Jr<|Jv I<|Ja I<|Jn<|Je<|Jm<|Jh<|Jh<|Jm<|Jh<|JT ?_;rotate_left;refine Jw<|Jj<|Jt<|Jg<|JB I (by omega)<|Jv I<|Jn ?_;rotate_right)
  ·rw [gP hf aK (by simpa using az)]
  ·apply aH (k+1) ⟨by omega,fun i hi=>by
    by_cases e:i=k
    ·rw [e,hps];simpa using az
    ·exact hf i (by omega)⟩ (by omega)
   case hs1=>exact bS
   case ht=>(try simp only [Ze,Zf,Za]);exact .nil
 ·obtain rfl:k=l.length:=by omega
  refine Jr<|JA I<|Jn<|Jq<|Jc I fun az=>Jp<|Jl<|Jo<|Jt<|Jr<|Ja I<|Jn<|Je<|JT ?_;rw [fS hf]
theorem pR {l:List ByteArray} (x:ByteArray) {w:World} (h:Rd w lv 1 (gi l)) :
  aj T_ 179 [lv,.string x] w (.bool (jr l x)):=by
 have jq:∀ w',aJ [] w w'->aj T_ 181 [lv,.string x] w' (.q (iN (fun y=>decide (x=y)) l)):=fun w' hk=>L8 x (h.keeps hk)
 have e:jr l x=l.any fun y=>decide (x=y):=rfl
 rw [e,<- kU];refine ah func179 I I ?_
 (refine Jr<|Ja I<|Ji<|Jv I<|Jv I<|ai bb I (fun w' aB=>(jq w' (Mem.keeps aB)))<|JG I<|Ja I<|Jn<|Je<|JT ?_)
 rfl
theorem P8 {l:List Int} (x:Int) {w:World} (h:Rd w lv 1 (ints l)) :
  aj T_ 241 [lv,.q x] w (.q (iN (fun y=>decide (x=y)) l)):=by
 obtain ⟨a,cp,b,o,rfl,dd,bO,ha,hc⟩:=h;rw [dw] at *;unfold maxLen at bO;refine ah func241 I I ?_;refine Jr<|Ja I<|Jn<|Jq<|Jr<|Jv I<|JI I<|Jv I<|Jn<|J0 ?_;refine aV (fun k:Nat=>k<=l.length/\∀ i,i<k->(l[i]?.map fun y=>decide (x=y)).getD false=false) (fun k=>[(8,.int .i64 k),(7,.int .i64 l.length),(0,.slice a l.length cp),(1,.int .i64 x)]) (fun _=>[]) (fun k=>l.length-k) ?_ ?_
 ·apply aI 0 ⟨Zi _,fun i h=>by omega⟩
  case hs1=>exact bS
  case ht=>(try simp only [Ze,Zf,Za]);exact .nil
 rintro k ⟨hk,hf⟩;by_cases aK:k<l.length
 ·have cq:=ha (kb aK);have c0:w.cell? ⟨b,o+k*1,none⟩=some (.q l[k]):=(hc k _ (iV aK)).2 0 _ I;have hps:(l[k]?.map fun y=>decide (x=y)).getD false=decide (x=l[k]):=by simp [aK]
  (refine Jr<|JA I<|Jn<|Jq<|Jd I fun az=>Jk<|Jq<|J0<|Jr<|Jv I<|Ja I<|Ji<|Jv I<|Jv I<|Jv I<|ab (fT cq az) I<|ab (ag (.of I) (At.base c0 I)) I<|JC I<|Jn<|gm I (fun az=>?_) fun az=>?_;refine Jr<|Jv I<|Ja I<|Jn<|Je<|Jm<|Jh<|Jh<|Jm<|Jh<|JT ?_;rotate_left;refine Jw<|Jj<|Jt<|Jg<|JB I (by omega)<|Jv I<|Jn ?_;rotate_right)
  ·rw [gP hf aK (by simpa using az)]
  ·apply aH (k+1) ⟨by omega,fun i hi=>by
    by_cases e:i=k
    ·rw [e,hps];simpa using az
    ·exact hf i (by omega)⟩ (by omega)
   case hs1=>exact bS
   case ht=>(try simp only [Ze,Zf,Za]);exact .nil
 ·obtain rfl:k=l.length:=by omega
  refine Jr<|JA I<|Jn<|Jq<|Jc I fun az=>Jp<|Jl<|Jo<|Jt<|Jr<|Ja I<|Jn<|Je<|JT ?_;rw [fS hf]
theorem l9 {l:List Int} (x:Int) {w:World} (h:Rd w lv 1 (ints l)) :
  aj T_ 154 [lv,.q x] w (.bool (l.contains x)):=by
 have jq:∀ w',aJ [] w w'->aj T_ 241 [lv,.q x] w' (.q (iN (fun y=>decide (x=y)) l)):=fun w' hk=>P8 x (h.keeps hk)
 have e:l.contains x=l.any fun y=>decide (x=y):=by
  rw [List.contains_eq_any_beq];rfl
 rw [e,<- kU];refine ah func154 I I ?_
 (refine Jr<|Ja I<|Ji<|Jv I<|Jv I<|ai bb I (fun w' aB=>(jq w' (Mem.keeps aB)))<|JG I<|Ja I<|Jn<|Je<|JT ?_)
 rfl
theorem xE {l:List ByteArray} (h:Rd w lv 1 (gi l)) (hl:l.length<=1000) :
  a8 T_ 234 [lv] w [] (fun _:Value=>True) id (fun v=>[row 9 1 v l.length (aR l)]):=by
 have h':=h;obtain ⟨a,cp,b,o,rfl,dd,bO,ha,hc⟩:=h;refine aS func234 I I ?_;cases a with
 | none =>
  have nN:l=[]:=by
   cases l with
   | nil=>rfl
   | cons x r=>exact absurd (ha (by simp [gi])) (by simp)
  subst nN
  (refine Jr<|Ja I<|Jn<|Jq<|Jr<|Jv I<|ab (iv (.of I) (.of I)) I<|Jn<|cW (.of I)<|Jr<|Ja I<|Jn<|Ju ?_)
  refine aN 9 1 ?_
  with_reducible first|apply aO|apply aQ
  case he=>exact dB I I
  case hR=>
   intro w' aB;exact aD (.z) trivial (by exact .h1 .nil) aB I
 | some ad =>
  (refine Jr<|Ja I<|Jn<|Jq<|Jr<|Jv I<|ab (iv (.of I) (.of I)) I<|Jn<|ch (.of I)<|Jk<|Jr<|bj (aG .nil I I I I) I fun _ _=>Jv I ?_)
  rename_i bq ml;refine bU (g:=bq) (E:=9) (ys:=[]) 0 1 (by exact .here) I I I ?_
  with_reducible apply eX
  case hx=>exact Is.of I
  case hy=>exact Is.of I
  case ht=>exact .here
  case hsrc=>exact fun w' aB=>h'.keeps aB.keeps
  case h1=>exact vi l
  case hz=>exact I
  case hsz=>exact I
  case hb0=>exact I
  case hb=>rw [bG];omega
  case hd=>rfl
  intro v';rw [bG,<- oU,ZD,Za];refine Ja I<|Jn<|Je ?_
  with_reducible first|apply aO|apply aQ
  case he=>exact dB I I
  case hR=>
   intro w' aB;exact aD v' trivial (by exact .h1 .nil) aB I
theorem O2 (l:List Sr):ko l=(vk l).flatten:=rfl
theorem Iu {l:List Sr} (h:Rd w lv 2 (vk l)) (hl:l.length<=1000) :
  a8 T_ 266 [lv] w [] (fun _:Value=>True) id (fun v=>[row 186 2 v l.length (ko l)]):=by
 have h':=h;obtain ⟨a,cp,b,o,rfl,dd,bO,ha,hc⟩:=h;refine aS func266 I I ?_;cases a with
 | none =>
  have nN:l=[]:=by
   cases l with
   | nil=>rfl
   | cons x r=>exact absurd (ha (by simp [vk])) (by simp)
  subst nN
  (refine Jr<|Ja I<|Jn<|Jq<|Jr<|Jv I<|ab (iv (.of I) (.of I)) I<|Jn<|cW (.of I)<|Jr<|Ja I<|Jn<|Ju ?_)
  refine aN 186 2 ?_
  with_reducible first|apply aO|apply aQ
  case he=>exact dB I I
  case hR=>
   intro w' aB;exact aD (.z) trivial (by exact .h1 .nil) aB I
 | some ad =>
  (refine Jr<|Ja I<|Jn<|Jq<|Jr<|Jv I<|ab (iv (.of I) (.of I)) I<|Jn<|ch (.of I)<|Jk<|Jr ?_)
  with_reducible apply bj
  case hr=>exact lB
  case hd=>rfl
  intro bq ml;refine PU I I ?_;refine bU (g:=bq) (E:=186) (ys:=[]) 0 2 (by exact .here) I I I ?_
  with_reducible apply eX
  case hx=>exact Is.of I
  case hy=>exact Is.of I
  case ht=>exact .here
  case hsrc=>exact fun w' aB=>h'.keeps aB.keeps
  case h1=>exact Gd l
  case hz=>exact I
  case hsz=>exact I
  case hb0=>exact I
  case hb=>rw [cy];omega
  case hd=>rfl
  intro v';rw [cy,ZD,Za,<- O2];refine Ja I<|Jn<|Je ?_
  with_reducible first|apply aO|apply aQ
  case he=>exact dB I I
  case hR=>
   intro w' aB;exact aD v' trivial (by exact .h1 .nil) aB I
theorem Q6 (l:List De):jt l=(u0 l).flatten:=rfl
theorem Iw {l:List De} (h:Rd w lv 3 (u0 l)) (hl:l.length<=1000) :
  a8 T_ 267 [lv] w [] (fun _:Value=>True) id (fun v=>[row 90 3 v l.length (jt l)]):=by
 have h':=h;obtain ⟨a,cp,b,o,rfl,dd,bO,ha,hc⟩:=h;refine aS func267 I I ?_;cases a with
 | none =>
  have nN:l=[]:=by
   cases l with
   | nil=>rfl
   | cons x r=>exact absurd (ha (by simp [u0])) (by simp)
  subst nN
  (refine Jr<|Ja I<|Jn<|Jq<|Jr<|Jv I<|ab (iv (.of I) (.of I)) I<|Jn<|cW (.of I)<|Jr<|Ja I<|Jn<|Ju ?_)
  refine aN 90 3 ?_
  with_reducible first|apply aO|apply aQ
  case he=>exact dB I I
  case hR=>
   intro w' aB;exact aD (.z) trivial (by exact .h1 .nil) aB I
 | some ad =>
  (refine Jr<|Ja I<|Jn<|Jq<|Jr<|Jv I<|ab (iv (.of I) (.of I)) I<|Jn<|ch (.of I)<|Jk<|Jr ?_)
  with_reducible apply bj
  case hr=>exact lB
  case hd=>rfl
  intro bq ml;refine PU I I ?_;refine bU (g:=bq) (E:=90) (ys:=[]) 0 3 (by exact .here) I I I ?_
  with_reducible apply eX
  case hx=>exact Is.of I
  case hy=>exact Is.of I
  case ht=>exact .here
  case hsrc=>exact fun w' aB=>h'.keeps aB.keeps
  case h1=>exact G6 l
  case hz=>exact I
  case hsz=>exact I
  case hb0=>exact I
  case hb=>rw [cd];omega
  case hd=>rfl
  intro v';rw [cd,ZD,Za,<- Q6];refine Ja I<|Jn<|Je ?_
  with_reducible first|apply aO|apply aQ
  case he=>exact dB I I
  case hR=>
   intro w' aB;exact aD v' trivial (by exact .h1 .nil) aB I
theorem OP (l:List Ti):kz l=(uS l).flatten:=rfl
theorem It {l:List Ti} (h:Rd w lv 3 (uS l)) (hl:l.length<=1000) :
  a8 T_ 268 [lv] w [] (fun _:Value=>True) id (fun v=>[row 187 3 v l.length (kz l)]):=by
 have h':=h;obtain ⟨a,cp,b,o,rfl,dd,bO,ha,hc⟩:=h;refine aS func268 I I ?_;cases a with
 | none =>
  have nN:l=[]:=by
   cases l with
   | nil=>rfl
   | cons x r=>exact absurd (ha (by simp [uS])) (by simp)
  subst nN
  (refine Jr<|Ja I<|Jn<|Jq<|Jr<|Jv I<|ab (iv (.of I) (.of I)) I<|Jn<|cW (.of I)<|Jr<|Ja I<|Jn<|Ju ?_)
  refine aN 187 3 ?_
  with_reducible first|apply aO|apply aQ
  case he=>exact dB I I
  case hR=>
   intro w' aB;exact aD (.z) trivial (by exact .h1 .nil) aB I
 | some ad =>
  (refine Jr<|Ja I<|Jn<|Jq<|Jr<|Jv I<|ab (iv (.of I) (.of I)) I<|Jn<|ch (.of I)<|Jk<|Jr ?_)
  with_reducible apply bj
  case hr=>exact lB
  case hd=>rfl
  intro bq ml;refine PU I I ?_;refine bU (g:=bq) (E:=187) (ys:=[]) 0 3 (by exact .here) I I I ?_
  with_reducible apply eX
  case hx=>exact Is.of I
  case hy=>exact Is.of I
  case ht=>exact .here
  case hsrc=>exact fun w' aB=>h'.keeps aB.keeps
  case h1=>exact F7 l
  case hz=>exact I
  case hsz=>exact I
  case hb0=>exact I
  case hb=>rw [bV];omega
  case hd=>rfl
  intro v';rw [bV,ZD,Za,<- OP];refine Ja I<|Jn<|Je ?_
  with_reducible first|apply aO|apply aQ
  case he=>exact dB I I
  case hR=>
   intro w' aB;exact aD v' trivial (by exact .h1 .nil) aB I
theorem AV (l:List Po):gl l=(tG l).flatten:=rfl
theorem PT {l:List Sr} {g:Sr->ByteArray} [bW T_ f] {w:World} (h:Rd w lv 2 (vk l)) (hn:l.length<=1000000)
  (cV:∀ x∈l,∀ w',aJ [] w w'->aj T_ f (first++[.agg x.cells.toArray]++cap) w' (.string (g x))) :
  a8 T_ 140 [lv,.func (.func f) first.toArray cap.toArray] w [] (fun _:Value=>True) id (fun v=>[row 9 1 v l.length (aR (l.map g))]):=by
 obtain ⟨a,cp,b,o,rfl,dd,bO,ha,hc⟩:=h;rw [cy] at *;unfold maxLen at bO;refine aS func140 I I ?_;refine Jr<|Ja I<|Ji<|Ja I<|Jn<|Jq<|Jr<|Jv I<|JI I<|Jv I<|Jn<|J0 ?_;refine aN 9 1 ?_;refine aV (ι:=Nat×Value) (fun x=>x.1<=l.length) (fun x=>[(10,.int .i64 x.1),(9,.int .i64 l.length),(8,.slice a l.length cp),(5,x.2),(1,.func (.func f) first.toArray cap.toArray)]) (fun x=>[row 9 1 x.2 x.1 (aR ((l.take x.1).map g))]) (fun x=>l.length-x.1) ?_ ?_
 ·apply aI (0,.z) (Zi _)
  case hs1=>exact bS
  case ht=>
   exact .h1 .nil
 rintro ⟨k,v⟩ hk;dsimp only at hk ⊢;by_cases aK:k<l.length
 ·have cq:=ha (iF aK);have aC:=(hc k _ (fZ aK)).2;have jq:=cV _ (Zj aK);have Md:aR ((l.take (k+1)).map g)=aR ((l.take k).map g)++[.string (g l[k])]:=by
   rw [Zl aK,Zv,eT];rfl
  generalize g l[k]=gk at jq Md;unfold Sr.cells at aC jq
  (refine Jr<|JA I<|Jn<|Jq<|Jd I fun az=>Jk<|Jq<|J0<|Jr<|ab (fT cq az) I<|ab (iO (eZ.base aC I)) I<|Jz I I fun _ _=>ao (.of I) (.of I) .here I I (gO I I) (bz I) ak<|Jn<|Jg<|Jv I<|Jv I<|ab (cm .here) I ?_)
  refine ai bM I (fun w' aB=>(jq w' (Mem.keeps aB))) ?_;refine bj (aG (.o I .nil) I I I I) I (fun _ _=>?_);refine bu (.of I) (.of I) bL .here ak (by rfl) (dR I) (by rfl) (by rfl) (by rfl) ed (by rfl) ?_;intro v';refine Ja I<|Jx<|Jj<|Jt<|Jg<|JB I (by omega)<|Jv I<|Jn ?_;apply aH (k+1,v') (by show k+1<=l.length;omega) (by show l.length-(k+1)<l.length-k;omega)
  case hs1=>exact bS
  case ht=>
   show bB _ [row 9 1 v' (k+1) (aR ((l.take (k+1)).map g))] _;rw [Md];exact .h1 .nil
 ·obtain rfl:k=l.length:=by omega
  rw [ZK];refine Jr<|JA I<|Jn<|Jq<|Jc I fun az=>Jp<|Jl<|Jo<|Jt<|Jr<|Jv I<|Ja I<|Jn<|Je ?_
  with_reducible first|apply aO|apply aQ
  case he=>exact dB I I
  case hR=>
   intro w' aB;exact aD v trivial (by exact .h1 .nil) aB I
theorem Gx {l:List De} {g:De->ByteArray} [bW T_ f] {w:World} (h:Rd w lv 3 (u0 l)) (hn:l.length<=1000000)
  (cV:∀ x∈l,∀ w',aJ [] w w'->aj T_ f (first++[.agg x.cells.toArray]++cap) w' (.string (g x))) :
  a8 T_ 143 [lv,.func (.func f) first.toArray cap.toArray] w [] (fun _:Value=>True) id (fun v=>[row 9 1 v l.length (aR (l.map g))]):=by
 obtain ⟨a,cp,b,o,rfl,dd,bO,ha,hc⟩:=h;rw [cd] at *;unfold maxLen at bO;refine aS func143 I I ?_;refine Jr<|Ja I<|Ji<|Ja I<|Jn<|Jq<|Jr<|Jv I<|JI I<|Jv I<|Jn<|J0 ?_;refine aN 9 1 ?_;refine aV (ι:=Nat×Value) (fun x=>x.1<=l.length) (fun x=>[(10,.int .i64 x.1),(9,.int .i64 l.length),(8,.slice a l.length cp),(5,x.2),(1,.func (.func f) first.toArray cap.toArray)]) (fun x=>[row 9 1 x.2 x.1 (aR ((l.take x.1).map g))]) (fun x=>l.length-x.1) ?_ ?_
 ·apply aI (0,.z) (Zi _)
  case hs1=>exact bS
  case ht=>
   exact .h1 .nil
 rintro ⟨k,v⟩ hk;dsimp only at hk ⊢;by_cases aK:k<l.length
 ·have cq:=ha (iq aK);have aC:=(hc k _ (fR aK)).2;have jq:=cV _ (Zj aK);have Md:aR ((l.take (k+1)).map g)=aR ((l.take k).map g)++[.string (g l[k])]:=by
   rw [Zl aK,Zv,eT];rfl
  generalize g l[k]=gk at jq Md;unfold De.cells at aC jq
  (refine Jr<|JA I<|Jn<|Jq<|Jd I fun az=>Jk<|Jq<|J0<|Jr<|ab (fT cq az) I<|ab (iO (eZ.base aC I)) I<|Jz I I fun _ _=>ao (.of I) (.of I) .here I I (fx I I I) (bz I) ak<|Jn<|Jg<|Jv I<|Jv I<|ab (cm .here) I ?_)
  refine ai bM I (fun w' aB=>(jq w' (Mem.keeps aB))) ?_;refine bj (aG (.o I .nil) I I I I) I (fun _ _=>?_);refine bu (.of I) (.of I) bL .here ak (by rfl) (dR I) (by rfl) (by rfl) (by rfl) ed (by rfl) ?_;intro v';refine Ja I<|Jx<|Jj<|Jt<|Jg<|JB I (by omega)<|Jv I<|Jn ?_;apply aH (k+1,v') (by show k+1<=l.length;omega) (by show l.length-(k+1)<l.length-k;omega)
  case hs1=>exact bS
  case ht=>
   show bB _ [row 9 1 v' (k+1) (aR ((l.take (k+1)).map g))] _;rw [Md];exact .h1 .nil
 ·obtain rfl:k=l.length:=by omega
  rw [ZK];refine Jr<|JA I<|Jn<|Jq<|Jc I fun az=>Jp<|Jl<|Jo<|Jt<|Jr<|Jv I<|Ja I<|Jn<|Je ?_
  with_reducible first|apply aO|apply aQ
  case he=>exact dB I I
  case hR=>
   intro w' aB;exact aD v trivial (by exact .h1 .nil) aB I
theorem PS {l:List Ti} {g:Ti->ByteArray} [bW T_ f] {w:World} (h:Rd w lv 3 (uS l)) (hn:l.length<=1000000)
  (cV:∀ x∈l,∀ w',aJ [] w w'->aj T_ f (first++[.agg x.cells.toArray]++cap) w' (.string (g x))) :
  a8 T_ 178 [lv,.func (.func f) first.toArray cap.toArray] w [] (fun _:Value=>True) id (fun v=>[row 9 1 v l.length (aR (l.map g))]):=by
 obtain ⟨a,cp,b,o,rfl,dd,bO,ha,hc⟩:=h;rw [bV] at *;unfold maxLen at bO;refine aS func178 I I ?_;refine Jr<|Ja I<|Ji<|Ja I<|Jn<|Jq<|Jr<|Jv I<|JI I<|Jv I<|Jn<|J0 ?_;refine aN 9 1 ?_;refine aV (ι:=Nat×Value) (fun x=>x.1<=l.length) (fun x=>[(10,.int .i64 x.1),(9,.int .i64 l.length),(8,.slice a l.length cp),(5,x.2),(1,.func (.func f) first.toArray cap.toArray)]) (fun x=>[row 9 1 x.2 x.1 (aR ((l.take x.1).map g))]) (fun x=>l.length-x.1) ?_ ?_
 ·apply aI (0,.z) (Zi _)
  case hs1=>exact bS
  case ht=>
   exact .h1 .nil
 rintro ⟨k,v⟩ hk;dsimp only at hk ⊢;by_cases aK:k<l.length
 ·have cq:=ha (fm aK);have aC:=(hc k _ (ei aK)).2;have jq:=cV _ (Zj aK);have Md:aR ((l.take (k+1)).map g)=aR ((l.take k).map g)++[.string (g l[k])]:=by
   rw [Zl aK,Zv,eT];rfl
  generalize g l[k]=gk at jq Md;unfold Ti.cells at aC jq
  (refine Jr<|JA I<|Jn<|Jq<|Jd I fun az=>Jk<|Jq<|J0<|Jr<|ab (fT cq az) I<|ab (iO (eZ.base aC I)) I<|Jz I I fun _ _=>ao (.of I) (.of I) .here I I (fx I I I) (bz I) ak<|Jn<|Jg<|Jv I<|Jv I<|ab (cm .here) I ?_)
  refine ai bM I (fun w' aB=>(jq w' (Mem.keeps aB))) ?_;refine bj (aG (.o I .nil) I I I I) I (fun _ _=>?_);refine bu (.of I) (.of I) bL .here ak (by rfl) (dR I) (by rfl) (by rfl) (by rfl) ed (by rfl) ?_;intro v';refine Ja I<|Jx<|Jj<|Jt<|Jg<|JB I (by omega)<|Jv I<|Jn ?_;apply aH (k+1,v') (by show k+1<=l.length;omega) (by show l.length-(k+1)<l.length-k;omega)
  case hs1=>exact bS
  case ht=>
   show bB _ [row 9 1 v' (k+1) (aR ((l.take (k+1)).map g))] _;rw [Md];exact .h1 .nil
 ·obtain rfl:k=l.length:=by omega
  rw [ZK];refine Jr<|JA I<|Jn<|Jq<|Jc I fun az=>Jp<|Jl<|Jo<|Jt<|Jr<|Jv I<|Ja I<|Jn<|Je ?_
  with_reducible first|apply aO|apply aQ
  case he=>exact dB I I
  case hR=>
   intro w' aB;exact aD v trivial (by exact .h1 .nil) aB I
theorem QK (n:Nat) (hn:n<=1000) (w:World):a8 T_ 235 [.z,.q (n:Int)] w [] (fun _:Value=>True) id (fun v=>[row 9 1 v 0 []]):=by
 refine aS func235 I I ?_
 (refine Jr<|Ja I<|Jn<|Jq<|Jr<|Jv I<|JA I<|Jn<|Jc I fun az=>Jk<|Jq<|Jr<|Jv I<|Jv I<|ab (r5 (.of I)) I<|Jv I<|JI I<|JS I (by omega)<|JS I (by omega)<|Ja I<|Ji<|Jv I<|JE I<|Jn<|gm I (fun az=>?_) fun az=>?_;refine Jg<|Jv I<|Jv I<|ab (r5 (.of I)) I<|ab (iU (.of I) (.of I) (by omega) (by omega)) I<|Jv I ?_;rotate_left;refine Jk<|Jr<|Jv I<|Ja I<|Jn<|Je ?_;rotate_right)
 ·rw [show (n:Int)-(((0:Nat):Int)-((0:Nat):Int))=(n:Int) by omega]
  with_reducible apply Ek
  case hx=>exact Is.of I
  case hy=>exact Is.of I
  case h0=>omega
  case hz=>exact I
  case hsz=>exact I
  case hb0=>exact I
  case hb=>omega
  case hd=>rfl
  intro v';refine dy (E:=9) (sz:=1) (by exact .here) (by omega) fun g iz cur e oD Dd C9 Fb=>?_;subst e
  (refine Jv I<|JI I<|ab (iU (.of I) (.of I) (by omega) (by omega)) I<|Ja I<|Ji<|Jv I<|Ja I<|Jn<|Je ?_)
  rw [show Go.sliced (some ⟨g,0,none⟩) 0 (((0:Nat):Int)).toNat iz 1=.w g 0 iz from Cs g iz 1]
  skip
  generalize hA:_++cur=al at C9 ⊢;refine dC (n:=0) (xs:=[]) (cur:=al) (cap:=iz) (g:=g) (E:=9) (sz:=1) (by rw [Za];exact .here) (Zi _) Dd C9 I ?_
  with_reducible first|apply aO|apply aQ
  case he=>exact dB I I
  case hR=>
   intro w' aB;exact aD (.w g 0 iz) trivial (by exact .h1 .nil) aB I
 ·refine aN 9 1 ?_
  with_reducible first|apply aO|apply aQ
  case he=>exact dB I I
  case hR=>
   intro w' aB;exact aD (.z) trivial (by exact .h1 .nil) aB I
theorem OY (a b:List ByteArray):gi (a++b)=gi a++gi b:=by simp [gi]
theorem tz {α:Type} {l:List (List α)} (h:k<l.length):(l.take (k+1)).flatten=(l.take k).flatten++l[k]:=by
 rw [List.take_add_one,Zc h,Zaf];simp
theorem GZ {α:Type} (l:List (List α)) (k:Nat):(l.take k).flatten.length<=l.flatten.length:=by
 conv=>rhs;rw [<- Z0 k l]
 rw [Zaf,Zg];omega
theorem Ct {α:Type} {l:List α} (h:k<l.length):(l.map fun v=>[v])[k]? = some [l[k]]:=by simp [h]
theorem Iq {vs:List Value} {ess:List (List ByteArray)} (h:Rd w lv 1 (vs.map fun v=>[v])) (hl:vs.length=ess.length) (hr:∀ (i:Nat) (v:Value) (es:List ByteArray),vs[i]? = some v->ess[i]? = some es->Rd w v 1 (gi es)) (hn:ess.flatten.length<=1000) :
  a8 T_ 142 [lv] w [] (fun _:Value=>True) id (fun v=>[row 9 1 v ess.flatten.length (gi ess.flatten).flatten]):=by
 obtain ⟨a,cp,b,o,rfl,dd,bO,ha,hc⟩:=h;rw [Zd] at *;unfold maxLen at bO;refine aS func142 I I ?_;refine Jr<|Ja I<|Ji<|Ja I<|Jn<|Jq<|Jr<|Jv I<|JI I<|Jv I<|Jn<|J0 ?_;refine aV (ι:=Nat) (fun k=>k<=vs.length) (fun k=>[(11,.int .i64 k),(10,.int .i64 vs.length),(9,.slice a vs.length cp),(0,.slice a vs.length cp),(3,.int .i64 (((ess.take k).flatten.length:Nat):Int))]) (fun _=>[]) (fun k=>vs.length-k) ?_ ?_
 ·apply aI (0:Nat) (show (0:Nat)<=vs.length from Zi _)
  case hs1=>exact bS
  case ht=>(try simp only [Ze,Zf,Za]);exact .nil
 intro k hk;by_cases aK:k<vs.length
 ·have fY:k<ess.length:=by omega
  have cq:=ha (by intro e;have:=congrArg List.length e;simp at this;subst this;simp at aK);have Xx:=hr k _ _ (Zc aK) (Zc fY);obtain ⟨a1,eo,b1,o1,e1,_⟩:=Xx;rw [bG] at e1;have c0:w.cell? ⟨b,o+k*1,none⟩=some (.slice a1 ess[k].length eo):=by rw [<- e1];exact (hc k _ (Ct aK)).2 0 _ I
  have sK:=GZ ess (k+1);have hs:((ess.take (k+1)).flatten.length:Int)=(ess.take k).flatten.length+ess[k].length:=by rw [tz fY,Zg];omega
  (refine Jr<|JA I<|Jn<|Jq<|Jd I fun az=>Jk<|Jq<|J0<|Jr<|ab (fT cq az) I<|ab (ag (.of I) (At.base c0 I)) I<|Ja I<|Ji<|Jv I<|Jv I<|JI I<|JB I (by omega)<|Ja I<|Ji<|Jv I<|JA I<|Jn<|Jc I fun az=>Jw<|Jj<|Jt<|Jg<|JB I (by omega)<|Jv I<|Jn ?_)
  apply aH (k+1) (show k+1<=vs.length by omega) (show vs.length-(k+1)<vs.length-k by omega)
  case hs1=>
   rw [hs];exact .cons I (.cons I (.cons I (.cons I (.cons I .nil))))
  case ht=>exact .nil
 ·obtain rfl:k=vs.length:=by omega
  rw [show ess.take vs.length=ess by rw [hl,ZK]];refine Jr<|JA I<|Jn<|Jq<|Jc I fun az=>Jp<|Jl<|Jo<|Jt<|Jr<|Jv I ?_;refine JN bb I (fun w1 aT=>QK _ hn _) ?_;intro v0 _;dsimp only [id_eq,Zb,Za];refine Ja I<|Jn<|Jq<|Jr<|Jv I<|JI I<|Jv I<|Jn<|J0 ?_;refine aV (ι:=Nat×Value) (fun x=>x.1<=vs.length) (fun x=>[(27,.q x.1),(26,.q vs.length),(25,.slice a vs.length cp),(6,x.2)]) (fun x=>[row 9 1 x.2 (ess.take x.1).flatten.length (gi (ess.take x.1).flatten).flatten]) (fun x=>vs.length-x.1) ?_ ?_
  ·apply aI (0,v0) (Zi _)
   case hs1=>exact bS
   case ht=>
    exact .h1 .nil
  rintro ⟨k,v⟩ hk;dsimp only at hk ⊢;by_cases aK:k<vs.length
  ·have fY:k<ess.length:=by omega
   have cq:=ha (by intro e;have:=congrArg List.length e;simp at this;subst this;simp at aK);have Xx:=hr k _ _ (Zc aK) (Zc fY);have abX:=Xx;obtain ⟨a1,eo,b1,o1,e1,_⟩:=abX;rw [bG] at e1;rw [e1] at Xx;have c0:w.cell? ⟨b,o+k*1,none⟩=some (.slice a1 ess[k].length eo):=by rw [<- e1];exact (hc k _ (Ct aK)).2 0 _ I
   have sK:=GZ ess (k+1);have hs:(ess.take (k+1)).flatten.length=(ess.take k).flatten.length+ess[k].length:=by rw [tz fY,Zg]
   (refine Jr<|JA I<|Jn<|Jq<|Jd I fun az=>Jk<|Jq<|J0<|Jr<|ab (fT cq az) I<|ab (ag (.of I) (At.base c0 I)) I<|Ja I<|Jn<|Jg<|Jv I<|Jv I ?_)
   with_reducible apply eX
   case hx=>exact Is.of I
   case hy=>exact Is.of I
   case ht=>exact .here
   case hsrc=>exact fun w' aB=>Xx.keeps aB.keeps
   case h1=>exact vi _
   case hz=>exact I
   case hsz=>exact I
   case hb0=>exact I
   case hb=>rw [bG];omega
   case hd=>rfl
   intro v';rw [bG];refine Ja I<|Jx<|Jj<|Jt<|Jg<|JB I (by omega)<|Jv I<|Jn ?_;apply aH (k+1,v') (show k+1<=vs.length by omega) (show vs.length-(k+1)<vs.length-k by omega)
   case hs1=>exact bS
   case ht=>
    show bB _ [row 9 1 v' (ess.take (k+1)).flatten.length (gi (ess.take (k+1)).flatten).flatten] _;rw [hs,tz fY,OY,Zaf];exact .h1 .nil
  ·obtain rfl:k=vs.length:=by omega
   have xY:vs.length=ess.length:=hl;rw [xY,ZK];refine Jr<|JA I<|Jn<|Jq<|Jc I fun az=>Jp<|Jl<|Jo<|Jt<|Jr<|Jv I<|Ja I<|Jn<|Je ?_
   with_reducible first|apply aO|apply aQ
   case he=>exact dB I I
   case hR=>
    intro w' aB;exact aD v trivial (by exact .h1 .nil) aB I
theorem Rd.one {v:Value} {sz:Nat} {xs:List (List Value)} (h:Rd w v sz xs):v.oneCell'=true:=by
 obtain ⟨a,cap,b,o,rfl,_⟩:=h;rfl
def yp {α:Type} (bf:List ByteArray) (nm:α->ByteArray) (ck:α->Int) (l:List α) (k:Nat):Int:=(l[k]?.map fun x=>aZ [cn (!kR (nm x)) 8,cn (jr (bf++(l.take k).map nm) (nm x)) 9,ck x]).getD 0
def fO {α:Type} (rm:Int) (bf:List ByteArray) (nm:α->ByteArray) (ck:α->Int) (l:List α):Int:=if rm<(l.length:Int) then 5 else jd (yp bf nm ck l) l.length
theorem RR.one {s d t p:Value} (h:RR w r s d t p):s.oneCell'=true/\d.oneCell'=true/\t.oneCell'=true/\p.oneCell'=true:=⟨Rd.one h.sr,Rd.one h.de,Rd.one h.ti,Rd.one h.po⟩
theorem pb {α:Type} {nm:α->ByteArray} {ck:α->Int} {l:List α} (h:k<l.length):yp bf nm ck l k=aZ [cn (!kR (nm l[k])) 8,cn (jr (bf++(l.take k).map nm) (nm l[k])) 9,ck l[k]]:=by
 unfold yp;rw [Zc h];rfl
def fQ (r:Ro) (m:Int):Int:=cn (decide (m<0)||decide (r.ma<=m)) 10
theorem GO {s d t p:Value} (m:Int) {w w1:World} (h:RR w1 r s d t p):aj T_ 136 [RA r s d t p,.q m] w (.q (fQ r m)):=by
 obtain ⟨h1,h2,h3,h4⟩:=h.one;unfold RA;refine ah func136 I I ?_
 (refine Jr<|Jy I I fun _ _=>Ja I<|Ji<|Jv I<|JA I<|Jv I<|iQ I I I I<|aF I I inferInstance (fun hg br=>(aq (.of I) ae)) I<|aF I I inferInstance (fun hg br=>(ag (.bF hg I) (At.lit .here I))) I<|aF I I inferInstance (fun hg br=>(AO (.bF hg I) (.bF hg I))) I<|ab (bA (.of I) I) I<|ai bb I (fun w' aB=>(eG _ 10 w'))<|Ja I<|Jn<|Je<|JT ?_)
 rfl
theorem LG (x:Sr) (w:World):aj T_ 139 [.agg x.cells.toArray] w (.string x.nm):=by
 unfold Sr.cells;refine ah func139 I I ?_
 (refine Jr<|Jy I I fun _ _=>Ja I<|Ji<|bJ I I ae<|JL I .here I<|Ja I<|Jn<|Je<|JT ?_)
 rfl
theorem ER (x:De) (w:World):aj T_ 124 [.agg x.cells.toArray] w (.string x.nm):=by
 unfold De.cells;refine ah func124 I I ?_
 (refine Jr<|Jy I I fun _ _=>Ja I<|Ji<|bJ I I ae<|JL I .here I<|Ja I<|Jn<|Je<|JT ?_)
 rfl
theorem LF (x:Ti) (w:World):aj T_ 119 [.agg x.cells.toArray] w (.string x.nm):=by
 unfold Ti.cells;refine ah func119 I I ?_
 (refine Jr<|Jy I I fun _ _=>Ja I<|Ji<|bJ I I ae<|JL I .here I<|Ja I<|Jn<|Je<|JT ?_)
 rfl
set_option maxHeartbeats 1000000 in
theorem DH {l:List Sr} (rm:Int) {ck:Sr->Int} {f1 f2:FuncId} {first2 cap:List Value} [bW T_ f1] [bW T_ f2] {w:World} (h:Rd w lv 2 (vk l)) (hb:Rd w bv 1 (gi bf)) (hn:bf.length+l.length<=1000)
  (xi:∀ x∈l,∀ w',aJ [] w w'->aj T_ f1 [.agg x.cells.toArray] w' (.string x.nm)) (xg:∀ x∈l,∀ w',aJ [] w w'->aj T_ f2 (first2++[.agg x.cells.toArray]++cap) w' (.q (ck x))) :
  aj T_ 138 [lv,.q rm,bv,.func (.func f1) #[] #[],.func (.func f2) first2.toArray cap.toArray] w (.q (fO rm bf Sr.nm ck l)):=by
 obtain ⟨a,cp,b,o,rfl,dd,bO,ha,hc⟩:=h;rw [cy] at *;unfold maxLen at bO;unfold fO;refine ah func138 I I ?_
 (refine Jr<|Ja I<|Jn<|Jq<|Jr<|Jv I<|JI I<|Jv I<|JE I<|Jn<|gm I (fun az=>?_) fun az=>?_;refine Jr<|Ja I<|Jn<|Ju<|JT ?_;rotate_left;refine Jk<|Jr<|Jv I ?_;rotate_right)
 ·rw [if_pos (by omega)]
 rw [if_neg (by omega)];refine JN bM I (fun w1 aT=>xE (hb.keeps aT.keeps) (by omega)) ?_;intro v0 _;dsimp only [id_eq,Zb,Za];refine Ja I<|Jn<|Jq<|Jr<|Jv I<|JI I<|Jv I<|Jn<|J0 ?_;refine aV (ι:=Nat×Value) (fun x=>x.1<=l.length/\∀ i,i<x.1->yp bf Sr.nm ck l i=0) (fun x=>[(24,.q x.1),(23,.q l.length),(22,.slice a l.length cp),(11,x.2),(3,.func (.func f1) #[] #[]),(4,.func (.func f2) first2.toArray cap.toArray)]) (fun x=>[row 9 1 x.2 (bf++(l.take x.1).map Sr.nm).length (aR (bf++(l.take x.1).map Sr.nm))]) (fun x=>l.length-x.1) ?_ ?_
 ·apply aI (0,v0) ⟨Zi _,fun i hi=>absurd hi (ZN _)⟩
  case hs1=>exact bS
  case ht=>
   rw [show bf++(l.take 0).map Sr.nm=bf by simp];exact .h1 .nil
 rintro ⟨k,v⟩ ⟨hk,hf⟩;dsimp only at hk hf ⊢;by_cases aK:k<l.length
 ·have cq:=ha (iF aK);have aC:=(hc k _ (fZ aK)).2;have zI:=xi _ (Zj aK);have gr:=xg _ (Zj aK);have hE:=pb (bf:=bf) (nm:=Sr.nm) (ck:=ck) aK;have htk:bf++(l.take (k+1)).map Sr.nm=(bf++(l.take k).map Sr.nm)++[(l[k]).nm]:=by
   rw [Zl aK,Zv,Zh];rfl
  have hlen:(bf++(l.take k).map Sr.nm).length=bf.length+k:=by
   rw [Zg,Zd,Zs];omega
  have MB:∀ (w':World),Rd w' v 1 (gi (bf++(l.take k).map Sr.nm))->aj T_ 179 [v,.string (l[k]).nm] w' (.bool (jr (bf++(l.take k).map Sr.nm) (l[k]).nm)):=fun w' hr=>pR _ hr
  generalize hB:bf++(l.take k).map Sr.nm=B at hE htk hlen MB ⊢;have nL:B.length=B.length:=rfl;generalize l[k]=x at aC zI gr hE htk MB;have ba:aR (B++[x.nm])=aR B++[.string x.nm]:=by rw [eT];rfl
  have Mf:(B++[x.nm]).length=B.length+1:=by simp
  unfold Sr.cells at aC zI gr
  (refine Jr<|JA I<|Jn<|Jq<|Jd I fun az=>Jk<|Jq<|J0<|Jr<|ab (fT cq az) I<|ab (iO (eZ.base aC I)) I<|Jz I I fun _ _=>ao (.of I) (.of I) .here I I (gO I I) (bz I) ak<|Ji<|Jv I<|ab (cm .here) I<|ai bM I (fun w' aB=>(zI w' (Mem.keeps aB)))<|Ja I<|Jn<|Jq<|Jq ?_)
  with_reducible refine cY 12 (by kernel_rfl) ?_
  (refine ar k8 I<|aX bM I (fun w' aB=>(ES _ w'))<|ar (dN (.of I)) I<|aX bb I (fun w' aB=>(eG _ 8 w'))<|ar k8 I<|ar k8 I<|aX bb I (fun w' aB=>(MB w' (dS aB (.there .here) nL)))<|aX bb I (fun w' aB=>(eG _ 9 w'))<|ar k8 I<|ar (cm .here) I<|aX bM I (fun w' aB=>(gr w' (Mem.keeps aB)))<|eC (aG (.o I (.o I (.o I .nil))) I I I I) I I ?_)
  with_reducible refine dA I fun bq ml=>?_
  (refine ai bM I (fun w' aB=>(ee (Mem.dz aB .here I I) (bY.cons (bY.cons (bY.cons bY.nil)))))<|Ja I<|Ji<|Jv I<|JD I<|Jn<|gm I (fun az=>?_) fun az=>?_;refine Jr<|Jv I<|Ja I<|Jn<|Ju<|Jm<|Jh<|Jh<|Jm<|Jh<|JT ?_;rotate_left;refine Jk<|Jg<|Jv I<|Jv I<|bj (aG (.o I .nil) I I I I) I fun _ _=>?_;rotate_right)
  ·rw [<- hE] at az ⊢;rw [eV hf aK az]
  have hz:yp bf Sr.nm ck l k=0:=by rw [hE];exact Zp.1 az
  refine bu (.of I) (.of I) cX .here ak (by rfl) (dR I) (by rfl) (by rfl) (by rfl) ed (by rfl) ?_;intro v';refine Ja I<|Jx<|Jj<|Jt<|Jg<|JB I (by omega)<|Jv I<|Jn ?_;apply aH (k+1,v') ⟨show k+1<=l.length by omega,fun i hi=>by
   by_cases e:i=k
   ·rw [e];exact hz
   ·exact hf i (by omega)⟩ (show l.length-(k+1)<l.length-k by omega)
  case hs1=>exact bS
  case ht=>
   show bB _ [row 9 1 v' (bf++(l.take (k+1)).map Sr.nm).length (aR (bf++(l.take (k+1)).map Sr.nm))] _;rw [htk,ba,Mf];exact .h1 .nil
 ·obtain rfl:k=l.length:=by omega
  refine Jr<|JA I<|Jn<|Jq<|Jc I fun az=>Jp<|Jl<|Jo<|Jt<|Jr<|Ja I<|Jn<|Je<|JT ?_;rw [dQ.2 hf]
set_option maxHeartbeats 1000000 in
theorem DI {l:List De} (rm:Int) {ck:De->Int} {f1 f2:FuncId} {first2 cap:List Value} [bW T_ f1] [bW T_ f2] {w:World} (h:Rd w lv 3 (u0 l)) (hb:Rd w bv 1 (gi bf)) (hn:bf.length+l.length<=1000)
  (xi:∀ x∈l,∀ w',aJ [] w w'->aj T_ f1 [.agg x.cells.toArray] w' (.string x.nm)) (xg:∀ x∈l,∀ w',aJ [] w w'->aj T_ f2 (first2++[.agg x.cells.toArray]++cap) w' (.q (ck x))) :
  aj T_ 141 [lv,.q rm,bv,.func (.func f1) #[] #[],.func (.func f2) first2.toArray cap.toArray] w (.q (fO rm bf De.nm ck l)):=by
 obtain ⟨a,cp,b,o,rfl,dd,bO,ha,hc⟩:=h;rw [cd] at *;unfold maxLen at bO;unfold fO;refine ah func141 I I ?_
 (refine Jr<|Ja I<|Jn<|Jq<|Jr<|Jv I<|JI I<|Jv I<|JE I<|Jn<|gm I (fun az=>?_) fun az=>?_;refine Jr<|Ja I<|Jn<|Ju<|JT ?_;rotate_left;refine Jk<|Jr<|Jv I ?_;rotate_right)
 ·rw [if_pos (by omega)]
 rw [if_neg (by omega)];refine JN bM I (fun w1 aT=>xE (hb.keeps aT.keeps) (by omega)) ?_;intro v0 _;dsimp only [id_eq,Zb,Za];refine Ja I<|Jn<|Jq<|Jr<|Jv I<|JI I<|Jv I<|Jn<|J0 ?_;refine aV (ι:=Nat×Value) (fun x=>x.1<=l.length/\∀ i,i<x.1->yp bf De.nm ck l i=0) (fun x=>[(24,.q x.1),(23,.q l.length),(22,.slice a l.length cp),(11,x.2),(3,.func (.func f1) #[] #[]),(4,.func (.func f2) first2.toArray cap.toArray)]) (fun x=>[row 9 1 x.2 (bf++(l.take x.1).map De.nm).length (aR (bf++(l.take x.1).map De.nm))]) (fun x=>l.length-x.1) ?_ ?_
 ·apply aI (0,v0) ⟨Zi _,fun i hi=>absurd hi (ZN _)⟩
  case hs1=>exact bS
  case ht=>
   rw [show bf++(l.take 0).map De.nm=bf by simp];exact .h1 .nil
 rintro ⟨k,v⟩ ⟨hk,hf⟩;dsimp only at hk hf ⊢;by_cases aK:k<l.length
 ·have cq:=ha (iq aK);have aC:=(hc k _ (fR aK)).2;have zI:=xi _ (Zj aK);have gr:=xg _ (Zj aK);have hE:=pb (bf:=bf) (nm:=De.nm) (ck:=ck) aK;have htk:bf++(l.take (k+1)).map De.nm=(bf++(l.take k).map De.nm)++[(l[k]).nm]:=by
   rw [Zl aK,Zv,Zh];rfl
  have hlen:(bf++(l.take k).map De.nm).length=bf.length+k:=by
   rw [Zg,Zd,Zs];omega
  have MB:∀ (w':World),Rd w' v 1 (gi (bf++(l.take k).map De.nm))->aj T_ 179 [v,.string (l[k]).nm] w' (.bool (jr (bf++(l.take k).map De.nm) (l[k]).nm)):=fun w' hr=>pR _ hr
  generalize hB:bf++(l.take k).map De.nm=B at hE htk hlen MB ⊢;have nL:B.length=B.length:=rfl;generalize l[k]=x at aC zI gr hE htk MB;have ba:aR (B++[x.nm])=aR B++[.string x.nm]:=by rw [eT];rfl
  have Mf:(B++[x.nm]).length=B.length+1:=by simp
  unfold De.cells at aC zI gr
  (refine Jr<|JA I<|Jn<|Jq<|Jd I fun az=>Jk<|Jq<|J0<|Jr<|ab (fT cq az) I<|ab (iO (eZ.base aC I)) I<|Jz I I fun _ _=>ao (.of I) (.of I) .here I I (fx I I I) (bz I) ak<|Ji<|Jv I<|ab (cm .here) I<|ai bM I (fun w' aB=>(zI w' (Mem.keeps aB)))<|Ja I<|Jn<|Jq<|Jq ?_)
  with_reducible refine cY 12 (by kernel_rfl) ?_
  (refine ar k8 I<|aX bM I (fun w' aB=>(ES _ w'))<|ar (dN (.of I)) I<|aX bb I (fun w' aB=>(eG _ 8 w'))<|ar k8 I<|ar k8 I<|aX bb I (fun w' aB=>(MB w' (dS aB (.there .here) nL)))<|aX bb I (fun w' aB=>(eG _ 9 w'))<|ar k8 I<|ar (cm .here) I<|aX bM I (fun w' aB=>(gr w' (Mem.keeps aB)))<|eC (aG (.o I (.o I (.o I .nil))) I I I I) I I ?_)
  with_reducible refine dA I fun bq ml=>?_
  (refine ai bM I (fun w' aB=>(ee (Mem.dz aB .here I I) (bY.cons (bY.cons (bY.cons bY.nil)))))<|Ja I<|Ji<|Jv I<|JD I<|Jn<|gm I (fun az=>?_) fun az=>?_;refine Jr<|Jv I<|Ja I<|Jn<|Ju<|Jm<|Jh<|Jh<|Jm<|Jh<|JT ?_;rotate_left;refine Jk<|Jg<|Jv I<|Jv I<|bj (aG (.o I .nil) I I I I) I fun _ _=>?_;rotate_right)
  ·rw [<- hE] at az ⊢;rw [eV hf aK az]
  have hz:yp bf De.nm ck l k=0:=by rw [hE];exact Zp.1 az
  refine bu (.of I) (.of I) cX .here ak (by rfl) (dR I) (by rfl) (by rfl) (by rfl) ed (by rfl) ?_;intro v';refine Ja I<|Jx<|Jj<|Jt<|Jg<|JB I (by omega)<|Jv I<|Jn ?_;apply aH (k+1,v') ⟨show k+1<=l.length by omega,fun i hi=>by
   by_cases e:i=k
   ·rw [e];exact hz
   ·exact hf i (by omega)⟩ (show l.length-(k+1)<l.length-k by omega)
  case hs1=>exact bS
  case ht=>
   show bB _ [row 9 1 v' (bf++(l.take (k+1)).map De.nm).length (aR (bf++(l.take (k+1)).map De.nm))] _;rw [htk,ba,Mf];exact .h1 .nil
 ·obtain rfl:k=l.length:=by omega
  refine Jr<|JA I<|Jn<|Jq<|Jc I fun az=>Jp<|Jl<|Jo<|Jt<|Jr<|Ja I<|Jn<|Je<|JT ?_;rw [dQ.2 hf]
set_option maxHeartbeats 1000000 in
theorem DG {l:List Ti} (rm:Int) {ck:Ti->Int} {f1 f2:FuncId} {first2 cap:List Value} [bW T_ f1] [bW T_ f2] {w:World} (h:Rd w lv 3 (uS l)) (hb:Rd w bv 1 (gi bf)) (hn:bf.length+l.length<=1000)
  (xi:∀ x∈l,∀ w',aJ [] w w'->aj T_ f1 [.agg x.cells.toArray] w' (.string x.nm)) (xg:∀ x∈l,∀ w',aJ [] w w'->aj T_ f2 (first2++[.agg x.cells.toArray]++cap) w' (.q (ck x))) :
  aj T_ 144 [lv,.q rm,bv,.func (.func f1) #[] #[],.func (.func f2) first2.toArray cap.toArray] w (.q (fO rm bf Ti.nm ck l)):=by
 obtain ⟨a,cp,b,o,rfl,dd,bO,ha,hc⟩:=h;rw [bV] at *;unfold maxLen at bO;unfold fO;refine ah func144 I I ?_
 (refine Jr<|Ja I<|Jn<|Jq<|Jr<|Jv I<|JI I<|Jv I<|JE I<|Jn<|gm I (fun az=>?_) fun az=>?_;refine Jr<|Ja I<|Jn<|Ju<|JT ?_;rotate_left;refine Jk<|Jr<|Jv I ?_;rotate_right)
 ·rw [if_pos (by omega)]
 rw [if_neg (by omega)];refine JN bM I (fun w1 aT=>xE (hb.keeps aT.keeps) (by omega)) ?_;intro v0 _;dsimp only [id_eq,Zb,Za];refine Ja I<|Jn<|Jq<|Jr<|Jv I<|JI I<|Jv I<|Jn<|J0 ?_;refine aV (ι:=Nat×Value) (fun x=>x.1<=l.length/\∀ i,i<x.1->yp bf Ti.nm ck l i=0) (fun x=>[(24,.q x.1),(23,.q l.length),(22,.slice a l.length cp),(11,x.2),(3,.func (.func f1) #[] #[]),(4,.func (.func f2) first2.toArray cap.toArray)]) (fun x=>[row 9 1 x.2 (bf++(l.take x.1).map Ti.nm).length (aR (bf++(l.take x.1).map Ti.nm))]) (fun x=>l.length-x.1) ?_ ?_
 ·apply aI (0,v0) ⟨Zi _,fun i hi=>absurd hi (ZN _)⟩
  case hs1=>exact bS
  case ht=>
   rw [show bf++(l.take 0).map Ti.nm=bf by simp];exact .h1 .nil
 rintro ⟨k,v⟩ ⟨hk,hf⟩;dsimp only at hk hf ⊢;by_cases aK:k<l.length
 ·have cq:=ha (fm aK);have aC:=(hc k _ (ei aK)).2;have zI:=xi _ (Zj aK);have gr:=xg _ (Zj aK);have hE:=pb (bf:=bf) (nm:=Ti.nm) (ck:=ck) aK;have htk:bf++(l.take (k+1)).map Ti.nm=(bf++(l.take k).map Ti.nm)++[(l[k]).nm]:=by
   rw [Zl aK,Zv,Zh];rfl
  have hlen:(bf++(l.take k).map Ti.nm).length=bf.length+k:=by
   rw [Zg,Zd,Zs];omega
  have MB:∀ (w':World),Rd w' v 1 (gi (bf++(l.take k).map Ti.nm))->aj T_ 179 [v,.string (l[k]).nm] w' (.bool (jr (bf++(l.take k).map Ti.nm) (l[k]).nm)):=fun w' hr=>pR _ hr
  generalize hB:bf++(l.take k).map Ti.nm=B at hE htk hlen MB ⊢;have nL:B.length=B.length:=rfl;generalize l[k]=x at aC zI gr hE htk MB;have ba:aR (B++[x.nm])=aR B++[.string x.nm]:=by rw [eT];rfl
  have Mf:(B++[x.nm]).length=B.length+1:=by simp
  unfold Ti.cells at aC zI gr
  (refine Jr<|JA I<|Jn<|Jq<|Jd I fun az=>Jk<|Jq<|J0<|Jr<|ab (fT cq az) I<|ab (iO (eZ.base aC I)) I<|Jz I I fun _ _=>ao (.of I) (.of I) .here I I (fx I I I) (bz I) ak<|Ji<|Jv I<|ab (cm .here) I<|ai bM I (fun w' aB=>(zI w' (Mem.keeps aB)))<|Ja I<|Jn<|Jq<|Jq ?_)
  with_reducible refine cY 12 (by kernel_rfl) ?_
  (refine ar k8 I<|aX bM I (fun w' aB=>(ES _ w'))<|ar (dN (.of I)) I<|aX bb I (fun w' aB=>(eG _ 8 w'))<|ar k8 I<|ar k8 I<|aX bb I (fun w' aB=>(MB w' (dS aB (.there .here) nL)))<|aX bb I (fun w' aB=>(eG _ 9 w'))<|ar k8 I<|ar (cm .here) I<|aX bM I (fun w' aB=>(gr w' (Mem.keeps aB)))<|eC (aG (.o I (.o I (.o I .nil))) I I I I) I I ?_)
  with_reducible refine dA I fun bq ml=>?_
  (refine ai bM I (fun w' aB=>(ee (Mem.dz aB .here I I) (bY.cons (bY.cons (bY.cons bY.nil)))))<|Ja I<|Ji<|Jv I<|JD I<|Jn<|gm I (fun az=>?_) fun az=>?_;refine Jr<|Jv I<|Ja I<|Jn<|Ju<|Jm<|Jh<|Jh<|Jm<|Jh<|JT ?_;rotate_left;refine Jk<|Jg<|Jv I<|Jv I<|bj (aG (.o I .nil) I I I I) I fun _ _=>?_;rotate_right)
  ·rw [<- hE] at az ⊢;rw [eV hf aK az]
  have hz:yp bf Ti.nm ck l k=0:=by rw [hE];exact Zp.1 az
  refine bu (.of I) (.of I) cX .here ak (by rfl) (dR I) (by rfl) (by rfl) (by rfl) ed (by rfl) ?_;intro v';refine Ja I<|Jx<|Jj<|Jt<|Jg<|JB I (by omega)<|Jv I<|Jn ?_;apply aH (k+1,v') ⟨show k+1<=l.length by omega,fun i hi=>by
   by_cases e:i=k
   ·rw [e];exact hz
   ·exact hf i (by omega)⟩ (show l.length-(k+1)<l.length-k by omega)
  case hs1=>exact bS
  case ht=>
   show bB _ [row 9 1 v' (bf++(l.take (k+1)).map Ti.nm).length (aR (bf++(l.take (k+1)).map Ti.nm))] _;rw [htk,ba,Mf];exact .h1 .nil
 ·obtain rfl:k=l.length:=by omega
  refine Jr<|JA I<|Jn<|Jq<|Jc I fun az=>Jp<|Jl<|Jo<|Jt<|Jr<|Ja I<|Jn<|Je<|JT ?_;rw [dQ.2 hf]
end Go.Proofs.A1
namespace Go.SL
open Go
section
variable {P:Program} {c:Cx} {sl:aL} {hs:List bd} {dst:Option Tmp} {ty:TypeId} {pos:String} {af:Array Edge} {g:Option (Nat×Bool)}
variable {κ:Type} [DecidableEq κ] {kv:κ->Value} {kind:TypeDesc}
theorem EC {t kt et:TypeId} {x y:Operand} {b:Nat} {k:κ} {l:List (κ×Value)} {z:Value} [hu:ja P t (.map kt et)] [H6:ja P kt kind] [hz:mn P et z] (hk:KeyLaw kind kv) (hx:Is sl x (.map (some b))) (hy:Is sl y (kv k)) (hl:Looks c hs b kv l) :
  di P c sl hs ⟨dst,.lookup t x y true,ty,pos,af,g⟩ (.tuple #[(fc k l).getD z,.bool (fc k l).isSome]):=
 ⟨by
   simp,fun a w ha hm=>by
  obtain ⟨es,ck,h1,h2⟩:=hl w hm;have hg:(getObj b).run P w=.ok (.map es ck) w:=by simp [getObj,Sem.run,h1]
  have uG:=hk.flat P kt es.isEmpty w k H6.eq;rcases findNow_spec hk k es.toList l 0 h2.eq with ⟨a1,a2⟩ | ⟨j,v,a1,a2,_⟩
  ·have:(Instr.findKey kt (kv k) es.toList).run P w=.ok none w:=by
    simp [Instr.findKey,aY H6.eq,a2]
   simp [execOp,hx a ha,hy a ha,Instr.lookup,aY hu.eq,hg,uG,this,a1,jc (t:=et) (v:=z)]
  ·have:(Instr.findKey kt (kv k) es.toList).run P w=.ok (some (0+j,v)) w:=by
    simp [Instr.findKey,aY H6.eq,a2]
   simp [execOp,hx a ha,hy a ha,Instr.lookup,aY hu.eq,hg,uG,this,a1]⟩
end
end Go.SL
namespace Go.Proofs.A1
open Go Go.SL
open Tryz
open Tryz renaming prog->T_
def mq (a b c:Int):Value:=.agg #[.q a,.q b,.q c]
abbrev PM:=List (ByteArray×Value)
def xW (l:List Sr):Nat->PM
 | 0=>[]
 | k + 1 => match l[k]? with
  | some x=>nG x.nm (mq (-1) (-1) x.mx) (xW l k)
  | none=>xW l k
def D4 (m:PM) (l:List De):Nat->PM
 | 0=>m
 | k + 1 => match l[k]? with
  | some x=>nG x.nm (mq (k:Nat) x.mx (-1)) (D4 m l k)
  | none=>D4 m l k
def N4 (m:PM) (n:Nat) (l:List Ti):Nat->PM
 | 0=>m
 | k + 1 => match l[k]? with
  | some x=>nG x.nm (mq ((n:Int)+(k:Nat)) x.fr x.to) (N4 m n l k)
  | none=>N4 m n l k
def pe (r:Ro):PM:=N4 (D4 (xW r.sr r.sr.length) r.de r.de.length) r.de.length r.ti r.ti.length
variable {K:Nat} {d:Value} {k:Nat} {o:ByteArray} {p:Value} {po:List Po} {r:Ro} {s t:Value} {v:Int} {w w':World}
theorem Lj {l:List Sr} (h:k<l.length):xW l (k+1)=nG (l[k]).nm (mq (-1) (-1) (l[k]).mx) (xW l k):=by rw [xW,Zc h]
theorem Lk {m:PM} {l:List De} (h:k<l.length):D4 m l (k+1)=nG (l[k]).nm (mq (k:Nat) (l[k]).mx (-1)) (D4 m l k):=by rw [D4,Zc h]
theorem Li {m:PM} {n:Nat} {l:List Ti} (h:k<l.length):N4 m n l (k+1)=nG (l[k]).nm (mq ((n:Int)+(k:Nat)) (l[k]).fr (l[k]).to) (N4 m n l k):=by rw [N4,Zc h]
set_option maxHeartbeats 1000000 in
theorem Gk (h:RR w r s d t p) (cZ:r.de.length+r.ti.length<=1000000):a8 T_ 186 [RA r s d t p] w [] (fun _:Nat=>True) (fun b=>.map (some b)) (fun b=>[mp (fun s:ByteArray=>Value.string s) b (pe r)]):=by
 obtain ⟨h1,h2,h3,h4⟩:=h.one;have hs:=h.sr;have hd:=h.de;have yt:=h.ti;obtain ⟨a1,eo,I7,IU,rfl,oC,ix,mm,kL⟩:=hs;obtain ⟨a2,c6,I6,IT,rfl,kd,eU,jV,ke⟩:=hd;obtain ⟨a3,dT,Ha,Gp,rfl,mP,gF,rN,oR⟩:=yt;rw [cy] at *;rw [cd] at *;rw [bV] at *;unfold maxLen at ix eU gF;unfold RA;refine aS func186 I I ?_;refine Jr<|Jy I I fun _ _=>Ja I<|Ji ?_;rename_i b1 tT;refine Ch I ?_;intro bm hbm
 (refine Ja I<|Jn<|Jq<|Jr<|bJ I I ae<|JL I (.there .here) I<|JI I<|Jv I<|Jn<|J0 ?_)
 refine aV (fun k:Nat=>k<=r.sr.length) (fun k=>[(14,.q k),(13,.q r.sr.length),(12,.slice a1 r.sr.length eo),(3,.map (some bm)),(1,.p b1)]) (fun k=>[mp (fun s:ByteArray=>Value.string s) bm (xW r.sr k),JP b1 r (.slice a1 r.sr.length eo) (.slice a2 r.de.length c6) (.slice a3 r.ti.length dT) p]) (fun k=>r.sr.length-k) ?_ ?_
 ·apply aI 0 (show 0<=r.sr.length from Zi _)
  case hs1=>exact bS
  case ht=>
   exact .h2 .nil
 intro k hk;by_cases aK:k<r.sr.length
 ·have cq:=mm (iF aK);have aC:=(kL k _ (fZ aK)).2;have gQ:xW r.sr (k+1)=_:=Lj aK;unfold Sr.cells at aC;unfold mq at gQ;generalize r.sr[k]=x at aC gQ
  (refine Jr<|JA I<|Jn<|Jq<|Jd I fun az=>Jk<|Jq<|J0<|Jr<|ab (fT cq az) I<|ab (iO (eZ.base aC I)) I<|Jz I I fun _ _=>ao (.of I) (.of I) .here I I (gO I I) (bz I) ak<|Jn<|Jg<|Jv I<|bJ I I ae<|JL I .here I<|bJ I I ae<|JL I .here I<|ab (aU (.o I (.o I (.o I .nil))) ak) I ?_)
  refine nP LV (.of I) (.of I) (.of I) (.there .here) ?_;refine Jx<|Jj<|Jt<|Jg<|JB I (by omega)<|Jv I<|Jn ?_;apply aH (k+1) (show k+1<=r.sr.length by omega) (show r.sr.length-(k+1)<r.sr.length-k by omega)
  case hs1=>exact bS
  case ht=>
   show bB _ [mp (fun s:ByteArray=>Value.string s) bm (xW r.sr (k+1)),JP b1 r (.slice a1 r.sr.length eo) (.slice a2 r.de.length c6) (.slice a3 r.ti.length dT) p] _
   rw [gQ];exact .h1 (.cons (.there .here) .nil)
 obtain rfl:k=r.sr.length:=by omega
 (refine Jr<|JA I<|Jn<|Jq<|Jc I fun az=>Jp<|Jl<|Jo<|Jt<|Jq<|Jr<|bJ I I ae<|JL I (.there .here) I<|JI I<|Jv I<|Jn<|J0 ?_)
 refine aV (fun k:Nat=>k<=r.de.length) (fun k=>[(28,.q k),(27,.q r.de.length),(26,.slice a2 r.de.length c6),(3,.map (some bm)),(1,.p b1)]) (fun k=>[mp (fun s:ByteArray=>Value.string s) bm (D4 (xW r.sr r.sr.length) r.de k),JP b1 r (.slice a1 r.sr.length eo) (.slice a2 r.de.length c6) (.slice a3 r.ti.length dT) p]) (fun k=>r.de.length-k) ?_ ?_
 ·apply aI 0 (show 0<=r.de.length from Zi _)
  case hs1=>exact bS
  case ht=>
   exact .h2 .nil
 intro k hk;by_cases aK:k<r.de.length
 ·have cq:=jV (iq aK);have aC:=(ke k _ (fR aK)).2;have gQ:D4 (xW r.sr r.sr.length) r.de (k+1)=_:=Lk aK;unfold De.cells at aC;unfold mq at gQ;generalize r.de[k]=x at aC gQ
  (refine Jr<|JA I<|Jn<|Jq<|Jd I fun az=>Jk<|Jq<|J0<|Jr<|Jv I<|ab (fT cq az) I<|ab (iO (eZ.base aC I)) I<|Jz I I fun _ _=>Ja I<|ao (.of I) (.of I) .here I I (fx I I I) (bz I) ak<|Jn<|Jg<|Jv I<|bJ I I ae<|JL I .here I<|Jv I<|bJ I I ae<|JL I .here I<|ab (aU (.o I (.o I (.o I .nil))) ak) I ?_)
  refine nP LV (.of I) (.of I) (.of I) (.there .here) ?_;refine Jx<|Jj<|Jt<|Jg<|JB I (by omega)<|Jv I<|Jn ?_;apply aH (k+1) (show k+1<=r.de.length by omega) (show r.de.length-(k+1)<r.de.length-k by omega)
  case hs1=>exact bS
  case ht=>
   show bB _ [mp (fun s:ByteArray=>Value.string s) bm (D4 (xW r.sr r.sr.length) r.de (k+1)),JP b1 r (.slice a1 r.sr.length eo) (.slice a2 r.de.length c6) (.slice a3 r.ti.length dT) p] _
   rw [gQ];exact .h1 (.cons (.there .here) .nil)
 obtain rfl:k=r.de.length:=by omega
 (refine Jr<|JA I<|Jn<|Jq<|Jc I fun az=>Jp<|Jl<|Jo<|Jt<|Jq<|Jr<|bJ I I ae<|JL I (.there .here) I<|JI I<|Jv I<|Jn<|J0 ?_)
 refine aV (fun k:Nat=>k<=r.ti.length) (fun k=>[(44,.q k),(43,.q r.ti.length),(42,.slice a3 r.ti.length dT),(3,.map (some bm)),(1,.p b1)]) (fun k=>[mp (fun s:ByteArray=>Value.string s) bm (N4 (D4 (xW r.sr r.sr.length) r.de r.de.length) r.de.length r.ti k),JP b1 r (.slice a1 r.sr.length eo) (.slice a2 r.de.length c6) (.slice a3 r.ti.length dT) p]) (fun k=>r.ti.length-k) ?_ ?_
 ·apply aI 0 (show 0<=r.ti.length from Zi _)
  case hs1=>exact bS
  case ht=>
   exact .h2 .nil
 intro k hk;by_cases aK:k<r.ti.length
 ·have cq:=rN (fm aK);have aC:=(oR k _ (ei aK)).2;have gQ:N4 (D4 (xW r.sr r.sr.length) r.de r.de.length) r.de.length r.ti (k+1)=_:=Li aK;unfold Ti.cells at aC;unfold mq at gQ;generalize r.ti[k]=x at aC gQ
  (refine Jr<|JA I<|Jn<|Jq<|Jd I fun az=>Jk<|Jq<|J0<|Jr<|Jv I<|ab (fT cq az) I<|ab (iO (eZ.base aC I)) I<|Jz I I fun _ _=>Ja I<|ao (.of I) (.of I) .here I I (fx I I I) (bz I) ak<|Jn<|Jg<|Jv I<|bJ I I ae<|JL I .here I<|bJ I I ae<|JL I bL I<|JI I<|Jv I<|JB I (by omega)<|bJ I I ae<|JL I .here I<|bJ I I ae<|JL I .here I<|ab (aU (.o I (.o I (.o I .nil))) ak) I ?_)
  refine nP LV (.of I) (.of I) (.of I) (.there .here) ?_;refine Jx<|Jj<|Jt<|Jg<|JB I (by omega)<|Jv I<|Jn ?_;apply aH (k+1) (show k+1<=r.ti.length by omega) (show r.ti.length-(k+1)<r.ti.length-k by omega)
  case hs1=>exact bS
  case ht=>
   show bB _ [mp (fun s:ByteArray=>Value.string s) bm (N4 (D4 (xW r.sr r.sr.length) r.de r.de.length) r.de.length r.ti (k+1)),JP b1 r (.slice a1 r.sr.length eo) (.slice a2 r.de.length c6) (.slice a3 r.ti.length dT) p] _
   rw [gQ];exact .h1 (.cons (.there .here) .nil)
 obtain rfl:k=r.ti.length:=by omega
 refine Jr<|JA I<|Jn<|Jq<|Jc I fun az=>Jp<|Jl<|Jo<|Jt<|Jr<|Jv I<|Ja I<|Jn<|Je ?_
 with_reducible first|apply aO|apply aQ
 case he=>exact dB I I
 case hR=>
  intro w' aB;exact aD bm trivial (show bB _ [mp (fun s:ByteArray=>Value.string s) bm (pe r)] _ from by unfold pe;exact .h1 .nil) aB I
theorem cJ {a:Addr} {v:Value} (h:w.cell? a=some v) (hs:a.spot=none) (hk:aJ [] w w'):w'.cell? a=some v:=by
 have hb:=World.block_lt_of_cell? w a h;obtain ⟨b,o,s⟩:=a;subst hs;have:=hk.block b hb (by simp);rw [<- h];simp [World.cell?,this]
theorem fV {P:Program} {c:Cx} {sl:aL} {hs:List bd} {dst:Option Tmp} {ty:TypeId} {pos:String} {af:Array Edge} {g:Option (Nat×Bool)} {x y z:Operand} {q:Bool} {v u V:Value} (hx:Is sl x (.bool q)) (hy:Is sl y v) (hz:Is sl z u) (e:(bif q then v else u)=V):di P c sl hs ⟨dst,.pick x y z,ty,pos,af,g⟩ V:=e ▸ vm hx hy hz
theorem qt {α:Type} (p:α->Bool) (l:List α):(iN p l = -1/\l.find? p=none)\/∃ i,∃ h:i<l.length,iN p l=(i:Nat)/\l.find? p=some l[i]:=by
 cases hf:l.find? p with
 | none =>
  rw [ZaL] at hf;refine .inl ⟨fS fun i hi=>?_,I⟩;simpa [hi] using hf l[i] (Zj hi)
 | some x =>
  obtain ⟨hp,i,hi,rfl,hb⟩:=ZaD.1 hf;refine .inr ⟨i,hi,gP (fun j hj=>?_) hi hp,I⟩;have:=hb j hj;simpa [show j<l.length by omega] using this
theorem Uc (x:Po) {b1 b2:Nat} {v:Int} {o:ByteArray} {w:World} (f1:w.cell? ⟨b1,0,none⟩=some (.q v)) (f2:w.cell? ⟨b2,0,none⟩=some (.string o)) :
  aj T_ 298 [.agg x.cells.toArray,.p b1,.p b2] w (.bool (Fz v o x)):=by
 unfold Po.cells;refine ah func298 I I ?_
 (refine Jr<|Jy I I fun _ _=>Ja I<|Ji<|ab (cm .here) I<|ab (ag (.of I) (At.base f1 I)) I<|ab (ag (.of I) (At.base f2 I)) I<|bJ I I ae<|JL I .here I<|ab (aU (.o I (.o I (.o I .nil))) ak) I<|ab (vo (.of I) (.of I) (kI (fX (fX mJ))) I) I<|Ja I<|Jn<|Je<|JT ?_)
 simp [Fz]
theorem Td (x:Po) {b1 b2:Nat} {v:Int} {o:ByteArray} {w:World} (f1:w.cell? ⟨b1,0,none⟩=some (.q v)) (f2:w.cell? ⟨b2,0,none⟩=some (.string o)) :
  aj T_ 302 [.agg x.cells.toArray,.p b1,.p b2] w (.bool (yr v o x)):=by
 unfold Po.cells;refine ah func302 I I ?_
 (refine Jr<|Jy I I fun _ _=>Ja I<|Ji<|ab (cm .here) I<|ab (ag (.of I) (At.base f1 I)) I<|bJ I I ae<|JL I .here I<|ab (ag (.of I) (At.base f2 I)) I<|ab (aU (.o I (.o I (.o I .nil))) ak) I<|ab (vo (.of I) (.of I) (kI (fX (fX mJ))) I) I<|Ja I<|Jn<|Je<|JT ?_)
 simp [yr]
theorem Bb (v:Int) (o:ByteArray) {w:World} (h:RR w r s d t p):aj T_ 223 [RA r s d t p,.q v,.string o] w (.tuple #[.string ((eD r.po v o).getD ⟨#[]⟩),.bool (eD r.po v o).isSome]):=by
 have h1:=Rd.one h.sr;have h2:=Rd.one h.de;have h3:=Rd.one h.ti;have hp:=h.po;obtain ⟨a,cp,b,o',rfl,dd,bO,ha,hc⟩:=hp;rw [cR] at *;unfold maxLen at bO;unfold RA;refine ah func223 I I ?_
 (refine Jr<|Jy I I fun _ _=>Jy I I fun _ _=>Jy I I fun _ _=>Ja I<|Ja I<|Ji<|bJ I I ae<|JL I bL I<|ab (bD .nil (.o I (.o I .nil))) I ?_)
 rename_i b3 tr b4 tS b5 Ia
 with_reducible apply ai
 case hr=>exact bb
 case hd=>rfl
 case hc=>
  intro w' aB;have f1:w'.cell? ⟨b4,0,none⟩=some (.q v):=At.lit (by exact Take.there .here) I w' aB;have f2:w'.cell? ⟨b5,0,none⟩=some (.string o):=At.lit (by exact .here) I w' aB
  exact Bc (f:=298) (p:=Fz v o) (first:=[]) (cap:=[.p b4,.p b5]) (h.po.keeps aB.keeps)
   (fun x hx w2 fq=>Uc x (cJ f1 I fq) (cJ f2 I fq))
 have mN:eD r.po v o=(r.po.find? (Fz v o)).map Po.ip:=rfl;rcases qt (Fz v o) r.po with ⟨e1,e2⟩ | ⟨i,hi,e1,e2⟩
 ·rw [e1];rw [e2] at mN;rw [mN];refine Ja I<|Jn<|Jq<|Jr<|Jv I<|JA I<|Jn<|Jd I fun az=>Jr<|Ja I<|Ja I<|Jn<|Ju<|qe I (gH I I I) ?_
  rfl
 ·rw [e1];rw [e2] at mN;rw [mN];have cq:=ha (j8 hi);have aC:=(hc i _ (ie hi)).2;unfold Po.cells at aC;have ke:=aC 2 _ I
  (refine Ja I<|Jn<|Jq<|Jr<|Jv I<|JA I<|Jn<|Jc I fun az=>Jk<|Jr<|bJ I I ae<|JL I bL I<|Jv I<|ab (an (.of I) (.of I) cq (by omega) (by omega) aW) I<|bJ I I ae<|ab (ag (.of I) (At.base ke I)) I<|Ja I<|Ja I<|Jn<|Je<|qe I (gH I I I) ?_)
  rfl
theorem Ke (v:Int) (o:ByteArray) {w:World} (h:RR w r s d t p):aj T_ 239 [RA r s d t p,.q v,.string o] w (.bool (nf r.po v o)):=by
 obtain ⟨h1,h2,h3,h4⟩:=h.one;unfold RA;refine ah func239 I I ?_
 (refine Jr<|Jy I I fun _ _=>Jy I I fun _ _=>Jy I I fun _ _=>Ja I<|Ji<|bJ I I ae<|JL I bL I<|ab (bD .nil (.o I (.o I .nil))) I ?_)
 rename_i b3 tr b4 tS b5 Ia
 with_reducible apply ai
 case hr=>exact bb
 case hd=>rfl
 case hc=>
  intro w' aB;have f1:w'.cell? ⟨b4,0,none⟩=some (.q v):=At.lit (by exact Take.there .here) I w' aB;have f2:w'.cell? ⟨b5,0,none⟩=some (.string o):=At.lit (by exact .here) I w' aB
  exact QH (f:=302) (p:=yr v o) (first:=[]) (cap:=[.p b4,.p b5]) (h.po.keeps aB.keeps)
   (fun x hx w2 fq=>Td x (cJ f1 I fq) (cJ f2 I fq))
 refine Ja I<|Jn<|Je<|JT ?_
 rfl
theorem wA (v:Int) (o:ByteArray) {w w1:World} (h:RR w1 r s d t p) :
  a8 T_ 116 [RA r s d t p,.q v,.string o] w [] (fun _:Nat×Nat×Nat=>True) (fun x=>.func (.func 222) #[] #[.pointer (some ⟨x.1,0,none⟩),.pointer (some ⟨x.2.1,0,none⟩),.pointer (some ⟨x.2.2,0,none⟩)])
   (fun x=>[bE x.1 (.cells #[.string o] 9 (0,0)),JP x.2.1 r s d t p,bE x.2.2 (.cells #[.q v] 3 (0,0))]):=by
 obtain ⟨h1,h2,h3,h4⟩:=h.one;unfold RA;refine aS func116 I I ?_
 (refine Jr<|Jy I I fun _ _=>Jy I I fun _ _=>Jy I I fun _ _=>Ja I<|Ji<|ab (bD .nil (.o I (.o I (.o I .nil)))) I<|Ja I<|Jn<|Je ?_)
 rename_i b3 tr b4 tS b5 Ia
 with_reducible first|apply aO|apply aQ
 case he=>exact dB I I
 case hR=>
  intro w' aB;exact aD (b5,b3,b4) trivial (by exact .h1 (.cons (.there .here) (.h1 .nil))) aB I
structure RO (md:List Nat) (r:Ro) (s d t p:Value):Prop where
 sr:Out md s (vk r.sr)
 de:Out md d (u0 r.de)
 ti:Out md t (uS r.ti)
 po:Out md p (tG r.po)
theorem RO.nil {r:Ro} {s d t p:Value}:RO [] r s d t p:=⟨Out.nil _ _,Out.nil _ _,Out.nil _ _,Out.nil _ _⟩
theorem RR.ka {md:List Nat} (h:RR w r s d t p) (hn:RO md r s d t p) (hk:aJ md w w'):RR w' r s d t p:=⟨h.sr.ka hn.sr hk,h.de.ka hn.de hk,h.ti.ka hn.ti hk,h.po.ka hn.po hk⟩
theorem RR.out {md fp:List Nat} {w0:World} (h:RR w0 r s d t p) (hn:RO md r s d t p) (hF:∀ b∈fp,b∈md\/w0.heap.size<=b):RO fp r s d t p:=⟨h.sr.out (by omega) hn.sr hF,h.de.out (by omega) hn.de hF,h.ti.out (by omega) hn.ti hF,h.po.out (by omega) hn.po hF⟩
def yq (po:List Po) (v:Int) (k:Nat) (o:ByteArray):List (List Value):=(fJ po v k o).map fun x=>[.string x]
theorem si (po:List Po) (v:Int) (k:Nat) (o:ByteArray):(yq po v k o).length=(fJ po v k o).length:=by simp [yq]
theorem wZ {o a:ByteArray} (h:mM po v k o=some a):mM po v (k+1) o=eD po v a:=by
 rw [kJ,h];show (eD po v a).bind (mM po v 0)=_;cases eD po v a <;> rfl
theorem G9 {o a:ByteArray} (h:mM po v k o=some a) (hk:k<=K) (hn:eD po v a=none\/k=K):(fJ po v K o).length=k:=by
 have hl:=kM po v K o;have h1:k<=(fJ po v K o).length:=by
  cases k with
  | zero=>exact Zi _
  | succ k =>
   have:=om (po:=po) (v:=v) (o:=o) (show k<K by omega);rw [h] at this;exact (Zn.1 this).1
 rcases hn with hn | rfl
 ·by_cases e:k=K
  ·omega
  ·have:=om (po:=po) (v:=v) (o:=o) (show k<K by omega);rw [wZ h,hn,List.getElem?_eq_none_iff] at this;omega
 ·omega
theorem PD {o a i:ByteArray} (h:mM po v k o=some a) (hk:k<K) (hi:eD po v a=some i):(yq po v K o)[k]? = some [.string i]:=by
 unfold yq;rw [ZE,om hk,wZ h,hi];rfl
set_option maxHeartbeats 1000000 in
theorem EL {b1 b2 b3:Nat} (v:Int) (o:ByteArray) {w0 w:World} {md:List Nat} (h:RR w0 r s d t p) (hn:RO md r s d t p) (cZ:r.ti.length<=1000000) :
  Iter T_ 222 [] [.p b1,.p b2,.p b3] [bE b1 (.cells #[.string o] 9 (0,0)),JP b2 r s d t p,bE b3 (.cells #[.q v] 3 (0,0))] (yq r.po v (r.ti.length+1) o) w0 md w:=by
 intro l fp J E hB hF jw hs hy;have hR:=h.ka hn hB;have hO:=h.out hn hF;rw [si];have h1:=Rd.one hR.sr;have h2:=Rd.one hR.de;have h4:=Rd.one hR.po;have hti:=hR.ti;obtain ⟨a,cp,b,o',rfl,dd,bO,ha,hc⟩:=hti;rw [bV] at *;unfold maxLen at bO;refine ek func222 I I jw hs ?_
 (refine Jr<|JL I (.there .here) I<|Ja I<|Ji<|bJ I I ae<|JL I bL I<|JI I<|JB I (by omega)<|Jv I<|Jn<|J0 ?_)
 refine aV (ι:=Nat×ByteArray) (fun x=>x.1<=r.ti.length+1/\mM r.po v x.1 o=some x.2) (fun x=>[(13,.q (x.1:Nat)),(12,.q ((r.ti.length:Int)+1)),(5,.string x.2),(0,.func (.yield l) #[] #[]),(2,.p b2),(3,.p b3)])
  (fun x=>[J x.1,bE b1 (.cells #[.string o] 9 (0,0)),JP b2 r s d (.slice a r.ti.length cp) p,bE b3 (.cells #[.q v] 3 (0,0))]) (fun x=>r.ti.length+1-x.1) ?_ ?_
 ·apply aI (0,o) ⟨Zi _,I⟩
  case hs1=>exact bS
  case ht=>(try simp only [Ze,Zf,Za]);exact .h4 .nil
 rintro ⟨k,at_⟩ ⟨hk,hit⟩;dsimp only at hk hit ⊢;by_cases aK:k<r.ti.length+1
 ·have XW:∀ w',aJ fp w w'->aj T_ 223 [.agg #[.q r.lv,.q r.ma,s,d,.slice a r.ti.length cp,p],.q v,.string at_] w' (.tuple #[.string ((eD r.po v at_).getD ⟨#[]⟩),.bool (eD r.po v at_).isSome]):=fun w' hk=>Bb v at_ (hR.ka hO hk)
  cases hi:eD r.po v at_ with
  | none =>
   have mN:∀ w',aJ fp w w'->aj T_ 223 [.agg #[.q r.lv,.q r.ma,s,d,.slice a r.ti.length cp,p],.q v,.string at_] w' (.tuple #[.string ⟨#[]⟩,.bool false]):=fun w' hk=>by
    have:=XW w' hk;rwa [hi] at this
   have ba:=G9 hit hk (.inl hi)
   (refine Jr<|JA I<|Jn<|Jq<|Jd I fun az=>Jk<|Jq<|J0<|Jr<|ab (cm bL) I<|JL I cX I<|Jv I<|ai ef I (fun w' aB=>(mN w' (Mem.keeps aB)))<|Jv I<|JJ I I<|JJ I I<|Ja I<|Ja I<|Jn<|Jq<|Jr<|Jv I<|JH I<|Jv I<|iQ I I I I<|iQ I I I I<|ew I I I I<|aF I I inferInstance (fun hg br=>(dN (.bF br I))) I<|ab (bA (.of I) I) I<|Jn<|cW (.of I)<|Ju<|Jm<|Jh<|Jh<|Jm ?_)
   with_reducible first|apply aO|apply aQ
   case he=>exact qV I
   case hR=>
    intro w' aB;exact aD true trivial (show bB _ [J (fJ r.po v (r.ti.length+1) o).length,_,_,_] _ by rw [ba];exact .h4 .nil) aB I
  | some nx =>
   have mN:∀ w',aJ fp w w'->aj T_ 223 [.agg #[.q r.lv,.q r.ma,s,d,.slice a r.ti.length cp,p],.q v,.string at_] w' (.tuple #[.string nx,.bool true]):=fun w' hk=>by
    have:=XW w' hk;rwa [hi] at this
   have Xg:=hy k _ (PD hit aK hi);have acB:mM r.po v (k+1) o=some nx:=by rw [wZ hit,hi]
   (refine Jr<|JA I<|Jn<|Jq<|Jd I fun az=>Jk<|Jq<|J0<|Jr<|ab (cm bL) I<|JL I cX I<|Jv I<|ai ef I (fun w' aB=>(mN w' (Mem.keeps aB)))<|Jv I<|JJ I I<|JJ I I<|Ja I<|Ja I<|Jn<|Jq<|Jr<|Jv I<|JH I<|Jv I<|JK I I<|Jv I<|JK I I<|Jv I<|JK I I ?_)
   with_reducible apply yW hB hF Xg
   case hx=>exact Is.of I
   case ha=>exact .o I .nil
   case hd=>rfl
   case ht=>exact .here
   intro q;cases q with
   | false =>
    simp only [cond_false]
    (refine JK I I<|JH I<|ab (fV (.of I) (.of I) (.of I) I) I<|Jn<|cW (.of I)<|Ju<|Jm<|Jh<|Jh<|Jm ?_)
    with_reducible first|apply aO|apply aQ
    case he=>exact qV I
    case hR=>
     intro w' aB;exact aD false trivial (by exact .h4 .nil) aB I
   | true =>
    simp only [cond_true]
    (refine JK I I<|JH I<|ab (fV (.of I) (.of I) (.of I) I) I<|Jn<|ch (.of I)<|Jk<|Jg<|Jv I<|Ja I<|Jx<|Jj<|Jt<|Jg<|JB I (by omega)<|Jv I<|Jn ?_)
    apply aH (k+1,nx) ⟨show k+1<=r.ti.length+1 by omega,acB⟩ (show r.ti.length+1-(k+1)<r.ti.length+1-k by omega)
    case hs1=>exact bS
    case ht=>(try simp only [Ze,Zf,Za]);exact .h4 .nil
 ·obtain rfl:k=r.ti.length+1:=by omega
  have ba:=G9 hit hk (.inr I);refine Jr<|JA I<|Jn<|Jq<|Jc I fun az=>Jp<|Jl<|Jo ?_
  with_reducible first|apply aO|apply aQ
  case he=>exact qV I
  case hR=>
   intro w' aB;exact aD true trivial (show bB _ [J (fJ r.po v (r.ti.length+1) o).length,_,_,_] _ by rw [ba];exact .h4 .nil) aB I
def RC (r:Ro) (s d t p:Value):List Value:=[.q r.lv,.q r.ma,s,d,t,p]
def BR (w:World) (b:Nat) (cs:List Value):Prop:=∀ (j:Nat) (u:Value),cs[j]? = some u->w.cell? ⟨b,0+j,none⟩=some u
theorem BR.keeps {b:Nat} {cs:List Value} (h:BR w b cs) (hk:aJ [] w w'):BR w' b cs:=fun j u hu=>cJ (h j u hu) I hk
theorem BR.of {c:Cx} {hs hs':List bd} (hm:Mem c hs w) {b:Nat} {cs:List Value} {E:TypeId} {fz:Nat×Nat} (ht:Take hs (bE b (.cells cs.toArray E fz)) hs'):BR w b cs:=fun j u hu=>by
 rw [ZD];exact At.mz ht hu w hm
theorem CK {P:Program} {c:Cx} {sl:aL} {hs:List bd} {dst:Option Tmp} {ty:TypeId} {pos:String} {af:Array Edge} {g:Option (Nat×Bool)} {t u:TypeId} {x y:Operand} {a b:Bool} [hu:ja P t .bool] (hx:Is sl x (.bool a)) (hy:Is sl y (.bool b)) :
  di P c sl hs ⟨dst,.binOp .neq t x y u,ty,pos,af,g⟩ (.bool (a != b)):=
 jm hx hy fun w=>by
  have:(Op.equal t (.bool a) (.bool b)).run P w=.ok (a==b) w:=by
   exact Gz (d:=9999) (by rw [hu.eq];rfl) (fun k h=>by rw [hu.eq] at h;cases h) (fun h=>by rw [hu.eq] at h;cases h) (fun _=>⟨a,I⟩) I
  simp [BA,binOp,this,bne]
def Lx (r:Ro) (v:Int) (x:Ti):Bool:=gL r.po v x.nm != nf r.po v x.nm
def Oj (r:Ro) (v:Int) (x:Ti):Bool:=jr (fJ r.po v (r.ti.length+1) x.nm) x.nm
theorem PH (v:Int) (x:Ti) {b1 b2:Nat} {w:World} (h:RR w r s d t p) (hA:BR w b1 (RC r s d t p)) (f2:w.cell? ⟨b2,0,none⟩=some (.q v)) :
  aj T_ 238 [.agg x.cells.toArray,.p b1,.p b2] w (.bool (Lx r v x)):=by
 obtain ⟨h1,h2,h3,h4⟩:=h.one;have kW:∀ (j:Nat) (u:Value),[Value.int .i64 r.lv,.int .i64 r.ma,s,d,t,p][j]? = some u->w.cell? ⟨b1,0+j,none⟩=some u:=hA;unfold Ti.cells;refine ah func238 I I ?_
 (refine Jr<|Jy I I fun _ _=>Ja I<|Ji<|ab (iO (eZ.base kW I)) I<|ab (ag (.of I) (At.base f2 I)) I<|bJ I I ae<|JL I .here I ?_)
 refine ai ef I (fun w' aB=>Bb (s:=s) (d:=d) (t:=t) (p:=p) v x.nm (h.keeps aB.keeps)) ?_
 (refine Jv I<|JJ I I<|JJ I I<|Ja I<|Ja I<|Ji<|Jv I<|ab (iO (eZ.base kW I)) I<|ab (ag (.of I) (At.base f2 I)) I<|bJ I I ae<|JL I .here I ?_)
 refine ai ef I (fun w' aB=>Ke (s:=s) (d:=d) (t:=t) (p:=p) v x.nm (h.keeps aB.keeps)) ?_
 skip
 refine ab (CK (.of I) (.of I)) I ?_;refine Ja I<|Jn<|Je<|JT ?_
 rfl
theorem TX (v:Int) {w:World} (h:RR w r s d t p):aj T_ 150 [RA r s d t p,.q v] w (.bool (r.ti.any (Lx r v))):=by
 obtain ⟨h1,h2,h3,h4⟩:=h.one;unfold RA;refine ah func150 I I ?_
 (refine Jr<|Jy I I fun _ _=>Jy I I fun _ _=>Ja I<|Ji<|bJ I I ae<|JL I (.there .here) I<|ab (bD .nil (.o I (.o I .nil))) I ?_)
 rename_i b3 tr b4 tS
 with_reducible apply ai
 case hr=>exact bb
 case hd=>rfl
 case hc=>
  intro w' aB;have hA:BR w' b3 [.q r.lv,.q r.ma,s,d,t,p]:=BR.of aB (by exact Take.there .here);have f2:w'.cell? ⟨b4,0,none⟩=some (.q v):=At.lit (by exact .here) I w' aB;have hR:=h.keeps aB.keeps
  exact Br (f:=238) (p:=Lx r v) (first:=[]) (cap:=[.p b3,.p b4]) hR.ti
   (fun x hx w2 fq=>PH v x (hR.keeps fq) (hA.keeps fq) (cJ f2 I fq))
 refine Ja I<|Jn<|Je<|JT ?_
 rfl
theorem SX {q:Int->Bool} {f:FuncId} {first cap:List Value} [bW T_ f] {w w1:World} (h:RR w1 r s d t p) (tO:r.lv<=1000000)
  (cV:∀ v:Int,0<=v->v<r.lv->∀ w',aJ [] w w'->aj T_ f (first++[.q v]++cap) w' (.bool (q v))) :
  aj T_ 148 [RA r s d t p,.func (.func f) first.toArray cap.toArray] w (.bool ((List.range r.lv.toNat).any fun i=>q (i:Nat))):=by
 obtain ⟨h1,h2,h3,h4⟩:=h.one;unfold RA;refine ah func148 I I ?_
 (refine Jr<|Jy I I fun _ _=>Ja I<|Jn<|Jq<|Jr<|bJ I I ae<|JL I .here I<|Jv I<|Jn<|J0 ?_)
 refine aV (ι:=Nat) (fun k=>k<=r.lv.toNat/\∀ i,i<k->q (i:Nat)=false) (fun k=>[(8,.q (k:Nat)),(7,.q r.lv),(1,.func (.func f) first.toArray cap.toArray)]) (fun k=>[]) (fun k=>r.lv.toNat-k) ?_ ?_
 ·apply aI 0 ⟨Zi _,fun i h=>by omega⟩
  case hs1=>exact bS
  case ht=>(try simp only [Ze,Zf,Za]);exact .nil
 rintro k ⟨hk,hz⟩;by_cases aK:k<r.lv.toNat
 ·have D5:((k:Nat):Int)<r.lv:=by omega
  refine Jr<|JA I<|Jn<|Jq<|Jd I fun az=>Jk<|Jq<|J0<|Jr<|Jv I<|Ja I<|Ji<|Jv I<|Jv I ?_;refine ai bM I (fun w' aB=>cV (k:Nat) (by omega) D5 w' aB.keeps) ?_;cases hq:q (k:Nat) with
  | true =>
   have e:(List.range r.lv.toNat).any (fun i=>q (i:Nat))=true:=ZR.2 ⟨k,ZW.2 aK,hq⟩
   rw [e]
   (refine Jn<|cW (.of I)<|Jr<|Ja I<|Jn<|Je<|Jm<|Jh<|Jh<|Jm<|Jh<|JT ?_)
   rfl
  | false =>
   (refine Jn<|ch (.of I)<|Jw<|Jj<|Jt<|Jg<|JB I (by omega)<|Jv I<|Jn ?_)
   have Mc:∀ i,i<k+1->q (i:Nat)=false:=fun i hi=>by
    by_cases e:i=k
    ·rw [e];exact hq
    ·exact hz i (by omega)
   apply aH (k+1) ⟨show k+1<=r.lv.toNat by omega,Mc⟩ (show r.lv.toNat-(k+1)<r.lv.toNat-k by omega)
   case hs1=>exact bS
   case ht=>(try simp only [Ze,Zf,Za]);exact .nil
 ·have e:(List.range r.lv.toNat).any (fun i=>q (i:Nat))=false:=by
   rw [Zam];intro i hi;simp [hz i (by have:=ZW.1 hi;omega)]
  rw [e];refine Jr<|JA I<|Jn<|Jq<|Jc I fun az=>Jp<|Jl<|Jo<|Jt<|Jr<|Ja I<|Jn<|Je<|JT ?_
  rfl
theorem Vi :mM po v (fJ po v K o).length o=some (iI po v K o):=by
 unfold iI;rcases Nat.eq_zero_or_pos (fJ po v K o).length with h | h
 ·rw [Zas.1 h];rfl
 ·obtain ⟨k,hk⟩:∃ k,(fJ po v K o).length=k+1:=⟨(fJ po v K o).length-1,by omega⟩;have hl:=kM po v K o;have:=om (po:=po) (v:=v) (o:=o) (show k<K by omega);rw [hk,<- this,List.getLast?_eq_getElem?,hk,Zax,Zc (by omega)];rfl
theorem EK {vs:List Value} (h:(yq po v K o)[k]? = some vs):∃ a,mM po v (k+1) o=some a/\vs=[.string a]/\(fJ po v K o)[k]? = some a:=by
 unfold yq at h;rw [ZE,Zal] at h;obtain ⟨a,ha,rfl⟩:=h;have hl:=kM po v K o;have hk:=(Zn.1 ha).1;exact ⟨a,by rw [<- om (k:=K) (by omega)];exact ha,I,ha⟩
theorem Na (v:Int) (x:Ti) {b1 b2:Nat} {w:World} (h:RR w r s d t p) (cZ:r.ti.length<=1000000) (hA:BR w b1 (RC r s d t p)) (f2:w.cell? ⟨b2,0,none⟩=some (.q v)) :
  aj T_ 237 [.agg x.cells.toArray,.p b1,.p b2] w (.bool (Oj r v x)):=by
 obtain ⟨h1,h2,h3,h4⟩:=h.one;have kW:∀ (j:Nat) (u:Value),[Value.int .i64 r.lv,.int .i64 r.ma,s,d,t,p][j]? = some u->w.cell? ⟨b1,0+j,none⟩=some u:=hA;unfold Ti.cells;refine ah func237 I I ?_
 (refine Jr<|Jy I I fun _ _=>Jz I I fun _ _=>Jn<|Jq<|Jr<|ab (iO (eZ.base kW I)) I<|ab (ag (.of I) (At.base f2 I)) I<|bJ I I ae<|JL I (.there .here) I ?_)
 rename_i b3 tr b4 tS;refine JN ef I (fun w1 aT=>wA v x.nm (h.keeps aT.keeps)) ?_;intro y _;dsimp only [id_eq,Zb,Za];refine Jn<|J0 ?_
 refine jR (ps:=[11]) (f:=222) (first:=[]) (cap:=[.pointer (some ⟨y.1,0,none⟩),.pointer (some ⟨y.2.1,0,none⟩),.pointer (some ⟨y.2.2,0,none⟩)]) (ι:=Unit) (κ:=Unit) (rst:=[]) ?hg
  [bE y.1 (.cells #[.string x.nm] 9 (0,0)),JP y.2.1 r s d t p,bE y.2.2 (.cells #[.q v] 3 (0,0))] (yq r.po v (r.ti.length+1) x.nm) ?hit
  (fun k _=>jr ((fJ r.po v (r.ti.length+1) x.nm).take k) x.nm=false) (fun _=>[bE b4 (.cells #[.bool false] 4 (0,0)),bE b3 (.cells #[.string x.nm,.q x.fr,.q x.to] 187 (0,0))])
  (fun _=>Oj r v x=true) (fun _=>[bE b4 (.cells #[.bool true] 4 (0,0)),bE b3 (.cells #[.string x.nm,.q x.fr,.q x.to] 187 (0,0))]) (fun _=>.ret) () (by rw [Ze];rfl) ?ht ?hlen ?hps ?round ?kn ?kj
 case hg=>exact Is.of I
 case hit=>intro w' aB;exact EL v x.nm h RO.nil cZ
 case ht=>
  dsimp only [Zb,Za];exact .cons cX (.cons cX (.h3 .nil))
 case hlen=>intro vs pC;obtain ⟨x,_,rfl⟩:=Zx.1 pC;rfl
 case hps=>intro t ht;simp only [ZS,Zo,or_false] at ht;rcases ht with rfl;exact ZaA rfl
 case kj=>
  intro y D hy;rw [hy];dsimp only [Zb,Za];refine Je<|Jm<|Jh ?_
  with_reducible first|apply aO|apply aQ
  case he=>exact G3 I inferInstance I (At.lit .here I)
  case hR=>exact fun w' aB=>⟨I,aB.keeps⟩
 case kn=>
  intro _ D hq;rw [si,ZK] at hq;have uC:Oj r v x=false:=hq;rw [uC];dsimp only [Zb,Za]
  (refine Jj<|Jt<|Jr<|ao (.of I) (.of I) .here I I (dR I) (bz I) ak<|Jn<|Je ?_)
  with_reducible first|apply aO|apply aQ
  case he=>exact G3 I inferInstance I (At.lit .here I)
  case hR=>exact fun w' aB=>⟨I,aB.keeps⟩
 case round=>
  intro l0 rc W fp k u vs hsz hk hq hB hF;obtain ⟨a,hit,rfl,Dm⟩:=EK hk;obtain ⟨aK,Mt⟩:=Zn.1 Dm;have htk:(fJ r.po v (r.ti.length+1) x.nm).take (k+1)=(fJ r.po v (r.ti.length+1) x.nm).take k++[a]:=by rw [Zl aK,Mt]
  dsimp only [List.zip_cons_cons,List.zip_nil_right,mV,Zb,Za];refine Jg<|Ja I<|Jn ?_
  with_reducible apply ns
  case ht=>exact .here
  (refine J0<|Jr<|Jv I<|bJ I I ae<|JL I bL I<|ab (dF (.of I) (.of I)) I<|Jn<|gm I (fun az=>?_) fun az=>?_;refine Jr<|ao (.of I) (.of I) (.there .here) I I (dR I) (bz I) ak<|Jn<|Je<|Jm ?_;rotate_left;refine Jw<|Jj ?_;rotate_right)
  ·apply OJ () I
   case ht=>exact Take.there .here
   case hy=>
    refine fI.2 ?_;have:=Z5 Dm;rwa [az] at this
   case h2=>exact .h2 .nil
  ·apply mC ()
   case ht=>exact .here
   case hx=>
    show jr ((fJ r.po v (r.ti.length+1) x.nm).take (k+1)) x.nm=false;rw [htk];unfold jr at hq ⊢;rw [List.any_append,hq];simp;exact fun e=>az e.symm
   case h2=>exact .h2 .nil
theorem Ft (x:Sr) (o:ByteArray) {b2:Nat} {w:World} (f2:w.cell? ⟨b2,0,none⟩=some (.string o)) :
  aj T_ 228 [.agg x.cells.toArray,.p b2] w (.bool (decide (x.nm=o))):=by
 unfold Sr.cells;refine ah func228 I I ?_
 (refine Jr<|Jy I I fun _ _=>Ja I<|Ji<|bJ I I ae<|JL I .here I<|ab (ag (.of I) (At.base f2 I)) I<|ab (dF (.of I) (.of I)) I<|Ja I<|Jn<|Je<|JT ?_)
 rfl
theorem Ra (v:Int) {w:World} (h:RR w r s d t p) (cZ:r.ti.length<=1000000):aj T_ 149 [RA r s d t p,.q v] w (.bool (r.ti.any (Oj r v))):=by
 obtain ⟨h1,h2,h3,h4⟩:=h.one;unfold RA;refine ah func149 I I ?_
 (refine Jr<|Jy I I fun _ _=>Jy I I fun _ _=>Ja I<|Ji<|bJ I I ae<|JL I (.there .here) I<|ab (bD .nil (.o I (.o I .nil))) I ?_)
 rename_i b3 tr b4 tS
 with_reducible apply ai
 case hr=>exact bb
 case hd=>rfl
 case hc=>
  intro w' aB;have hA:BR w' b3 [.q r.lv,.q r.ma,s,d,t,p]:=BR.of aB (by exact Take.there .here);have f2:w'.cell? ⟨b4,0,none⟩=some (.q v):=At.lit (by exact .here) I w' aB;have hR:=h.keeps aB.keeps
  exact Br (f:=237) (p:=Oj r v) (first:=[]) (cap:=[.p b3,.p b4]) hR.ti
   (fun x hx w2 fq=>Na v x (hR.keeps fq) cZ (hA.keeps fq) (cJ f2 I fq))
 refine Ja I<|Jn<|Je<|JT ?_
 rfl
def j4 (r:Ro) (v:Int) (o:ByteArray):ByteArray:=if r.sr.any (fun x=>decide (x.nm=iI r.po v (r.ti.length+1) o)) then iI r.po v (r.ti.length+1) o else ⟨#[]⟩
theorem qD (v:Int) (o:ByteArray) {w:World} (h:RR w r s d t p) (cZ:r.ti.length<=1000000):aj T_ 126 [RA r s d t p,.q v,.string o] w (.string (j4 r v o)):=by
 obtain ⟨h1,h2,h3,h4⟩:=h.one;unfold RA;refine ah func126 I I ?_
 (refine Jr<|Jy I I fun _ _=>Ja I<|Ji<|Jv I<|Jz I I fun _ _=>ao (.of I) (.of I) .here I I (dR I) (bz I) ak<|Jn<|Jq<|Jr<|ab (cm (.there .here)) I<|Jv I<|Jv I ?_)
 rename_i b3 tr b7 Sm;refine JN ef I (fun w1 aT=>wA v o (h.keeps aT.keeps)) ?_;intro y _;dsimp only [id_eq,Zb,Za];refine Jn<|J0 ?_
 refine jR (ps:=[14]) (f:=222) (first:=[]) (cap:=[.pointer (some ⟨y.1,0,none⟩),.pointer (some ⟨y.2.1,0,none⟩),.pointer (some ⟨y.2.2,0,none⟩)]) (ι:=ByteArray) (κ:=Empty) (rst:=[JP b3 r s d t p]) ?hg
  [bE y.1 (.cells #[.string o] 9 (0,0)),JP y.2.1 r s d t p,bE y.2.2 (.cells #[.q v] 3 (0,0))] (yq r.po v (r.ti.length+1) o) ?hit
  (fun k a=>mM r.po v k o=some a) (fun a=>[bE b7 (.cells #[.string a] 9 (0,0))])
  (fun _=>False) (fun _=>[]) (fun _=>.ret) o I ?ht ?hlen ?hps ?round ?kn ?kj
 case hg=>exact Is.of I
 case hit=>intro w' aB;exact EL v o h RO.nil cZ
 case ht=>
  dsimp only [Zb,Za];exact .cons cX (.h3 .nil)
 case hlen=>intro vs pC;obtain ⟨x,_,rfl⟩:=Zx.1 pC;rfl
 case hps=>intro t ht;simp only [ZS,Zo,or_false] at ht;rcases ht with rfl;exact ZaA rfl
 case kj=>
  intro y D hy;exact hy.elim
 case kn=>
  intro a D hq;rw [si,Vi,Option.some.injEq] at hq;have rL:j4 r v o=if r.sr.any (fun x=>decide (x.nm=a)) then a else ⟨#[]⟩:=by rw [<- hq];rfl
  rw [rL];dsimp only [Zb,Za]
  (refine Jj<|Jt<|Jq<|Jr<|bJ I I ae<|JL I dD I<|ab (bD .nil (.o I .nil)) I ?_)
  with_reducible apply ai
  case hr=>exact bb
  case hd=>rfl
  case hc=>
   intro w' aB;have f2:w'.cell? ⟨b7,0,none⟩=some (.string a):=At.lit (by exact .here) I w' aB
   exact QG (f:=228) (p:=fun x=>decide (x.nm=a)) (first:=[]) (cap:=[.p b7]) (h.keeps aB.keeps).sr
    (fun x hx w2 fq=>Ft x a (cJ f2 I fq))
  cases r.sr.any (fun x=>decide (x.nm=a)) with
  | true =>
   (refine Jn<|cW (.of I)<|Jr<|JL I .here I<|Ja I<|Jn<|Ju ?_)
   with_reducible first|apply aO|apply aQ
   case he=>exact dB I I
   case hR=>exact fun w' aB=>⟨I,aB.keeps⟩
  | false =>
   (refine Jn<|ch (.of I)<|Jk<|Jr<|Ja I<|Jn<|Je ?_)
   with_reducible first|apply aO|apply aQ
   case he=>exact dB I I
   case hR=>exact fun w' aB=>⟨I,aB.keeps⟩
 case round=>
  intro l0 rc W fp k a0 vs hsz hk hq hB hF;obtain ⟨a,hit,rfl,Dm⟩:=EK hk;dsimp only [List.zip_cons_cons,List.zip_nil_right,mV,Zb,Za];refine Jg<|Ja I<|Jn ?_
  with_reducible apply ns
  case ht=>exact .here
  (refine J0<|Jg<|Jv I<|ao (.of I) (.of I) (.there .here) I I (dR I) (bz I) ak<|Jx<|Jj ?_)
  apply mC a
  case ht=>exact Take.there .here
  case hx=>exact hit
  case h2=>
   exact .h1 .nil
theorem rH {k k':ByteArray} {v:Value}:∀ {l:List (ByteArray×Value)},fc k' (nG k v l)=if k'=k then some v else fc k' l
 | []=>by simp [nG,fc]
 | (x, u) :: r => by
  simp only [nG];split
  ·rename_i e;subst e;simp only [fc];split <;> rfl
  ·rename_i e;simp only [fc];rw [rH];by_cases h:k'=x
   ·rw [if_pos h,if_pos h,if_neg (fun q=>e (q.symm.trans h))]
   ·rw [if_neg h,if_neg h]
theorem LO {α:Type} {l:List α} {key:α->ByteArray} {val:Nat->α->Value} {f:Nat->PM} (hs:∀ k (h:k<l.length),f (k+1)=nG (key l[k]) (val k l[k]) (f k)) (s:ByteArray) :
  (∀ k,k<=l.length->(∀ j (hj:j<l.length),j<k->key l[j]≠s)->fc s (f k)=fc s (f 0)) /\
  (∀ k,k<=l.length->∀ i (hi:i<l.length),i<k->key l[i]=s->(∀ j (hj:j<l.length),i<j->j<k->key l[j]≠s)->fc s (f k)=some (val i l[i])):=by
 constructor
 ·intro k
  induction k with
  | zero=>intro _ _;rfl
  | succ k ih =>
   intro hk hne;rw [hs k (by omega),rH,if_neg (fun e=>hne k (by omega) (by omega) e.symm)]
   exact ih (by omega) fun j hj h=>hne j hj (by omega)
 ·intro k
  induction k with
  | zero=>intro _ i _ h;omega
  | succ k ih =>
   intro hk i hi hik he hne;rw [hs k (by omega),rH];by_cases e:i=k
   ·subst e;rw [if_pos he.symm]
   ·rw [if_neg (fun q=>hne k (by omega) (by omega) (by omega) q.symm)]
    exact ih (by omega) i hi (by omega) he fun j hj h h'=>hne j hj h (by omega)
theorem wO {α:Type} {l:List α} {key:α->ByteArray} {val:Nat->α->Value} {f:Nat->PM} (hs:∀ k (h:k<l.length),f (k+1)=nG (key l[k]) (val k l[k]) (f k)) (s:ByteArray) :
  (s ∉ l.map key->fc s (f l.length)=fc s (f 0))/\((l.map key).Nodup->∀ i (hi:i<l.length),key l[i]=s->fc s (f l.length)=some (val i l[i])):=by
 obtain ⟨h1,h2⟩:=LO hs s;constructor
 ·intro hn;exact h1 _ (Zy _) fun j hj _ e=>hn (Zx.2 ⟨_,Zj hj,e⟩)
 ·intro hd i hi he;refine h2 _ (Zy _) i hi hi he fun j hj yy _ e=>?_;have:=(Zad.1 hd) i j (by rw [Zd];exact hi) (by rw [Zd];exact hj) yy;rw [ZZ,ZZ,he,e] at this;exact this I
structure Ea (r:Ro):Prop where
 nd:(eL r).Nodup
theorem Ea.parts (h:Ea r):(cK r).Nodup/\(cE r).Nodup/\(cQ r).Nodup/\(∀ s∈cK r,s ∉ cE r)/\(∀ s∈cK r,s ∉ cQ r)/\(∀ s∈cE r,s ∉ cQ r):=by
 have:=h.nd;unfold eL at this;rw [ZG] at this;obtain ⟨h1,h2,h3⟩:=this;rw [ZG] at h1;obtain ⟨h4,h5,h6⟩:=h1;exact ⟨h4,h5,h2,fun s hs hd=>h6 s hs s hd I,fun s hs ht=>h3 s (ZF _ hs) s ht I,fun s hs ht=>h3 s (ZU _ hs) s ht I⟩
theorem dP {l:List ByteArray} {s:ByteArray} (h:s∈l):0<=bC l s:=by
 have:=(not_congr (cH (l:=l) (s:=s))).2 (not_not_intro h);omega
theorem tV {l:List ByteArray} {s:ByteArray} (hd:l.Nodup) {i:Nat} (h:i<l.length) (e:l[i]=s):bC l s=(i:Nat):=
 rz h e fun j hj q=>by
  have:=(Zad.1 hd) j i (by omega) h hj;exact this (q.trans e.symm)
theorem rf (hd:Ea r) (s:ByteArray):fc s (pe r)=if jr (eL r) s then some (mq (eE r s) (kP r s) (kq r s)) else none:=by
 obtain ⟨n1,n2,n3,d1,d2,d3⟩:=hd.parts;have hS:=wO (l:=r.sr) (key:=Sr.nm) (val:=fun _ x=>mq (-1) (-1) x.mx) (f:=xW r.sr) (fun k h=>Lj h) s
 have hD:=wO (l:=r.de) (key:=De.nm) (val:=fun k x=>mq (k:Nat) x.mx (-1)) (f:=D4 (xW r.sr r.sr.length) r.de) (fun k h=>Lk h) s
 have hT:=wO (l:=r.ti) (key:=Ti.nm) (val:=fun k x=>mq ((r.de.length:Int)+(k:Nat)) x.fr x.to) (f:=N4 (D4 (xW r.sr r.sr.length) r.de r.de.length) r.de.length r.ti) (fun k h=>Li h) s
 change (s ∉ cQ r->fc s (pe r)=fc s (D4 (xW r.sr r.sr.length) r.de r.de.length))/\((cQ r).Nodup->_) at hT;change (s ∉ cE r->fc s (D4 (xW r.sr r.sr.length) r.de r.de.length)=fc s (xW r.sr r.sr.length))/\((cE r).Nodup->_) at hD;change (s ∉ cK r->fc s (xW r.sr r.sr.length)=fc s [])/\((cK r).Nodup->_) at hS;have eO:jr (eL r) s=true↔(s∈cK r\/s∈cE r)\/s∈cQ r:=by rw [fI];unfold eL;rw [Zz,Zz]
 by_cases ht:s∈cQ r
 ·rw [if_pos (eO.2 (.inr ht))];obtain ⟨i,hi,e⟩:=Zw ht;have yz:i<r.ti.length:=by unfold cQ at hi;rwa [Zd] at hi
  have e':(r.ti[i]).nm=s:=by simpa [cQ] using e
  have hf:=tV n3 hi e;have f1:bC (cE r) s<0:=cH.2 fun h=>d3 s h ht
  have f2:bC (cK r) s<0:=cH.2 fun h=>d2 s h ht
  refine (hT.2 n3 i yz e').trans ?_;unfold eE kP kq;rw [if_neg (by omega),if_pos (by rw [hf];omega),if_neg (by omega),if_pos (by rw [hf];omega),if_neg (by omega),if_pos (by rw [hf];omega),hf,ZH,Zk,Zc yz]
  rfl
 ·rw [hT.1 ht];have f3:bC (cQ r) s<0:=cH.2 ht;by_cases Bp:s∈cE r
  ·rw [if_pos (eO.2 (.inl (.inr Bp)))];obtain ⟨i,hi,e⟩:=Zw Bp;have yz:i<r.de.length:=by unfold cE at hi;rwa [Zd] at hi
   have e':(r.de[i]).nm=s:=by simpa [cE] using e
   have hf:=tV n2 hi e;have f2:bC (cK r) s<0:=cH.2 fun h=>d1 s h Bp
   refine (hD.2 n2 i yz e').trans ?_;unfold eE kP kq;rw [if_pos (by rw [hf];omega),if_pos (by rw [hf];omega),if_neg (by omega),if_neg (by omega),hf,ZH,Zk,Zc yz]
   rfl
  ·rw [hD.1 Bp];have f1:bC (cE r) s<0:=cH.2 Bp;by_cases hs:s∈cK r
   ·rw [if_pos (eO.2 (.inl (.inl hs)))];obtain ⟨i,hi,e⟩:=Zw hs;have yz:i<r.sr.length:=by unfold cK at hi;rwa [Zd] at hi
    have e':(r.sr[i]).nm=s:=by simpa [cK] using e
    have hf:=tV n1 hi e;refine (hS.2 n1 i yz e').trans ?_;unfold eE kP kq;rw [if_neg (by omega),if_neg (by omega),if_neg (by omega),if_neg (by omega),if_pos (by rw [hf];omega),hf,ZH,Zk,Zc yz]
    rfl
   ·rw [hS.1 hs,if_neg (fun h=>by rcases eO.1 h with (h | h) | h <;> contradiction)]
    rfl
def lr (x y:Int):Int:=if x<y then -1 else if y<x then 1 else 0
def my:List Int->List Int->Int
 | [],[]=>0
 | [],_::_=>-1
 | _::_,[]=>1
 | x::a,y::b=>if lr x y≠0 then lr x y else my a b
theorem jf {x y:Int}:lr x y=0↔x=y:=by
 unfold lr;split
 ·constructor <;> intro h <;> omega
 ·split <;> constructor <;> intro h <;> omega
theorem Nj:∀ b:List Int,my [] b=if 0<b.length then -1 else 0
 | []=>rfl
 | _::_=>rfl
theorem Ir {a b:List Int} (ha:k<a.length) (hb:k<b.length):my (a.drop k) (b.drop k)=if lr a[k] b[k]≠0 then lr a[k] b[k] else my (a.drop (k+1)) (b.drop (k+1)):=by
 rw [Zt ha,Zt hb];rfl
end Go.Proofs.A1
namespace Go.SL
open Go
def EF (l:List Oper) (m p:Nat):Bool:=
 l.all ph&&u4 l 0&&lD l.toArray (l.take m) 0&&(List.range' m (l.length-m)).all (fun k=>(List.range m).all fun i=>Nat.beq i p||((jB l []).getD k 0).testBit i)&&Nat.ble m l.length
def TH (l:List Oper) (m:Nat):Bool:=EF l m m
structure Rw (l:List Oper) (m p:Nat):Prop where
 op:∀ o∈l,ph o=true
 ac:u4 l 0=true
 CV:lD l.toArray (l.take m) 0=true
 tail:∀ k,m<=k->k<l.length->∀ i,i<m->i≠p->((jB l []).getD k 0).testBit i=true
 le:m<=l.length
theorem CP {l:List Oper} {m p:Nat} (h:EF l m p=true):Rw l m p:=by
 simp only [EF,Zm,Z4] at h;obtain ⟨⟨⟨⟨h1,h2⟩,h3⟩,h5⟩,h6⟩:=h;refine ⟨h1,h2,h3,fun k hk aK i hi hne=>?_,by simpa using h6⟩;have:=h5 k (Zba.2 ⟨hk,by omega⟩) i (ZW.2 hi);rw [ZT] at this;exact this.resolve_left (by simpa using hne)
theorem sn {l:List Oper} {m p:Nat} (hc:Rw l m p) {i j:Nat} {x y:Oper} (yy:i<j) (hj:j<m) (hx:l[i]? = some x) (hy:l[j]? = some y):rh l.toArray x y i=true:=by
 have:=nV hc.CV (i:=i) (j:=j) yy (by rw [ZP,if_pos (by omega)];exact hx) (by rw [ZP,if_pos hj];exact hy);simpa using this
theorem CS {l:List Oper} {m p:Nat} (hc:Rw l m p) {listed:Array Bool} (hsz:listed.size=l.length) (Bo:DC l (Ls listed)) {i:Nat} (hi:i∈Region.ready .any l.toArray listed) (hm:m<=i):∀ j,j<m->j≠p->Ls listed j:=by
 intro j hj hjp;obtain ⟨o,ho,hn,hd⟩:=(eI hsz).1 hi;have aK:i<l.length:=(Zn.1 ho).1;have Fe:DC l (fun k=>k=i\/Ls listed k):=by
  intro k ok hk hL e he hb;rcases hL with e' | hL
  ·subst e';rw [ho] at hk;cases hk;exact .inr (hd e he hb)
  ·exact .inr (Bo k ok hk hL e he hb)
 rcases jT Fe hc.ac i aK (.inl rfl) j (hc.tail i hm aK j hj hjp) with h | h
 ·omega
 ·exact h
structure c5 where
 F:(Nat->Value)->Value
 A:(Nat->Value)->List bd
def An (β:Nat->Value) (i:Nat) (x:Value):Nat->Value:=fun k=>if k=i then x else β k
theorem vL (β:Nat->Value) (i:Nat):An β i (β i)=β:=by
 funext k;unfold An;split
 ·rename_i h;rw [h]
 ·rfl
theorem jk (β:Nat->Value) (i:Nat) (x:Value):An β i x i=x:=by unfold An;rw [if_pos I]
theorem Am {β:Nat->Value} {i k:Nat} {x:Value} (h:k≠i):An β i x k=β k:=by unfold An;rw [if_neg h]
def BM (l:List Oper) (i k:Nat):Bool:=Nat.beq i k||((jB l []).getD i 0).testBit k
def fh (β:Nat->Value) (lst:Nat->Bool):List c5->Nat->List bd
 | [],_=>[]
 | s::S,i=>(if lst i then s.A β else [])++fh β lst S (i+1)
theorem kA {β β':Nat->Value} {lst nZ:Nat->Bool}:∀ {S:List c5} {i:Nat},(∀ j s,S[j]? = some s->lst (i+j)=nZ (i+j)/\(lst (i+j)=true->s.A β=s.A β'))->fh β lst S i=fh β' nZ S i
 | [],_,_=>rfl
 | s :: S, i, h => by
  have h0:=h 0 s I;have ih:fh β lst S (i+1)=fh β' nZ S (i+1):=kA fun j s' hj=>by have:=h (j+1) s' (by simpa using hj);rwa [show i+(j+1)=i+1+j from by omega] at this
  simp only [Zaw] at h0;unfold fh;rw [ih,<- h0.1];by_cases hl:lst i=true
  ·rw [if_pos hl,if_pos hl,h0.2 hl]
  ·rw [if_neg hl,if_neg hl]
theorem wu {β:Nat->Value} {lst nZ:Nat->Bool} {k:Nat} {s:c5}:∀ {S:List c5} {i:Nat},S[k]? = some s->lst (i+k)=false->nZ (i+k)=true->(∀ j,j≠i+k->nZ j=lst j) ->
  (s.A β++fh β lst S i).Perm (fh β nZ S i)
 | [],_,h,_,_,_=>by simp at h
 | s0 :: S, i, h, h1, h2, h3 => by
  cases k with
  | zero =>
   simp at h;subst h;have e:fh β lst S (i+1)=fh β nZ S (i+1):=kA fun j s' hj=>⟨(h3 (i+1+j) (by omega)).symm,fun _=>rfl⟩
   simp only [Zaw] at h1 h2;unfold fh;rw [if_neg (by simp [h1]),if_pos h2,e];simp
  | succ k =>
   have ih:(s.A β++fh β lst S (i+1)).Perm (fh β nZ S (i+1)):=by
    refine wu (k:=k) (by simpa using h) ?_ ?_ ?_
    all_goals rw [show i+1+k=i+(k+1) from by omega];assumption
   unfold fh;rw [h3 i (by omega)];refine List.Perm.trans ?_ (ih.append_left _);rw [<- Zh,<- Zh];exact List.perm_append_comm.append_right _
theorem wj {β:Nat->Value} {lst:Nat->Bool} {s:c5}:∀ {S:List c5} {i j:Nat},S[j]? = some s->lst (i+j)=true->(s.A β).Sublist (fh β lst S i)
 | [],_,j,h,_=>by simp at h
 | s0 :: S, i, 0, h, h1 => by
  simp at h;subst h;unfold fh;rw [Zaw] at h1;rw [if_pos h1];exact Zbp _ _
 | s0 :: S, i, j + 1, h, h1 => by
  unfold fh;exact (wj (S:=S) (i:=i+1) (j:=j) (by simpa using h) (by rwa [show i+1+j=i+(j+1) from by omega])).trans (Zbl _ _)
theorem cr.sublist {h:Nat->Option Obj} {l1 l2:List bd} (hs:l1.Sublist l2):∀ {fp:List Nat},cr h l2 fp->∃ mw:List Nat,cr h l1 mw/\mw.Sublist fp:=by
 induction hs with
 | slnil=>intro fp hf;exact ⟨fp,hf,List.Sublist.refl _⟩
 | cons A _ ih =>
  rintro fp ⟨f1,f2,rfl,_,h2⟩;obtain ⟨g,hg,jn⟩:=ih h2;exact ⟨g,hg,jn.trans (Zbl _ _)⟩
 | cons_cons A _ ih =>
  rintro fp ⟨f1,f2,rfl,h1,h2⟩;obtain ⟨g,hg,jn⟩:=ih h2;exact ⟨f1++g,⟨f1,g,I,h1,hg⟩,(List.Sublist.refl f1).append jn⟩
theorem Mem.sublist {c:Cx} {l1 l2:List bd} {w:World} (h:Mem c l2 w) (hs:l1.Sublist l2):Mem c l1 w:=by
 obtain ⟨k,fp,hn,iZ,hb⟩:=h;obtain ⟨g,hg,jn⟩:=iZ.sublist hs;exact ⟨k,g,hn.sublist jn,hg,fun b dK=>hb b (jn.subset dK)⟩
def qM (P:Program) (o:Oper) (a:Act) (w:World) (K:Value->World->Prop):Prop:=
 match (execOp a.eval o).run P w with
 | .ok (.value v) w'=>K v w'
 | .ok (.enter f args) w'=>w'=w/\Calls P f args w (fun e Ah=>∃ v,e=.returned v/\K v Ah)
 | _=>False
section
variable {P:Program} {c:Cx} {D:List Nat} {sl:aL} {hs:List bd} {Q:Exit->Act->World->Prop} {l:List Oper} {m:Nat}
def km (c:Cx) (hs:List bd) (S:List c5) (B:List Nat) (β:Nat->Value) (w:World):Prop:=∀ A:List bd,(A=[]\/∃ j,j∈B/\∃ s,S[j]? = some s/\A=s.A β)->Mem c (A++hs) w
variable {B:List Nat} {i:Nat} {o:Oper} {w:World} {β:Nat->Value}
theorem km.mem {S:List c5} (h:km c hs S B β w):Mem c hs w:=h [] (.inl I)
theorem km.at {S:List c5} (h:km c hs S B β w) (j:Nat) {s:c5} (hj:j∈B) (hs':S[j]? = some s):Mem c (s.A β++hs) w:=h _ (.inr ⟨j,hj,s,hs',I⟩)
def NX (i:Nat) (s:c5) (β:Nat->Value) (w:World) (v:Value) (w':World):Prop:=∃ x,v=s.F (An β i x)/\aJ [] w w'/\∃ fp:List Nat,fp.Nodup/\cr (hp w') (s.A (An β i x)) fp/\∀ b∈fp,w.heap.size<=b
def oF {α:Type} (l:List Oper) (i:Nat) (F:(Nat->Value)->α):Prop:=∀ β β',(∀ k,BM l i k=true->β k=β' k)->F β=F β'
structure FE (P:Program) (c:Cx) (hs:List bd) (l:List Oper) (i:Nat) (o:Oper) (SL:(Nat->Value)->aL) (S:List c5) (s:c5):Prop where
 EX:oF l i s.F
 EY:oF l i s.A
 run:∃ B:List Nat,(∀ j∈B,fL o j=true)/\∀ β a w,cg (SL β) a->km c hs S B β w->if Region.wanted o (yielded l.toArray a.tmps)=true then qM P o a w (NX i s β w) else NX i s β w undef w
def lT (l:List Oper) (o:Oper) (j:Nat):Bool:=fL o j||(List.range l.length).any fun k=>fL o k&&(match l[k]? with | some q=>fL q j | none=>false)
theorem Hj {l:List Oper} {j:Nat} (h:fL o j=true):lT l o j=true:=by unfold lT;rw [h];rfl
structure BS (P:Program) (c:Cx) (hs:List bd) (l:List Oper) (i:Nat) (o:Oper) (SL:(Nat->Value)->aL) (S:List c5) (s:c5):Prop where
 EX:oF l i s.F
 EY:oF l i s.A
 run:∃ B:List Nat,(∀ j∈B,lT l o j=true)/\∀ β a w,cg (SL β) a->km c hs S B β w->if Region.wanted o (yielded l.toArray a.tmps)=true then qM P o a w (NX i s β w) else NX i s β w undef w
theorem FE.toT {P:Program} {c:Cx} {hs:List bd} {l:List Oper} {SL:(Nat->Value)->aL} {S:List c5} {s:c5} (h:FE P c hs l i o SL S s):BS P c hs l i o SL S s:=⟨h.EX,h.EY,let ⟨B,hB,r⟩:=h.run;⟨B,fun j hj=>Hj (hB j hj),r⟩⟩
inductive xO (P:Program) (c:Cx) (hs:List bd) (l:List Oper):Nat->List Oper->((Nat->Value)->aL)->List c5->List c5->((Nat->Value)->aL)->Prop
 | nil {i:Nat} {SL:(Nat->Value)->aL} {S:List c5}:xO P c hs l i [] SL S S SL
 | step {i d:Nat} {o:Oper} {rest:List Oper} {SL qK:(Nat->Value)->aL} {S S':List c5} {s:c5} (hd:o.dst=some d) (gq:d<c.nt) (h:BS P c hs l i o SL S s)
   (t:xO P c hs l (i+1) rest (fun β=>(d,s.F β)::SL β) (S++[s]) S' qK):xO P c hs l i (o::rest) SL S S' qK
def pX (sl:aL) (pre:List Oper) (SL:(Nat->Value)->aL) (S:List c5):Prop:=
 ∀ β t v,db (SL β) t=some v->(∃ (j:Nat) (oj:Oper) (s:c5),pre[j]? = some oj/\oj.dst=some t/\S[j]? = some s/\v=s.F β)\/((∀ oj∈pre,oj.dst≠some t)/\db sl t=some v)
theorem pX.step {pre:List Oper} {SL:(Nat->Value)->aL} {S:List c5} (h:pX sl pre SL S) (hl:S.length=pre.length) {o:Oper} {d:Nat} {s:c5} (hd:o.dst=some d):pX sl (pre++[o]) (fun β=>(d,s.F β)::SL β) (S++[s]):=by
 intro β t v hv;by_cases e:d=t
 ·subst e;rw [gC] at hv;cases hv;exact .inl ⟨pre.length,o,s,by simp,hd,by rw [<- hl];simp,I⟩
 ·rw [gB e] at hv;rcases h β t v hv with ⟨j,oj,s',h1,h2,h3,h4⟩ | ⟨h1,h2⟩
  ·refine .inl ⟨j,oj,s',?_,h2,?_,h4⟩
   ·rw [ZB (Zn.1 h1).1];exact h1
   ·rw [ZB (Zn.1 h3).1];exact h3
  ·refine .inr ⟨fun oj Qs=>?_,h2⟩;rcases Zz.1 Qs with Qs | Qs
   ·exact h1 oj Qs
   ·rw [ZL.1 Qs,hd];simp [e]
theorem xO.spec {rest:List Oper} {SL qK:(Nat->Value)->aL} {S S':List c5} (h:xO P c hs l i rest SL S S' qK):∀ pre:List Oper,pre.length=i->S.length=i->pX sl pre SL S ->
  S'.length=i+rest.length/\S <+: S'/\pX sl (pre++rest) qK S'/\∀ k o,i<=k->(pre++rest)[k]? = some o->∃ d NV s,o.dst=some d/\d<c.nt/\S'[k]? = some s/\pX sl ((pre++rest).take k) NV (S'.take k)/\BS P c hs l k o NV (S'.take k) s:=by
 induction h with
 | @nil i SL S =>
  intro pre hp hS mY;refine ⟨by simpa using hS,List.prefix_rfl,by simpa using mY,fun k o hk ho=>?_⟩;have:=(Zn.1 ho).1;simp at this;omega
 | @step i d o rest SL qK S S' s hd gq ba t ih =>
  intro pre hp hS mY;obtain ⟨h1,h2,h3,h4⟩:=ih (pre++[o]) (by simp [hp]) (by simp [hS]) (mY.step (by omega) hd);rw [Zh,List.singleton_append] at h3 h4;have Mj:S <+: S':=(ZaU S [s]).trans h2;have uK:S'[i]? = some s:=by
   obtain ⟨r,rfl⟩:=h2;rw [Zh,ZC (by omega),hS];simp
  have hSt:S'.take i=S:=by
   obtain ⟨r,rfl⟩:=Mj;rw [<- hS];simp
  refine ⟨by rw [h1];simp;omega,Mj,h3,fun k ok hk ho=>?_⟩;by_cases e:k=i
  ·subst e;have GL:ok=o:=by
    rw [ZC (by omega),hp] at ho;simpa using ho.symm
   subst GL;have htk:(pre++ok::rest).take k=pre:=by rw [<- hp];simp
   rw [htk,hSt];exact ⟨d,SL,s,hd,gq,uK,mY,ba⟩
  ·exact h4 k ok (by omega) ho
structure aac (c:Cx) (D:List Nat) (hs:List bd) (l:List Oper) (m:Nat) (S:List c5) (a0:Act) (fuel:Nat) (listed:Array Bool) (a:Act) (w:World):Prop where
 sz:listed.size=l.length
 dc:DC l (Ls listed)
 hi:∀ k,m<=k->¬ Ls listed k
 defers:a.defers=D.map mark
 size:a.tmps.size=c.nt
 Gs:∀ t,(∀ (j:Nat) (o:Oper),l[j]? = some o->Ls listed j->o.dst≠some t)->a.tmps[t]? = a0.tmps[t]?
 left:∃ U:List Nat,U.Nodup/\(∀ i,i∈U↔i<l.length/\¬ Ls listed i)/\U.length=fuel
 own:∃ β:Nat->Value,Mem c (fh β (fun i=>listed.getD i false) S 0++(hs++nB D)) w/\∀ (j:Nat) (o:Oper) (d:Nat) (s:c5),l[j]? = some o->o.dst=some d->S[j]? = some s->Ls listed j->a.tmps[d]? = some (s.F β)
def qN (n m:Nat):Array Bool:=(List.replicate m true++List.replicate (n-m) false).toArray
theorem MW {P:Program} {dst:Option Tmp} {x:Operand} {k:Nat} {ty:TypeId} {pos:String} {af:Array Edge} {ρ:Operand->Value} {K:Value->World->Prop}
  (h:match (execOp ρ ⟨dst,.extract x k,ty,pos,af,none⟩).run P w with
   | .ok (.value v) w'=>K v w'
   | .ok (.enter f args) w'=>w'=w/\Calls P f args w (fun e Ah=>∃ v,e=.returned v/\K v Ah)
   | _=>False):∃ v,K v w/\∀ w2,(execOp ρ ⟨dst,.extract x k,ty,pos,af,none⟩).run P w2=.ok (.value v) w2:=by
 simp only [execOp] at h ⊢;generalize ρ x=u at h ⊢;cases u with
 | tuple vs =>
  simp only [Instr.extract] at h ⊢;cases hv:vs[k]? with
  | none=>simp [hv] at h
  | some v=>simp [hv] at h ⊢;exact h
 | _=>simp [Instr.extract] at h
def FH (l:List Oper) (p:Nat):Prop:=∃ d x k ty pos af,l[p]? = some ⟨some d,.extract x k,ty,pos,af,none⟩/\Region.noSelect l.toArray=true/\Region.free .any l.toArray ((List.range l.length).map fun j=>((jB l []).getD p 0).testBit j).toArray p=true
theorem Ii {ops:Array Oper} {l1 l2:Array Bool} (h:Region.free .any ops l1 i=true) (hle:∀ j,j<ops.size->j≠i->l1.getD j true=true->l2.getD j true=true):Region.free .any ops l2 i=true:=by
 unfold Region.free at h ⊢;cases hi:ops[i]? with
 | none=>rw [hi] at h;cases h
 | some oi =>
  rw [hi] at h;simp only [Z4,ZW] at h ⊢;intro j hj;have h1:=h j hj;simp only [ZT] at h1 ⊢;rcases h1 with (h1 | h1) | h1
  ·exact .inl (.inl h1)
  ·by_cases e:j=i
   ·exact .inl (.inl (by simp [e]))
   ·exact .inl (.inr (hle j hj e h1))
  ·exact .inr h1
theorem HG {l:List Oper} (Yj:u4 l 0=true) {listed:Array Bool} (hsz:listed.size=l.length) (Bo:DC l (Ls listed)) {i:Nat} (hi:i∈Region.ready .any l.toArray listed) {j:Nat} (ac2:((jB l []).getD i 0).testBit j=true):j=i\/Ls listed j:=by
 obtain ⟨o,ho,hn,hd⟩:=(eI hsz).1 hi;have aK:i<l.length:=(Zn.1 ho).1;have Fe:DC l (fun k=>k=i\/Ls listed k):=by
  intro k ok hk hL e he hb;rcases hL with e' | hL
  ·subst e';rw [ho] at hk;cases hk;exact .inr (hd e he hb)
  ·exact .inr (Bo k ok hk hL e he hb)
 exact jT Fe Yj i aK (.inl I) j ac2
def pY (P:Program) (c:Cx) (D:List Nat) (hs:List bd) (l:List Oper) (Q:Exit->Act->World->Prop) (m i n:Nat) (rest:List Oper) (SL:(Nat->Value)->aL) (S:List c5):Prop:=
 ∃ S' qK,xO P c hs l i (rest.take n) SL S S' qK/\∀ β,Tr c D (qK β) (fh β (fun _=>true) S' 0++hs) (Left P l.toArray Q (l.length-m) (qN l.length m))
end
end Go.SL
