/- Parts of the proof: K5 K6 GkLook K7 K8 K9 K9q. -/
import Derived.Test.YteonnodafmegaaaGreatDoorCM04
import Derived.Test.YteonnodafmegaaaGreatDoorCM03
import Derived.Test.YteonnodafmegaaaGreatDoorCM01
set_option linter.unusedSectionVars false
set_option linter.unusedVariables false
set_option linter.unusedSimpArgs false
namespace Go.Proofs.A1
open Go Go.SL
open Tryz
open Tryz renaming prog->T_
theorem FJ {c:Cx} {D:List Nat} {sl:aI} {hs hs':List a8} {X:Act->World->Prop} {E:TypeId} {g:Nat} {xs:List Value} (n sz:Nat) (ht:Take hs (bC g (.cells xs.toArray E (0,0))) hs') (hl:xs.length=n*sz) (hn:Nat.ble n 1000=true)
  (k:Tr c D sl (row E sz (.slice (some ⟨g,0,none⟩) n n) n xs::hs') X):Tr c D sl hs X:=
 dx (cur:=[]) (by rw [List.append_nil];exact ht) (Nat.le_refl _) (by have:=Nat.le_of_ble_eq_true hn;unfold maxLen;omega) (by rw [List.append_nil];exact hl) hl k
theorem bY {c:Cx} {D:List Nat} {sl:aI} {hs hs':List a8} {X:Act->World->Prop} {E:TypeId} {g:Nat} {xs ys:List Value} (n sz:Nat) (ht:Take hs (bC g (.cells xs.toArray E (0,0))) hs') (he:xs=ys) (hl:ys.length=n*sz) (hn:Nat.ble n 1000=true)
  (k:Tr c D sl (row E sz (.slice (some ⟨g,0,none⟩) n n) n ys::hs') X):Tr c D sl hs X:=by
 subst he;exact FJ n sz ht hl hn k
def fI (l:List ByteArray) (x:ByteArray):Bool:=l.any fun y=>decide (x=y)
theorem ef {l:List ByteArray} {x:ByteArray}:fI l x=true↔x∈l:=by
 unfold fI;rw [List.any_eq_true];constructor
 ·rintro ⟨y,hy,h⟩;rw [decide_eq_true_iff] at h;rw [h];exact hy
 ·intro h;exact ⟨x,h,by simp⟩
theorem BN {lv:Value} {l:List ByteArray} (x:ByteArray) {w:World} (h:Rd w lv 1 (fG l)) :
  aj T_ 181 [lv,.string x] w (.int .i64 (ia (fun y=>decide (x=y)) l)):=by
 obtain ⟨a,cp,b,o,rfl,c8,bV,ha,hc⟩:=h;rw [bA] at *;unfold maxLen at bV;refine ah func181 I I ?_;refine Jr<|Ja I<|Jn<|Jq<|Jr<|Jv I<|JI I<|Jv I<|Jn<|J0 ?_;refine aY (fun k:Nat=>k<=l.length/\∀ i,i<k->(l[i]?.map fun y=>decide (x=y)).getD false=false) (fun k=>[(8,.int .i64 k),(7,.int .i64 l.length),(0,.slice a l.length cp),(1,.string x)]) (fun _=>[]) (fun k=>l.length-k) ?_ ?_
 ·apply aK 0 ⟨Zi _,fun i h=>by omega⟩
  case hs1=>exact cj
  case ht=>(try simp only [Ze,Zf,Za]);exact .nil
 rintro k ⟨hk,hf⟩;by_cases aL:k<l.length
 ·have cM:=ha (iy aL);have c0:w.cell? ⟨b,o+k*1,none⟩=some (.string l[k]):=(hc k _ (fF aL)).2 0 _ I;have hps:(l[k]?.map fun y=>decide (x=y)).getD false=decide (x=l[k]):=by simp [aL]
  (refine Jr<|JA I<|Jn<|Jq<|Jd I fun ar=>Jk<|Jq<|J0<|Jr<|Jv I<|Ja I<|Ji<|Jv I<|Jv I<|Jv I<|ab (gj cM ar) I ?_;refine ab (ag (.of I) (At.base c0 I)) I ?_;refine ab (eh (.of I) (.of I)) I ?_;refine Jn<|gl I (fun ar=>?_) fun ar=>?_;refine Jr<|Jv I<|Ja I<|Jn<|Je<|Jm<|Jh<|Jh<|Jm<|Jh<|JT ?_;rotate_left;refine Jw<|Jj<|Jt<|Jg<|JB I (by omega)<|Jv I<|Jn ?_;rotate_right)
  ·rw [gP hf aL (by simpa using ar)]
  ·apply aJ (k+1) ⟨by omega,fun i hi=>by
    by_cases e:i=k
    ·rw [e,hps];simpa using ar
    ·exact hf i (by omega)⟩ (by omega)
   case hs1=>exact cj
   case ht=>(try simp only [Ze,Zf,Za]);exact .nil
 ·obtain rfl:k=l.length:=by omega
  refine Jr<|JA I<|Jn<|Jq<|Jc I fun ar=>Jp<|Jl<|Jo<|Jt<|Jr<|Ja I<|Jn<|Je<|JT ?_;rw [fO hf]
theorem kz {lv:Value} {l:List ByteArray} (x:ByteArray) {w:World} (h:Rd w lv 1 (fG l)) :
  aj T_ 179 [lv,.string x] w (.bool (fI l x)):=by
 have iH:∀ w',aD [] w w'->aj T_ 181 [lv,.string x] w' (.int .i64 (ia (fun y=>decide (x=y)) l)):=fun w' hk=>BN x (h.keeps hk)
 have e:fI l x=l.any fun y=>decide (x=y):=rfl
 rw [e,<- kh];refine ah func179 I I ?_
 (refine Jr<|Ja I<|Ji<|Jv I<|Jv I<|ai aX I (fun w' aq=>(iH w' (Mem.keeps aq))) ?_;refine JG I<|Ja I<|Jn<|Je<|JT ?_)
 rfl
theorem Nc {lv:Value} {l:List Int} (x:Int) {w:World} (h:Rd w lv 1 (ints l)) :
  aj T_ 241 [lv,.int .i64 x] w (.int .i64 (ia (fun y=>decide (x=y)) l)):=by
 obtain ⟨a,cp,b,o,rfl,c8,bV,ha,hc⟩:=h;rw [c5] at *;unfold maxLen at bV;refine ah func241 I I ?_;refine Jr<|Ja I<|Jn<|Jq<|Jr<|Jv I<|JI I<|Jv I<|Jn<|J0 ?_;refine aY (fun k:Nat=>k<=l.length/\∀ i,i<k->(l[i]?.map fun y=>decide (x=y)).getD false=false) (fun k=>[(8,.int .i64 k),(7,.int .i64 l.length),(0,.slice a l.length cp),(1,.int .i64 x)]) (fun _=>[]) (fun k=>l.length-k) ?_ ?_
 ·apply aK 0 ⟨Zi _,fun i h=>by omega⟩
  case hs1=>exact cj
  case ht=>(try simp only [Ze,Zf,Za]);exact .nil
 rintro k ⟨hk,hf⟩;by_cases aL:k<l.length
 ·have cM:=ha (jI aL);have c0:w.cell? ⟨b,o+k*1,none⟩=some (.int .i64 l[k]):=(hc k _ (iC aL)).2 0 _ I;have hps:(l[k]?.map fun y=>decide (x=y)).getD false=decide (x=l[k]):=by simp [aL]
  (refine Jr<|JA I<|Jn<|Jq<|Jd I fun ar=>Jk<|Jq<|J0<|Jr<|Jv I<|Ja I<|Ji<|Jv I<|Jv I<|Jv I<|ab (gj cM ar) I ?_;refine ab (ag (.of I) (At.base c0 I)) I ?_;refine JC I<|Jn<|gl I (fun ar=>?_) fun ar=>?_;refine Jr<|Jv I<|Ja I<|Jn<|Je<|Jm<|Jh<|Jh<|Jm<|Jh<|JT ?_;rotate_left;refine Jw<|Jj<|Jt<|Jg<|JB I (by omega)<|Jv I<|Jn ?_;rotate_right)
  ·rw [gP hf aL (by simpa using ar)]
  ·apply aJ (k+1) ⟨by omega,fun i hi=>by
    by_cases e:i=k
    ·rw [e,hps];simpa using ar
    ·exact hf i (by omega)⟩ (by omega)
   case hs1=>exact cj
   case ht=>(try simp only [Ze,Zf,Za]);exact .nil
 ·obtain rfl:k=l.length:=by omega
  refine Jr<|JA I<|Jn<|Jq<|Jc I fun ar=>Jp<|Jl<|Jo<|Jt<|Jr<|Ja I<|Jn<|Je<|JT ?_;rw [fO hf]
theorem lB {lv:Value} {l:List Int} (x:Int) {w:World} (h:Rd w lv 1 (ints l)) :
  aj T_ 154 [lv,.int .i64 x] w (.bool (l.contains x)):=by
 have iH:∀ w',aD [] w w'->aj T_ 241 [lv,.int .i64 x] w' (.int .i64 (ia (fun y=>decide (x=y)) l)):=fun w' hk=>Nc x (h.keeps hk)
 have e:l.contains x=l.any fun y=>decide (x=y):=by
  rw [List.contains_eq_any_beq];rfl
 rw [e,<- kh];refine ah func154 I I ?_
 (refine Jr<|Ja I<|Ji<|Jv I<|Jv I<|ai aX I (fun w' aq=>(iH w' (Mem.keeps aq))) ?_;refine JG I<|Ja I<|Jn<|Je<|JT ?_)
 rfl
theorem wC {lv:Value} {l:List ByteArray} {w:World} (h:Rd w lv 1 (fG l)) (hl:l.length<=1000) :
  bh T_ 234 [lv] w [] (fun _:Value=>True) id (fun v=>[row 9 1 v l.length (aM l)]):=by
 have h':=h;obtain ⟨a,cp,b,o,rfl,c8,bV,ha,hc⟩:=h;refine aR func234 I I ?_;cases a with
 | none =>
  have mF:l=[]:=by
   cases l with
   | nil=>rfl
   | cons x r=>exact absurd (ha (by simp [fG])) (by simp)
  subst mF
  (refine Jr<|Ja I<|Jn<|Jq<|Jr<|Jv I<|ab (gW (.of I) (.of I)) I ?_;refine Jn<|cE (.of I) ?_;refine Jr<|Ja I<|Jn<|Ju ?_)
  refine aP 9 1 ?_
  first | with_reducible apply aN | with_reducible apply aO
  case he=>exact dJ I I
  case hR=>
   intro w' aq;exact aG (.slice none 0 0) trivial (by exact .cons .here .nil) aq I
 | some ad =>
  (refine Jr<|Ja I<|Jn<|Jq<|Jr<|Jv I<|ab (gW (.of I) (.of I)) I ?_;refine Jn<|bR (.of I) ?_;refine Jk<|Jr<|bb (aB .nil I I I I) I fun _ _=>?_;refine Jv I ?_)
  rename_i bq mA;refine bY (g:=bq) (E:=9) (ys:=[]) 0 1 (by exact .here) I I I ?_
  with_reducible apply gK
  case hx=>exact Is.of I
  case hy=>exact Is.of I
  case ht=>exact .here
  case hsrc=>exact fun w' aq=>h'.keeps aq.keeps
  case h1=>exact ux l
  case hz=>exact I
  case hsz=>exact I
  case hb0=>exact I
  case hb=>rw [bA];omega
  case hd=>rfl
  intro v';rw [bA,<- oD,Nat.zero_add,Za];refine Ja I<|Jn<|Je ?_
  first | with_reducible apply aN | with_reducible apply aO
  case he=>exact dJ I I
  case hR=>
   intro w' aq;exact aG v' trivial (by exact .cons .here .nil) aq I
theorem Mo (l:List Sr):oH l=(wW l).flatten:=rfl
theorem GJ {lv:Value} {l:List Sr} {w:World} (h:Rd w lv 2 (wW l)) (hl:l.length<=1000) :
  bh T_ 266 [lv] w [] (fun _:Value=>True) id (fun v=>[row 186 2 v l.length (oH l)]):=by
 have h':=h;obtain ⟨a,cp,b,o,rfl,c8,bV,ha,hc⟩:=h;refine aR func266 I I ?_;cases a with
 | none =>
  have mF:l=[]:=by
   cases l with
   | nil=>rfl
   | cons x r=>exact absurd (ha (by simp [wW])) (by simp)
  subst mF
  (refine Jr<|Ja I<|Jn<|Jq<|Jr<|Jv I<|ab (gW (.of I) (.of I)) I ?_;refine Jn<|cE (.of I) ?_;refine Jr<|Ja I<|Jn<|Ju ?_)
  refine aP 186 2 ?_
  first | with_reducible apply aN | with_reducible apply aO
  case he=>exact dJ I I
  case hR=>
   intro w' aq;exact aG (.slice none 0 0) trivial (by exact .cons .here .nil) aq I
 | some ad =>
  (refine Jr<|Ja I<|Jn<|Jq<|Jr<|Jv I<|ab (gW (.of I) (.of I)) I ?_;refine Jn<|bR (.of I) ?_;refine Jk<|Jr ?_)
  with_reducible apply bb
  case hr=>exact kP
  case hd=>rfl
  intro bq mA;refine OU I I ?_;refine bY (g:=bq) (E:=186) (ys:=[]) 0 2 (by exact .here) I I I ?_
  with_reducible apply gK
  case hx=>exact Is.of I
  case hy=>exact Is.of I
  case ht=>exact .here
  case hsrc=>exact fun w' aq=>h'.keeps aq.keeps
  case h1=>exact Mq l
  case hz=>exact I
  case hsz=>exact I
  case hb0=>exact I
  case hb=>rw [cu];omega
  case hd=>rfl
  intro v';rw [cu,Nat.zero_add,Za,<- Mo];refine Ja I<|Jn<|Je ?_
  first | with_reducible apply aN | with_reducible apply aO
  case he=>exact dJ I I
  case hR=>
   intro w' aq;exact aG v' trivial (by exact .cons .here .nil) aq I
theorem N5 (l:List De):l7 l=(wq l).flatten:=rfl
theorem GL {lv:Value} {l:List De} {w:World} (h:Rd w lv 3 (wq l)) (hl:l.length<=1000) :
  bh T_ 267 [lv] w [] (fun _:Value=>True) id (fun v=>[row 90 3 v l.length (l7 l)]):=by
 have h':=h;obtain ⟨a,cp,b,o,rfl,c8,bV,ha,hc⟩:=h;refine aR func267 I I ?_;cases a with
 | none =>
  have mF:l=[]:=by
   cases l with
   | nil=>rfl
   | cons x r=>exact absurd (ha (by simp [wq])) (by simp)
  subst mF
  (refine Jr<|Ja I<|Jn<|Jq<|Jr<|Jv I<|ab (gW (.of I) (.of I)) I ?_;refine Jn<|cE (.of I) ?_;refine Jr<|Ja I<|Jn<|Ju ?_)
  refine aP 90 3 ?_
  first | with_reducible apply aN | with_reducible apply aO
  case he=>exact dJ I I
  case hR=>
   intro w' aq;exact aG (.slice none 0 0) trivial (by exact .cons .here .nil) aq I
 | some ad =>
  (refine Jr<|Ja I<|Jn<|Jq<|Jr<|Jv I<|ab (gW (.of I) (.of I)) I ?_;refine Jn<|bR (.of I) ?_;refine Jk<|Jr ?_)
  with_reducible apply bb
  case hr=>exact kP
  case hd=>rfl
  intro bq mA;refine OU I I ?_;refine bY (g:=bq) (E:=90) (ys:=[]) 0 3 (by exact .here) I I I ?_
  with_reducible apply gK
  case hx=>exact Is.of I
  case hy=>exact Is.of I
  case ht=>exact .here
  case hsrc=>exact fun w' aq=>h'.keeps aq.keeps
  case h1=>exact N7 l
  case hz=>exact I
  case hsz=>exact I
  case hb0=>exact I
  case hb=>rw [bZ];omega
  case hd=>rfl
  intro v';rw [bZ,Nat.zero_add,Za,<- N5];refine Ja I<|Jn<|Je ?_
  first | with_reducible apply aN | with_reducible apply aO
  case he=>exact dJ I I
  case hR=>
   intro w' aq;exact aG v' trivial (by exact .cons .here .nil) aq I
theorem Mb (l:List Ti):qH l=(u9 l).flatten:=rfl
theorem GI {lv:Value} {l:List Ti} {w:World} (h:Rd w lv 3 (u9 l)) (hl:l.length<=1000) :
  bh T_ 268 [lv] w [] (fun _:Value=>True) id (fun v=>[row 187 3 v l.length (qH l)]):=by
 have h':=h;obtain ⟨a,cp,b,o,rfl,c8,bV,ha,hc⟩:=h;refine aR func268 I I ?_;cases a with
 | none =>
  have mF:l=[]:=by
   cases l with
   | nil=>rfl
   | cons x r=>exact absurd (ha (by simp [u9])) (by simp)
  subst mF
  (refine Jr<|Ja I<|Jn<|Jq<|Jr<|Jv I<|ab (gW (.of I) (.of I)) I ?_;refine Jn<|cE (.of I) ?_;refine Jr<|Ja I<|Jn<|Ju ?_)
  refine aP 187 3 ?_
  first | with_reducible apply aN | with_reducible apply aO
  case he=>exact dJ I I
  case hR=>
   intro w' aq;exact aG (.slice none 0 0) trivial (by exact .cons .here .nil) aq I
 | some ad =>
  (refine Jr<|Ja I<|Jn<|Jq<|Jr<|Jv I<|ab (gW (.of I) (.of I)) I ?_;refine Jn<|bR (.of I) ?_;refine Jk<|Jr ?_)
  with_reducible apply bb
  case hr=>exact kP
  case hd=>rfl
  intro bq mA;refine OU I I ?_;refine bY (g:=bq) (E:=187) (ys:=[]) 0 3 (by exact .here) I I I ?_
  with_reducible apply gK
  case hx=>exact Is.of I
  case hy=>exact Is.of I
  case ht=>exact .here
  case hsrc=>exact fun w' aq=>h'.keeps aq.keeps
  case h1=>exact Md l
  case hz=>exact I
  case hsz=>exact I
  case hb0=>exact I
  case hb=>rw [bO];omega
  case hd=>rfl
  intro v';rw [bO,Nat.zero_add,Za,<- Mb];refine Ja I<|Jn<|Je ?_
  first | with_reducible apply aN | with_reducible apply aO
  case he=>exact dJ I I
  case hR=>
   intro w' aq;exact aG v' trivial (by exact .cons .here .nil) aq I
theorem zS (l:List Po):jC l=(ud l).flatten:=rfl
theorem M1 {lv:Value} {l:List Sr} {g:Sr->ByteArray} {f:FuncId} {first cap:List Value} [bU T_ f] {w:World} (h:Rd w lv 2 (wW l)) (hn:l.length<=1000000)
  (cn:∀ x∈l,∀ w',aD [] w w'->aj T_ f (first++[.agg x.cells.toArray]++cap) w' (.string (g x))) :
  bh T_ 140 [lv,.func (.func f) first.toArray cap.toArray] w [] (fun _:Value=>True) id (fun v=>[row 9 1 v l.length (aM (l.map g))]):=by
 obtain ⟨a,cp,b,o,rfl,c8,bV,ha,hc⟩:=h;rw [cu] at *;unfold maxLen at bV;refine aR func140 I I ?_;refine Jr<|Ja I<|Ji<|Ja I<|Jn<|Jq<|Jr<|Jv I<|JI I<|Jv I<|Jn<|J0 ?_;refine aP 9 1 ?_;refine aY (ι:=Nat×Value) (fun x=>x.1<=l.length) (fun x=>[(10,.int .i64 x.1),(9,.int .i64 l.length),(8,.slice a l.length cp),(5,x.2),(1,.func (.func f) first.toArray cap.toArray)]) (fun x=>[row 9 1 x.2 x.1 (aM ((l.take x.1).map g))]) (fun x=>l.length-x.1) ?_ ?_
 ·apply aK (0,.slice none 0 0) (Zi _)
  case hs1=>exact cj
  case ht=>
   exact .cons .here .nil
 rintro ⟨k,v⟩ hk;dsimp only at hk ⊢;by_cases aL:k<l.length
 ·have cM:=ha (gL aL);have aF:=(hc k _ (fk aL)).2;have iH:=cn _ (Zj aL);have I4:aM ((l.take (k+1)).map g)=aM ((l.take k).map g)++[.string (g l[k])]:=by
   rw [List.take_succ_eq_append_getElem aL,List.map_append,eQ];rfl
  generalize g l[k]=gk at iH I4;unfold Sr.cells at aF iH
  (refine Jr<|JA I<|Jn<|Jq<|Jd I fun ar=>Jk<|Jq<|J0<|Jr<|ab (gj cM ar) I ?_;refine ab (iI (eU.base aF I)) I ?_;refine Jz I I fun _ _=>au (.of I) (.of I) .here I I (ie I I) (bF I) an ?_;refine Jn<|Jg<|Jv I<|Jv I<|ab (cr .here) I ?_)
  refine ai bN I (fun w' aq=>(iH w' (Mem.keeps aq))) ?_;refine bb (aB (.cons (.of I) .nil) I I I I) I (fun _ _=>?_);refine bE (.of I) (.of I) bT .here an (by rfl) (eF I) (by rfl) (by rfl) (by rfl) eV (by rfl) ?_;intro v';refine Ja I<|Jx<|Jj<|Jt<|Jg<|JB I (by omega)<|Jv I<|Jn ?_;apply aJ (k+1,v') (by show k+1<=l.length;omega) (by show l.length-(k+1)<l.length-k;omega)
  case hs1=>exact cj
  case ht=>
   show bn _ [row 9 1 v' (k+1) (aM ((l.take (k+1)).map g))] _;rw [I4];exact .cons .here .nil
 ·obtain rfl:k=l.length:=by omega
  rw [List.take_length];refine Jr<|JA I<|Jn<|Jq<|Jc I fun ar=>Jp<|Jl<|Jo<|Jt<|Jr<|Jv I<|Ja I<|Jn<|Je ?_
  first | with_reducible apply aN | with_reducible apply aO
  case he=>exact dJ I I
  case hR=>
   intro w' aq;exact aG v trivial (by exact .cons .here .nil) aq I
theorem EP {lv:Value} {l:List De} {g:De->ByteArray} {f:FuncId} {first cap:List Value} [bU T_ f] {w:World} (h:Rd w lv 3 (wq l)) (hn:l.length<=1000000)
  (cn:∀ x∈l,∀ w',aD [] w w'->aj T_ f (first++[.agg x.cells.toArray]++cap) w' (.string (g x))) :
  bh T_ 143 [lv,.func (.func f) first.toArray cap.toArray] w [] (fun _:Value=>True) id (fun v=>[row 9 1 v l.length (aM (l.map g))]):=by
 obtain ⟨a,cp,b,o,rfl,c8,bV,ha,hc⟩:=h;rw [bZ] at *;unfold maxLen at bV;refine aR func143 I I ?_;refine Jr<|Ja I<|Ji<|Ja I<|Jn<|Jq<|Jr<|Jv I<|JI I<|Jv I<|Jn<|J0 ?_;refine aP 9 1 ?_;refine aY (ι:=Nat×Value) (fun x=>x.1<=l.length) (fun x=>[(10,.int .i64 x.1),(9,.int .i64 l.length),(8,.slice a l.length cp),(5,x.2),(1,.func (.func f) first.toArray cap.toArray)]) (fun x=>[row 9 1 x.2 x.1 (aM ((l.take x.1).map g))]) (fun x=>l.length-x.1) ?_ ?_
 ·apply aK (0,.slice none 0 0) (Zi _)
  case hs1=>exact cj
  case ht=>
   exact .cons .here .nil
 rintro ⟨k,v⟩ hk;dsimp only at hk ⊢;by_cases aL:k<l.length
 ·have cM:=ha (gS aL);have aF:=(hc k _ (fu aL)).2;have iH:=cn _ (Zj aL);have I4:aM ((l.take (k+1)).map g)=aM ((l.take k).map g)++[.string (g l[k])]:=by
   rw [List.take_succ_eq_append_getElem aL,List.map_append,eQ];rfl
  generalize g l[k]=gk at iH I4;unfold De.cells at aF iH
  (refine Jr<|JA I<|Jn<|Jq<|Jd I fun ar=>Jk<|Jq<|J0<|Jr<|ab (gj cM ar) I ?_;refine ab (iI (eU.base aF I)) I ?_;refine Jz I I fun _ _=>au (.of I) (.of I) .here I I (fx I I I) (bF I) an ?_;refine Jn<|Jg<|Jv I<|Jv I<|ab (cr .here) I ?_)
  refine ai bN I (fun w' aq=>(iH w' (Mem.keeps aq))) ?_;refine bb (aB (.cons (.of I) .nil) I I I I) I (fun _ _=>?_);refine bE (.of I) (.of I) bT .here an (by rfl) (eF I) (by rfl) (by rfl) (by rfl) eV (by rfl) ?_;intro v';refine Ja I<|Jx<|Jj<|Jt<|Jg<|JB I (by omega)<|Jv I<|Jn ?_;apply aJ (k+1,v') (by show k+1<=l.length;omega) (by show l.length-(k+1)<l.length-k;omega)
  case hs1=>exact cj
  case ht=>
   show bn _ [row 9 1 v' (k+1) (aM ((l.take (k+1)).map g))] _;rw [I4];exact .cons .here .nil
 ·obtain rfl:k=l.length:=by omega
  rw [List.take_length];refine Jr<|JA I<|Jn<|Jq<|Jc I fun ar=>Jp<|Jl<|Jo<|Jt<|Jr<|Jv I<|Ja I<|Jn<|Je ?_
  first | with_reducible apply aN | with_reducible apply aO
  case he=>exact dJ I I
  case hR=>
   intro w' aq;exact aG v trivial (by exact .cons .here .nil) aq I
theorem EO {lv:Value} {l:List Ti} {g:Ti->ByteArray} {f:FuncId} {first cap:List Value} [bU T_ f] {w:World} (h:Rd w lv 3 (u9 l)) (hn:l.length<=1000000)
  (cn:∀ x∈l,∀ w',aD [] w w'->aj T_ f (first++[.agg x.cells.toArray]++cap) w' (.string (g x))) :
  bh T_ 178 [lv,.func (.func f) first.toArray cap.toArray] w [] (fun _:Value=>True) id (fun v=>[row 9 1 v l.length (aM (l.map g))]):=by
 obtain ⟨a,cp,b,o,rfl,c8,bV,ha,hc⟩:=h;rw [bO] at *;unfold maxLen at bV;refine aR func178 I I ?_;refine Jr<|Ja I<|Ji<|Ja I<|Jn<|Jq<|Jr<|Jv I<|JI I<|Jv I<|Jn<|J0 ?_;refine aP 9 1 ?_;refine aY (ι:=Nat×Value) (fun x=>x.1<=l.length) (fun x=>[(10,.int .i64 x.1),(9,.int .i64 l.length),(8,.slice a l.length cp),(5,x.2),(1,.func (.func f) first.toArray cap.toArray)]) (fun x=>[row 9 1 x.2 x.1 (aM ((l.take x.1).map g))]) (fun x=>l.length-x.1) ?_ ?_
 ·apply aK (0,.slice none 0 0) (Zi _)
  case hs1=>exact cj
  case ht=>
   exact .cons .here .nil
 rintro ⟨k,v⟩ hk;dsimp only at hk ⊢;by_cases aL:k<l.length
 ·have cM:=ha (eO aL);have aF:=(hc k _ (dY aL)).2;have iH:=cn _ (Zj aL);have I4:aM ((l.take (k+1)).map g)=aM ((l.take k).map g)++[.string (g l[k])]:=by
   rw [List.take_succ_eq_append_getElem aL,List.map_append,eQ];rfl
  generalize g l[k]=gk at iH I4;unfold Ti.cells at aF iH
  (refine Jr<|JA I<|Jn<|Jq<|Jd I fun ar=>Jk<|Jq<|J0<|Jr<|ab (gj cM ar) I ?_;refine ab (iI (eU.base aF I)) I ?_;refine Jz I I fun _ _=>au (.of I) (.of I) .here I I (fx I I I) (bF I) an ?_;refine Jn<|Jg<|Jv I<|Jv I<|ab (cr .here) I ?_)
  refine ai bN I (fun w' aq=>(iH w' (Mem.keeps aq))) ?_;refine bb (aB (.cons (.of I) .nil) I I I I) I (fun _ _=>?_);refine bE (.of I) (.of I) bT .here an (by rfl) (eF I) (by rfl) (by rfl) (by rfl) eV (by rfl) ?_;intro v';refine Ja I<|Jx<|Jj<|Jt<|Jg<|JB I (by omega)<|Jv I<|Jn ?_;apply aJ (k+1,v') (by show k+1<=l.length;omega) (by show l.length-(k+1)<l.length-k;omega)
  case hs1=>exact cj
  case ht=>
   show bn _ [row 9 1 v' (k+1) (aM ((l.take (k+1)).map g))] _;rw [I4];exact .cons .here .nil
 ·obtain rfl:k=l.length:=by omega
  rw [List.take_length];refine Jr<|JA I<|Jn<|Jq<|Jc I fun ar=>Jp<|Jl<|Jo<|Jt<|Jr<|Jv I<|Ja I<|Jn<|Je ?_
  first | with_reducible apply aN | with_reducible apply aO
  case he=>exact dJ I I
  case hR=>
   intro w' aq;exact aG v trivial (by exact .cons .here .nil) aq I
theorem NM (n:Nat) (hn:n<=1000) (w:World):bh T_ 235 [.slice none 0 0,.int .i64 (n:Int)] w [] (fun _:Value=>True) id (fun v=>[row 9 1 v 0 []]):=by
 refine aR func235 I I ?_
 (refine Jr<|Ja I<|Jn<|Jq<|Jr<|Jv I<|JA I<|Jn<|Jc I fun ar=>Jk<|Jq<|Jr<|Jv I<|Jv I<|ab (rE (.of I)) I ?_;refine Jv I<|JI I<|JS I (by omega)<|JS I (by omega)<|Ja I<|Ji<|Jv I<|JE I<|Jn<|gl I (fun ar=>?_) fun ar=>?_;refine Jg<|Jv I<|Jv I<|ab (rE (.of I)) I ?_;refine ab (fY (.of I) (.of I) (by omega) (by omega)) I ?_;refine Jv I ?_;rotate_left;refine Jk<|Jr<|Jv I<|Ja I<|Jn<|Je ?_;rotate_right)
 ·rw [show (n:Int)-(((0:Nat):Int)-((0:Nat):Int))=(n:Int) by omega]
  with_reducible apply CO
  case hx=>exact Is.of I
  case hy=>exact Is.of I
  case h0=>omega
  case hz=>exact I
  case hsz=>exact I
  case hb0=>exact I
  case hb=>omega
  case hd=>rfl
  intro v';refine c7 (E:=9) (sz:=1) (by exact .here) (by omega) fun g iu cur e nV BW BS tL=>?_;subst e
  (refine Jv I<|JI I<|ab (fY (.of I) (.of I) (by omega) (by omega)) I ?_;refine Ja I<|Ji<|Jv I<|Ja I<|Jn<|Je ?_)
  rw [show Go.sliced (some ⟨g,0,none⟩) 0 (((0:Nat):Int)).toNat iu 1=.slice (some ⟨g,0,none⟩) 0 iu from Be g iu 1]
  skip
  generalize hA:_++cur=al at BS ⊢;refine dx (n:=0) (xs:=[]) (cur:=al) (cap:=iu) (g:=g) (E:=9) (sz:=1) (by rw [Za];exact .here) (Zi _) BW BS I ?_
  first | with_reducible apply aN | with_reducible apply aO
  case he=>exact dJ I I
  case hR=>
   intro w' aq;exact aG (.slice (some ⟨g,0,none⟩) 0 iu) trivial (by exact .cons .here .nil) aq I
 ·refine aP 9 1 ?_
  first | with_reducible apply aN | with_reducible apply aO
  case he=>exact dJ I I
  case hR=>
   intro w' aq;exact aG (.slice none 0 0) trivial (by exact .cons .here .nil) aq I
theorem Mk (a b:List ByteArray):fG (a++b)=fG a++fG b:=by simp [fG]
theorem sy {α:Type} {l:List (List α)} {k:Nat} (h:k<l.length):(l.take (k+1)).flatten=(l.take k).flatten++l[k]:=by
 rw [List.take_add_one,Zc h,List.flatten_append];simp
theorem Ff {α:Type} (l:List (List α)) (k:Nat):(l.take k).flatten.length<=l.flatten.length:=by
 conv=>rhs;rw [<- List.take_append_drop k l]
 rw [List.flatten_append,Zg];omega
theorem Bf {α:Type} {l:List α} {k:Nat} (h:k<l.length):(l.map fun v=>[v])[k]? = some [l[k]]:=by simp [h]
theorem GG {lv:Value} {vs:List Value} {ess:List (List ByteArray)} {w:World} (h:Rd w lv 1 (vs.map fun v=>[v])) (hl:vs.length=ess.length) (hr:∀ (i:Nat) (v:Value) (es:List ByteArray),vs[i]? = some v->ess[i]? = some es->Rd w v 1 (fG es)) (hn:ess.flatten.length<=1000) :
  bh T_ 142 [lv] w [] (fun _:Value=>True) id (fun v=>[row 9 1 v ess.flatten.length (fG ess.flatten).flatten]):=by
 obtain ⟨a,cp,b,o,rfl,c8,bV,ha,hc⟩:=h;rw [Zd] at *;unfold maxLen at bV;refine aR func142 I I ?_;refine Jr<|Ja I<|Ji<|Ja I<|Jn<|Jq<|Jr<|Jv I<|JI I<|Jv I<|Jn<|J0 ?_;refine aY (ι:=Nat) (fun k=>k<=vs.length) (fun k=>[(11,.int .i64 k),(10,.int .i64 vs.length),(9,.slice a vs.length cp),(0,.slice a vs.length cp),(3,.int .i64 (((ess.take k).flatten.length:Nat):Int))]) (fun _=>[]) (fun k=>vs.length-k) ?_ ?_
 ·apply aK (0:Nat) (show (0:Nat)<=vs.length from Zi _)
  case hs1=>exact cj
  case ht=>(try simp only [Ze,Zf,Za]);exact .nil
 intro k hk;by_cases aL:k<vs.length
 ·have fE:k<ess.length:=by omega
  have cM:=ha (by intro e;have:=congrArg List.length e;simp at this;subst this;simp at aL);have T3:=hr k _ _ (Zc aL) (Zc fE);obtain ⟨a1,dZ,b1,o1,e1,_⟩:=T3;rw [bA] at e1;have c0:w.cell? ⟨b,o+k*1,none⟩=some (.slice a1 ess[k].length dZ):=by rw [<- e1];exact (hc k _ (Bf aL)).2 0 _ I
  have tN:=Ff ess (k+1);have hs:((ess.take (k+1)).flatten.length:Int)=(ess.take k).flatten.length+ess[k].length:=by rw [sy fE,Zg];omega
  (refine Jr<|JA I<|Jn<|Jq<|Jd I fun ar=>Jk<|Jq<|J0<|Jr<|ab (gj cM ar) I ?_;refine ab (ag (.of I) (At.base c0 I)) I ?_;refine Ja I<|Ji<|Jv I<|Jv I<|JI I<|JB I (by omega)<|Ja I<|Ji<|Jv I<|JA I<|Jn<|Jc I fun ar=>Jw<|Jj<|Jt<|Jg<|JB I (by omega)<|Jv I<|Jn ?_)
  apply aJ (k+1) (show k+1<=vs.length by omega) (show vs.length-(k+1)<vs.length-k by omega)
  case hs1=>
   rw [hs];exact .cons I (.cons I (.cons I (.cons I (.cons I .nil))))
  case ht=>exact .nil
 ·obtain rfl:k=vs.length:=by omega
  rw [show ess.take vs.length=ess by rw [hl,List.take_length]];refine Jr<|JA I<|Jn<|Jq<|Jc I fun ar=>Jp<|Jl<|Jo<|Jt<|Jr<|Jv I ?_;refine JN aX I (fun w1 aS=>NM _ hn _) ?_;intro v0 _;dsimp only [id_eq,Zb,Za];refine Ja I<|Jn<|Jq<|Jr<|Jv I<|JI I<|Jv I<|Jn<|J0 ?_;refine aY (ι:=Nat×Value) (fun x=>x.1<=vs.length) (fun x=>[(27,.int .i64 x.1),(26,.int .i64 vs.length),(25,.slice a vs.length cp),(6,x.2)]) (fun x=>[row 9 1 x.2 (ess.take x.1).flatten.length (fG (ess.take x.1).flatten).flatten]) (fun x=>vs.length-x.1) ?_ ?_
  ·apply aK (0,v0) (Zi _)
   case hs1=>exact cj
   case ht=>
    exact .cons .here .nil
  rintro ⟨k,v⟩ hk;dsimp only at hk ⊢;by_cases aL:k<vs.length
  ·have fE:k<ess.length:=by omega
   have cM:=ha (by intro e;have:=congrArg List.length e;simp at this;subst this;simp at aL);have T3:=hr k _ _ (Zc aL) (Zc fE);have Xc:=T3;obtain ⟨a1,dZ,b1,o1,e1,_⟩:=Xc;rw [bA] at e1;rw [e1] at T3;have c0:w.cell? ⟨b,o+k*1,none⟩=some (.slice a1 ess[k].length dZ):=by rw [<- e1];exact (hc k _ (Bf aL)).2 0 _ I
   have tN:=Ff ess (k+1);have hs:(ess.take (k+1)).flatten.length=(ess.take k).flatten.length+ess[k].length:=by rw [sy fE,Zg]
   (refine Jr<|JA I<|Jn<|Jq<|Jd I fun ar=>Jk<|Jq<|J0<|Jr<|ab (gj cM ar) I ?_;refine ab (ag (.of I) (At.base c0 I)) I ?_;refine Ja I<|Jn<|Jg<|Jv I<|Jv I ?_)
   with_reducible apply gK
   case hx=>exact Is.of I
   case hy=>exact Is.of I
   case ht=>exact .here
   case hsrc=>exact fun w' aq=>T3.keeps aq.keeps
   case h1=>exact ux _
   case hz=>exact I
   case hsz=>exact I
   case hb0=>exact I
   case hb=>rw [bA];omega
   case hd=>rfl
   intro v';rw [bA];refine Ja I<|Jx<|Jj<|Jt<|Jg<|JB I (by omega)<|Jv I<|Jn ?_;apply aJ (k+1,v') (show k+1<=vs.length by omega) (show vs.length-(k+1)<vs.length-k by omega)
   case hs1=>exact cj
   case ht=>
    show bn _ [row 9 1 v' (ess.take (k+1)).flatten.length (fG (ess.take (k+1)).flatten).flatten] _;rw [hs,sy fE,Mk,List.flatten_append];exact .cons .here .nil
  ·obtain rfl:k=vs.length:=by omega
   have pV:vs.length=ess.length:=hl;rw [pV,List.take_length];refine Jr<|JA I<|Jn<|Jq<|Jc I fun ar=>Jp<|Jl<|Jo<|Jt<|Jr<|Jv I<|Ja I<|Jn<|Je ?_
   first | with_reducible apply aN | with_reducible apply aO
   case he=>exact dJ I I
   case hR=>
    intro w' aq;exact aG v trivial (by exact .cons .here .nil) aq I
theorem Rd.one {w:World} {v:Value} {sz:Nat} {xs:List (List Value)} (h:Rd w v sz xs):v.oneCell'=true:=by
 obtain ⟨a,cap,b,o,rfl,_⟩:=h;rfl
def xq {α:Type} (bf:List ByteArray) (nm:α->ByteArray) (ck:α->Int) (l:List α) (k:Nat):Int:=(l[k]?.map fun x=>aV [bG (!kg (nm x)) 8,bG (fI (bf++(l.take k).map nm) (nm x)) 9,ck x]).getD 0
def fm {α:Type} (qO:Int) (bf:List ByteArray) (nm:α->ByteArray) (ck:α->Int) (l:List α):Int:=if qO<(l.length:Int) then 5 else jq (xq bf nm ck l) l.length
theorem RR.one {w:World} {r:Ro} {s d t p:Value} (h:RR w r s d t p):s.oneCell'=true/\d.oneCell'=true/\t.oneCell'=true/\p.oneCell'=true:=⟨Rd.one h.sr,Rd.one h.de,Rd.one h.ti,Rd.one h.po⟩
theorem oS {α:Type} {bf:List ByteArray} {nm:α->ByteArray} {ck:α->Int} {l:List α} {k:Nat} (h:k<l.length):xq bf nm ck l k=aV [bG (!kg (nm l[k])) 8,bG (fI (bf++(l.take k).map nm) (nm l[k])) 9,ck l[k]]:=by
 unfold xq;rw [Zc h];rfl
def fq (r:Ro) (m:Int):Int:=bG (decide (m<0)||decide (r.ma<=m)) 10
theorem E4 {r:Ro} {s d t p:Value} (m:Int) {w w1:World} (h:RR w1 r s d t p):aj T_ 136 [RA r s d t p,.int .i64 m] w (.int .i64 (fq r m)):=by
 obtain ⟨h1,h2,h3,h4⟩:=h.one;unfold RA;refine ah func136 I I ?_
 (refine Jr<|Jy I I fun _ _=>Ja I<|Ji<|Jv I<|JA I<|Jv I<|fM I I I I ?_;refine aC I I inferInstance (fun hg br=>(ao (.of I) ae)) I ?_;refine aC I I inferInstance (fun hg br=>(ag (.bL hg I) (At.lit .here I))) I ?_;refine aC I I inferInstance (fun hg br=>(zK (.bL hg I) (.bL hg I))) I ?_;refine ab (bX (.of I) I) I ?_;refine ai aX I (fun w' aq=>(dP _ 10 w')) ?_;refine Ja I<|Jn<|Je<|JT ?_)
 rfl
theorem Iz (x:Sr) (w:World):aj T_ 139 [.agg x.cells.toArray] w (.string x.nm):=by
 unfold Sr.cells;refine ah func139 I I ?_
 (refine Jr<|Jy I I fun _ _=>Ja I<|Ji<|bK I I ae ?_;refine JL I .here I<|Ja I<|Jn<|Je<|JT ?_)
 rfl
theorem Dm (x:De) (w:World):aj T_ 124 [.agg x.cells.toArray] w (.string x.nm):=by
 unfold De.cells;refine ah func124 I I ?_
 (refine Jr<|Jy I I fun _ _=>Ja I<|Ji<|bK I I ae ?_;refine JL I .here I<|Ja I<|Jn<|Je<|JT ?_)
 rfl
theorem Dl (x:Ti) (w:World):aj T_ 119 [.agg x.cells.toArray] w (.string x.nm):=by
 unfold Ti.cells;refine ah func119 I I ?_
 (refine Jr<|Jy I I fun _ _=>Ja I<|Ji<|bK I I ae ?_;refine JL I .here I<|Ja I<|Jn<|Je<|JT ?_)
 rfl
set_option maxHeartbeats 1000000 in
theorem Cf {lv bv:Value} {l:List Sr} {bf:List ByteArray} (qO:Int) {ck:Sr->Int} {f1 f2:FuncId} {first2 cap:List Value} [bU T_ f1] [bU T_ f2] {w:World} (h:Rd w lv 2 (wW l)) (hb:Rd w bv 1 (fG bf)) (hn:bf.length+l.length<=1000)
  (vY:∀ x∈l,∀ w',aD [] w w'->aj T_ f1 [.agg x.cells.toArray] w' (.string x.nm)) (vX:∀ x∈l,∀ w',aD [] w w'->aj T_ f2 (first2++[.agg x.cells.toArray]++cap) w' (.int .i64 (ck x))) :
  aj T_ 138 [lv,.int .i64 qO,bv,.func (.func f1) #[] #[],.func (.func f2) first2.toArray cap.toArray] w (.int .i64 (fm qO bf Sr.nm ck l)):=by
 obtain ⟨a,cp,b,o,rfl,c8,bV,ha,hc⟩:=h;rw [cu] at *;unfold maxLen at bV;unfold fm;refine ah func138 I I ?_
 (refine Jr<|Ja I<|Jn<|Jq<|Jr<|Jv I<|JI I<|Jv I<|JE I<|Jn<|gl I (fun ar=>?_) fun ar=>?_;refine Jr<|Ja I<|Jn<|Ju<|JT ?_;rotate_left;refine Jk<|Jr<|Jv I ?_;rotate_right)
 ·rw [if_pos (by omega)]
 rw [if_neg (by omega)];refine JN bN I (fun w1 aS=>wC (hb.keeps aS.keeps) (by omega)) ?_;intro v0 _;dsimp only [id_eq,Zb,Za];refine Ja I<|Jn<|Jq<|Jr<|Jv I<|JI I<|Jv I<|Jn<|J0 ?_;refine aY (ι:=Nat×Value) (fun x=>x.1<=l.length/\∀ i,i<x.1->xq bf Sr.nm ck l i=0) (fun x=>[(24,.int .i64 x.1),(23,.int .i64 l.length),(22,.slice a l.length cp),(11,x.2),(3,.func (.func f1) #[] #[]),(4,.func (.func f2) first2.toArray cap.toArray)]) (fun x=>[row 9 1 x.2 (bf++(l.take x.1).map Sr.nm).length (aM (bf++(l.take x.1).map Sr.nm))]) (fun x=>l.length-x.1) ?_ ?_
 ·apply aK (0,v0) ⟨Zi _,fun i hi=>absurd hi (Nat.not_lt_zero _)⟩
  case hs1=>exact cj
  case ht=>
   rw [show bf++(l.take 0).map Sr.nm=bf by simp];exact .cons .here .nil
 rintro ⟨k,v⟩ ⟨hk,hf⟩;dsimp only at hk hf ⊢;by_cases aL:k<l.length
 ·have cM:=ha (gL aL);have aF:=(hc k _ (fk aL)).2;have CC:=vY _ (Zj aL);have jk:=vX _ (Zj aL);have hE:=oS (bf:=bf) (nm:=Sr.nm) (ck:=ck) aL;have htk:bf++(l.take (k+1)).map Sr.nm=(bf++(l.take k).map Sr.nm)++[(l[k]).nm]:=by
   rw [List.take_succ_eq_append_getElem aL,List.map_append,Zh];rfl
  have hlen:(bf++(l.take k).map Sr.nm).length=bf.length+k:=by
   rw [Zg,Zd,List.length_take];omega
  have Ka:∀ (w':World),Rd w' v 1 (fG (bf++(l.take k).map Sr.nm))->aj T_ 179 [v,.string (l[k]).nm] w' (.bool (fI (bf++(l.take k).map Sr.nm) (l[k]).nm)):=fun w' hr=>kz _ hr
  generalize hB:bf++(l.take k).map Sr.nm=B at hE htk hlen Ka ⊢;have rT:B.length=B.length:=rfl;generalize l[k]=x at aF CC jk hE htk Ka;have a7:aM (B++[x.nm])=aM B++[.string x.nm]:=by rw [eQ];rfl
  have I6:(B++[x.nm]).length=B.length+1:=by simp
  unfold Sr.cells at aF CC jk
  (refine Jr<|JA I<|Jn<|Jq<|Jd I fun ar=>Jk<|Jq<|J0<|Jr<|ab (gj cM ar) I ?_;refine ab (iI (eU.base aF I)) I ?_;refine Jz I I fun _ _=>au (.of I) (.of I) .here I I (ie I I) (bF I) an ?_;refine Ji<|Jv I<|ab (cr .here) I ?_;refine ai bN I (fun w' aq=>(CC w' (Mem.keeps aq))) ?_;refine Ja I<|Jn<|Jq<|Jq ?_)
  with_reducible refine cC 12 (by kernel_rfl) ?_
  (refine ak jP I ?_;refine aQ bN I (fun w' aq=>(Dn _ w')) ?_;refine ak (eY (.of I)) I ?_;refine aQ aX I (fun w' aq=>(dP _ 8 w')) ?_;refine ak jP I ?_;refine ak jP I ?_;refine aQ aX I (fun w' aq=>(Ka w' (dL aq (.there .here) rT))) ?_;refine aQ aX I (fun w' aq=>(dP _ 9 w')) ?_;refine ak jP I ?_;refine ak (cr .here) I ?_;refine aQ bN I (fun w' aq=>(jk w' (Mem.keeps aq))) ?_;refine dX (aB (.cons (.of I) (.cons (.of I) (.cons (.of I) .nil))) I I I I) I I ?_)
  with_reducible refine cY I fun bq mA=>?_
  (refine ai bN I (fun w' aq=>(dF (Mem.df aq .here I I) (bQ.cons (bQ.cons (bQ.cons bQ.nil))))) ?_;refine Ja I<|Ji<|Jv I<|JD I<|Jn<|gl I (fun ar=>?_) fun ar=>?_;refine Jr<|Jv I<|Ja I<|Jn<|Ju<|Jm<|Jh<|Jh<|Jm<|Jh<|JT ?_;rotate_left;refine Jk<|Jg<|Jv I<|Jv I<|bb (aB (.cons (.of I) .nil) I I I I) I fun _ _=>?_;rotate_right)
  ·rw [<- hE] at ar ⊢;rw [eS hf aL ar]
  have hz:xq bf Sr.nm ck l k=0:=by rw [hE];exact Decidable.not_not.1 ar
  refine bE (.of I) (.of I) db .here an (by rfl) (eF I) (by rfl) (by rfl) (by rfl) eV (by rfl) ?_;intro v';refine Ja I<|Jx<|Jj<|Jt<|Jg<|JB I (by omega)<|Jv I<|Jn ?_;apply aJ (k+1,v') ⟨show k+1<=l.length by omega,fun i hi=>by
   by_cases e:i=k
   ·rw [e];exact hz
   ·exact hf i (by omega)⟩ (show l.length-(k+1)<l.length-k by omega)
  case hs1=>exact cj
  case ht=>
   show bn _ [row 9 1 v' (bf++(l.take (k+1)).map Sr.nm).length (aM (bf++(l.take (k+1)).map Sr.nm))] _;rw [htk,a7,I6];exact .cons .here .nil
 ·obtain rfl:k=l.length:=by omega
  refine Jr<|JA I<|Jn<|Jq<|Jc I fun ar=>Jp<|Jl<|Jo<|Jt<|Jr<|Ja I<|Jn<|Je<|JT ?_;rw [dN.2 hf]
set_option maxHeartbeats 1000000 in
theorem Cg {lv bv:Value} {l:List De} {bf:List ByteArray} (qO:Int) {ck:De->Int} {f1 f2:FuncId} {first2 cap:List Value} [bU T_ f1] [bU T_ f2] {w:World} (h:Rd w lv 3 (wq l)) (hb:Rd w bv 1 (fG bf)) (hn:bf.length+l.length<=1000)
  (vY:∀ x∈l,∀ w',aD [] w w'->aj T_ f1 [.agg x.cells.toArray] w' (.string x.nm)) (vX:∀ x∈l,∀ w',aD [] w w'->aj T_ f2 (first2++[.agg x.cells.toArray]++cap) w' (.int .i64 (ck x))) :
  aj T_ 141 [lv,.int .i64 qO,bv,.func (.func f1) #[] #[],.func (.func f2) first2.toArray cap.toArray] w (.int .i64 (fm qO bf De.nm ck l)):=by
 obtain ⟨a,cp,b,o,rfl,c8,bV,ha,hc⟩:=h;rw [bZ] at *;unfold maxLen at bV;unfold fm;refine ah func141 I I ?_
 (refine Jr<|Ja I<|Jn<|Jq<|Jr<|Jv I<|JI I<|Jv I<|JE I<|Jn<|gl I (fun ar=>?_) fun ar=>?_;refine Jr<|Ja I<|Jn<|Ju<|JT ?_;rotate_left;refine Jk<|Jr<|Jv I ?_;rotate_right)
 ·rw [if_pos (by omega)]
 rw [if_neg (by omega)];refine JN bN I (fun w1 aS=>wC (hb.keeps aS.keeps) (by omega)) ?_;intro v0 _;dsimp only [id_eq,Zb,Za];refine Ja I<|Jn<|Jq<|Jr<|Jv I<|JI I<|Jv I<|Jn<|J0 ?_;refine aY (ι:=Nat×Value) (fun x=>x.1<=l.length/\∀ i,i<x.1->xq bf De.nm ck l i=0) (fun x=>[(24,.int .i64 x.1),(23,.int .i64 l.length),(22,.slice a l.length cp),(11,x.2),(3,.func (.func f1) #[] #[]),(4,.func (.func f2) first2.toArray cap.toArray)]) (fun x=>[row 9 1 x.2 (bf++(l.take x.1).map De.nm).length (aM (bf++(l.take x.1).map De.nm))]) (fun x=>l.length-x.1) ?_ ?_
 ·apply aK (0,v0) ⟨Zi _,fun i hi=>absurd hi (Nat.not_lt_zero _)⟩
  case hs1=>exact cj
  case ht=>
   rw [show bf++(l.take 0).map De.nm=bf by simp];exact .cons .here .nil
 rintro ⟨k,v⟩ ⟨hk,hf⟩;dsimp only at hk hf ⊢;by_cases aL:k<l.length
 ·have cM:=ha (gS aL);have aF:=(hc k _ (fu aL)).2;have CC:=vY _ (Zj aL);have jk:=vX _ (Zj aL);have hE:=oS (bf:=bf) (nm:=De.nm) (ck:=ck) aL;have htk:bf++(l.take (k+1)).map De.nm=(bf++(l.take k).map De.nm)++[(l[k]).nm]:=by
   rw [List.take_succ_eq_append_getElem aL,List.map_append,Zh];rfl
  have hlen:(bf++(l.take k).map De.nm).length=bf.length+k:=by
   rw [Zg,Zd,List.length_take];omega
  have Ka:∀ (w':World),Rd w' v 1 (fG (bf++(l.take k).map De.nm))->aj T_ 179 [v,.string (l[k]).nm] w' (.bool (fI (bf++(l.take k).map De.nm) (l[k]).nm)):=fun w' hr=>kz _ hr
  generalize hB:bf++(l.take k).map De.nm=B at hE htk hlen Ka ⊢;have rT:B.length=B.length:=rfl;generalize l[k]=x at aF CC jk hE htk Ka;have a7:aM (B++[x.nm])=aM B++[.string x.nm]:=by rw [eQ];rfl
  have I6:(B++[x.nm]).length=B.length+1:=by simp
  unfold De.cells at aF CC jk
  (refine Jr<|JA I<|Jn<|Jq<|Jd I fun ar=>Jk<|Jq<|J0<|Jr<|ab (gj cM ar) I ?_;refine ab (iI (eU.base aF I)) I ?_;refine Jz I I fun _ _=>au (.of I) (.of I) .here I I (fx I I I) (bF I) an ?_;refine Ji<|Jv I<|ab (cr .here) I ?_;refine ai bN I (fun w' aq=>(CC w' (Mem.keeps aq))) ?_;refine Ja I<|Jn<|Jq<|Jq ?_)
  with_reducible refine cC 12 (by kernel_rfl) ?_
  (refine ak jP I ?_;refine aQ bN I (fun w' aq=>(Dn _ w')) ?_;refine ak (eY (.of I)) I ?_;refine aQ aX I (fun w' aq=>(dP _ 8 w')) ?_;refine ak jP I ?_;refine ak jP I ?_;refine aQ aX I (fun w' aq=>(Ka w' (dL aq (.there .here) rT))) ?_;refine aQ aX I (fun w' aq=>(dP _ 9 w')) ?_;refine ak jP I ?_;refine ak (cr .here) I ?_;refine aQ bN I (fun w' aq=>(jk w' (Mem.keeps aq))) ?_;refine dX (aB (.cons (.of I) (.cons (.of I) (.cons (.of I) .nil))) I I I I) I I ?_)
  with_reducible refine cY I fun bq mA=>?_
  (refine ai bN I (fun w' aq=>(dF (Mem.df aq .here I I) (bQ.cons (bQ.cons (bQ.cons bQ.nil))))) ?_;refine Ja I<|Ji<|Jv I<|JD I<|Jn<|gl I (fun ar=>?_) fun ar=>?_;refine Jr<|Jv I<|Ja I<|Jn<|Ju<|Jm<|Jh<|Jh<|Jm<|Jh<|JT ?_;rotate_left;refine Jk<|Jg<|Jv I<|Jv I<|bb (aB (.cons (.of I) .nil) I I I I) I fun _ _=>?_;rotate_right)
  ·rw [<- hE] at ar ⊢;rw [eS hf aL ar]
  have hz:xq bf De.nm ck l k=0:=by rw [hE];exact Decidable.not_not.1 ar
  refine bE (.of I) (.of I) db .here an (by rfl) (eF I) (by rfl) (by rfl) (by rfl) eV (by rfl) ?_;intro v';refine Ja I<|Jx<|Jj<|Jt<|Jg<|JB I (by omega)<|Jv I<|Jn ?_;apply aJ (k+1,v') ⟨show k+1<=l.length by omega,fun i hi=>by
   by_cases e:i=k
   ·rw [e];exact hz
   ·exact hf i (by omega)⟩ (show l.length-(k+1)<l.length-k by omega)
  case hs1=>exact cj
  case ht=>
   show bn _ [row 9 1 v' (bf++(l.take (k+1)).map De.nm).length (aM (bf++(l.take (k+1)).map De.nm))] _;rw [htk,a7,I6];exact .cons .here .nil
 ·obtain rfl:k=l.length:=by omega
  refine Jr<|JA I<|Jn<|Jq<|Jc I fun ar=>Jp<|Jl<|Jo<|Jt<|Jr<|Ja I<|Jn<|Je<|JT ?_;rw [dN.2 hf]
set_option maxHeartbeats 1000000 in
theorem Ce {lv bv:Value} {l:List Ti} {bf:List ByteArray} (qO:Int) {ck:Ti->Int} {f1 f2:FuncId} {first2 cap:List Value} [bU T_ f1] [bU T_ f2] {w:World} (h:Rd w lv 3 (u9 l)) (hb:Rd w bv 1 (fG bf)) (hn:bf.length+l.length<=1000)
  (vY:∀ x∈l,∀ w',aD [] w w'->aj T_ f1 [.agg x.cells.toArray] w' (.string x.nm)) (vX:∀ x∈l,∀ w',aD [] w w'->aj T_ f2 (first2++[.agg x.cells.toArray]++cap) w' (.int .i64 (ck x))) :
  aj T_ 144 [lv,.int .i64 qO,bv,.func (.func f1) #[] #[],.func (.func f2) first2.toArray cap.toArray] w (.int .i64 (fm qO bf Ti.nm ck l)):=by
 obtain ⟨a,cp,b,o,rfl,c8,bV,ha,hc⟩:=h;rw [bO] at *;unfold maxLen at bV;unfold fm;refine ah func144 I I ?_
 (refine Jr<|Ja I<|Jn<|Jq<|Jr<|Jv I<|JI I<|Jv I<|JE I<|Jn<|gl I (fun ar=>?_) fun ar=>?_;refine Jr<|Ja I<|Jn<|Ju<|JT ?_;rotate_left;refine Jk<|Jr<|Jv I ?_;rotate_right)
 ·rw [if_pos (by omega)]
 rw [if_neg (by omega)];refine JN bN I (fun w1 aS=>wC (hb.keeps aS.keeps) (by omega)) ?_;intro v0 _;dsimp only [id_eq,Zb,Za];refine Ja I<|Jn<|Jq<|Jr<|Jv I<|JI I<|Jv I<|Jn<|J0 ?_;refine aY (ι:=Nat×Value) (fun x=>x.1<=l.length/\∀ i,i<x.1->xq bf Ti.nm ck l i=0) (fun x=>[(24,.int .i64 x.1),(23,.int .i64 l.length),(22,.slice a l.length cp),(11,x.2),(3,.func (.func f1) #[] #[]),(4,.func (.func f2) first2.toArray cap.toArray)]) (fun x=>[row 9 1 x.2 (bf++(l.take x.1).map Ti.nm).length (aM (bf++(l.take x.1).map Ti.nm))]) (fun x=>l.length-x.1) ?_ ?_
 ·apply aK (0,v0) ⟨Zi _,fun i hi=>absurd hi (Nat.not_lt_zero _)⟩
  case hs1=>exact cj
  case ht=>
   rw [show bf++(l.take 0).map Ti.nm=bf by simp];exact .cons .here .nil
 rintro ⟨k,v⟩ ⟨hk,hf⟩;dsimp only at hk hf ⊢;by_cases aL:k<l.length
 ·have cM:=ha (eO aL);have aF:=(hc k _ (dY aL)).2;have CC:=vY _ (Zj aL);have jk:=vX _ (Zj aL);have hE:=oS (bf:=bf) (nm:=Ti.nm) (ck:=ck) aL;have htk:bf++(l.take (k+1)).map Ti.nm=(bf++(l.take k).map Ti.nm)++[(l[k]).nm]:=by
   rw [List.take_succ_eq_append_getElem aL,List.map_append,Zh];rfl
  have hlen:(bf++(l.take k).map Ti.nm).length=bf.length+k:=by
   rw [Zg,Zd,List.length_take];omega
  have Ka:∀ (w':World),Rd w' v 1 (fG (bf++(l.take k).map Ti.nm))->aj T_ 179 [v,.string (l[k]).nm] w' (.bool (fI (bf++(l.take k).map Ti.nm) (l[k]).nm)):=fun w' hr=>kz _ hr
  generalize hB:bf++(l.take k).map Ti.nm=B at hE htk hlen Ka ⊢;have rT:B.length=B.length:=rfl;generalize l[k]=x at aF CC jk hE htk Ka;have a7:aM (B++[x.nm])=aM B++[.string x.nm]:=by rw [eQ];rfl
  have I6:(B++[x.nm]).length=B.length+1:=by simp
  unfold Ti.cells at aF CC jk
  (refine Jr<|JA I<|Jn<|Jq<|Jd I fun ar=>Jk<|Jq<|J0<|Jr<|ab (gj cM ar) I ?_;refine ab (iI (eU.base aF I)) I ?_;refine Jz I I fun _ _=>au (.of I) (.of I) .here I I (fx I I I) (bF I) an ?_;refine Ji<|Jv I<|ab (cr .here) I ?_;refine ai bN I (fun w' aq=>(CC w' (Mem.keeps aq))) ?_;refine Ja I<|Jn<|Jq<|Jq ?_)
  with_reducible refine cC 12 (by kernel_rfl) ?_
  (refine ak jP I ?_;refine aQ bN I (fun w' aq=>(Dn _ w')) ?_;refine ak (eY (.of I)) I ?_;refine aQ aX I (fun w' aq=>(dP _ 8 w')) ?_;refine ak jP I ?_;refine ak jP I ?_;refine aQ aX I (fun w' aq=>(Ka w' (dL aq (.there .here) rT))) ?_;refine aQ aX I (fun w' aq=>(dP _ 9 w')) ?_;refine ak jP I ?_;refine ak (cr .here) I ?_;refine aQ bN I (fun w' aq=>(jk w' (Mem.keeps aq))) ?_;refine dX (aB (.cons (.of I) (.cons (.of I) (.cons (.of I) .nil))) I I I I) I I ?_)
  with_reducible refine cY I fun bq mA=>?_
  (refine ai bN I (fun w' aq=>(dF (Mem.df aq .here I I) (bQ.cons (bQ.cons (bQ.cons bQ.nil))))) ?_;refine Ja I<|Ji<|Jv I<|JD I<|Jn<|gl I (fun ar=>?_) fun ar=>?_;refine Jr<|Jv I<|Ja I<|Jn<|Ju<|Jm<|Jh<|Jh<|Jm<|Jh<|JT ?_;rotate_left;refine Jk<|Jg<|Jv I<|Jv I<|bb (aB (.cons (.of I) .nil) I I I I) I fun _ _=>?_;rotate_right)
  ·rw [<- hE] at ar ⊢;rw [eS hf aL ar]
  have hz:xq bf Ti.nm ck l k=0:=by rw [hE];exact Decidable.not_not.1 ar
  refine bE (.of I) (.of I) db .here an (by rfl) (eF I) (by rfl) (by rfl) (by rfl) eV (by rfl) ?_;intro v';refine Ja I<|Jx<|Jj<|Jt<|Jg<|JB I (by omega)<|Jv I<|Jn ?_;apply aJ (k+1,v') ⟨show k+1<=l.length by omega,fun i hi=>by
   by_cases e:i=k
   ·rw [e];exact hz
   ·exact hf i (by omega)⟩ (show l.length-(k+1)<l.length-k by omega)
  case hs1=>exact cj
  case ht=>
   show bn _ [row 9 1 v' (bf++(l.take (k+1)).map Ti.nm).length (aM (bf++(l.take (k+1)).map Ti.nm))] _;rw [htk,a7,I6];exact .cons .here .nil
 ·obtain rfl:k=l.length:=by omega
  refine Jr<|JA I<|Jn<|Jq<|Jc I fun ar=>Jp<|Jl<|Jo<|Jt<|Jr<|Ja I<|Jn<|Je<|JT ?_;rw [dN.2 hf]
end Go.Proofs.A1
namespace Go.SL
open Go
section
variable {P:Program} {c:Cx} {sl:aI} {hs:List a8} {dst:Option Tmp} {ty:TypeId} {pos:String} {af:Array Edge} {g:Option (Nat×Bool)}
variable {κ:Type} [DecidableEq κ] {kv:κ->Value} {kind:TypeDesc}
theorem C2 {t kt et:TypeId} {x y:Operand} {b:Nat} {k:κ} {l:List (κ×Value)} {z:Value} [hu:iU P t (.map kt et)] [Gq:iU P kt kind] [hz:lQ P et z] (hk:KeyLaw kind kv) (hx:Is sl x (.map (some b))) (hy:Is sl y (kv k)) (hl:Looks c hs b kv l) :
  cQ P c sl hs ⟨dst,.lookup t x y true,ty,pos,af,g⟩ (.tuple #[(eK k l).getD z,.bool (eK k l).isSome]):=
 ⟨by
   simp,fun a w ha hm=>by
  obtain ⟨es,ck,h1,h2⟩:=hl w hm;have hg:(getObj b).run P w=.ok (.map es ck) w:=by simp [getObj,Sem.run,h1]
  have AP:=hk.flat P kt es.isEmpty w k Gq.eq;rcases findNow_spec hk k es.toList l 0 h2.eq with ⟨a1,a2⟩ | ⟨j,v,a1,a2,_⟩
  ·have:(Instr.findKey kt (kv k) es.toList).run P w=.ok none w:=by
    simp [Instr.findKey,aU Gq.eq,a2]
   simp [execOp,hx a ha,hy a ha,Instr.lookup,aU hu.eq,hg,AP,this,a1,iM (t:=et) (v:=z)]
  ·have:(Instr.findKey kt (kv k) es.toList).run P w=.ok (some (0+j,v)) w:=by
    simp [Instr.findKey,aU Gq.eq,a2]
   simp [execOp,hx a ha,hy a ha,Instr.lookup,aU hu.eq,hg,AP,this,a1]⟩
end
end Go.SL
namespace Go.Proofs.A1
open Go Go.SL
open Tryz
open Tryz renaming prog->T_
def lL (a b c:Int):Value:=.agg #[.int .i64 a,.int .i64 b,.int .i64 c]
abbrev PM:=List (ByteArray×Value)
def wY (l:List Sr):Nat->PM
 | 0=>[]
 | k + 1 => match l[k]? with
  | some x=>nf x.nm (lL (-1) (-1) x.mx) (wY l k)
  | none=>wY l k
def CA (m:PM) (l:List De):Nat->PM
 | 0=>m
 | k + 1 => match l[k]? with
  | some x=>nf x.nm (lL (k:Nat) x.mx (-1)) (CA m l k)
  | none=>CA m l k
def Lp (m:PM) (n:Nat) (l:List Ti):Nat->PM
 | 0=>m
 | k + 1 => match l[k]? with
  | some x=>nf x.nm (lL ((n:Int)+(k:Nat)) x.fr x.to) (Lp m n l k)
  | none=>Lp m n l k
def oT (r:Ro):PM:=Lp (CA (wY r.sr r.sr.length) r.de r.de.length) r.de.length r.ti r.ti.length
theorem Ie {l:List Sr} {k:Nat} (h:k<l.length):wY l (k+1)=nf (l[k]).nm (lL (-1) (-1) (l[k]).mx) (wY l k):=by rw [wY,Zc h]
theorem Ig {m:PM} {l:List De} {k:Nat} (h:k<l.length):CA m l (k+1)=nf (l[k]).nm (lL (k:Nat) (l[k]).mx (-1)) (CA m l k):=by rw [CA,Zc h]
theorem Ic {m:PM} {n:Nat} {l:List Ti} {k:Nat} (h:k<l.length):Lp m n l (k+1)=nf (l[k]).nm (lL ((n:Int)+(k:Nat)) (l[k]).fr (l[k]).to) (Lp m n l k):=by rw [Lp,Zc h]
set_option maxHeartbeats 1000000 in
theorem EF {r:Ro} {s d t p:Value} {w:World} (h:RR w r s d t p) (cL:r.de.length+r.ti.length<=1000000):bh T_ 186 [RA r s d t p] w [] (fun _:Nat=>True) (fun b=>.map (some b)) (fun b=>[mp (fun s:ByteArray=>Value.string s) b (oT r)]):=by
 obtain ⟨h1,h2,h3,h4⟩:=h.one;have hs:=h.sr;have hd:=h.de;have xx:=h.ti;obtain ⟨a1,dZ,G2,GX,rfl,nS,hG,kK,kc⟩:=hs;obtain ⟨a2,dB,LG,Lr,rfl,jK,eE,iT,jL⟩:=hd;obtain ⟨a3,dQ,Fu,EI,rfl,lo,fD,qA,nW⟩:=xx;rw [cu] at *;rw [bZ] at *;rw [bO] at *;unfold maxLen at hG eE fD;unfold RA;refine aR func186 I I ?_;refine Jr<|Jy I I fun _ _=>Ja I<|Ji ?_;rename_i b1 tR;refine A4 I ?_;intro bm V7
 (refine Ja I<|Jn<|Jq<|Jr<|bK I I ae ?_;refine JL I (.there .here) I<|JI I<|Jv I<|Jn<|J0 ?_)
 refine aY (fun k:Nat=>k<=r.sr.length) (fun k=>[(14,.int .i64 k),(13,.int .i64 r.sr.length),(12,.slice a1 r.sr.length dZ),(3,.map (some bm)),(1,.pointer (some ⟨b1,0,none⟩))]) (fun k=>[mp (fun s:ByteArray=>Value.string s) bm (wY r.sr k),JP b1 r (.slice a1 r.sr.length dZ) (.slice a2 r.de.length dB) (.slice a3 r.ti.length dQ) p]) (fun k=>r.sr.length-k) ?_ ?_
 ·apply aK 0 (show 0<=r.sr.length from Zi _)
  case hs1=>exact cj
  case ht=>
   exact .cons .here (.cons .here .nil)
 intro k hk;by_cases aL:k<r.sr.length
 ·have cM:=kK (gL aL);have aF:=(kc k _ (fk aL)).2;have kl:wY r.sr (k+1)=_:=Ie aL;unfold Sr.cells at aF;unfold lL at kl;generalize r.sr[k]=x at aF kl
  (refine Jr<|JA I<|Jn<|Jq<|Jd I fun ar=>Jk<|Jq<|J0<|Jr<|ab (gj cM ar) I ?_;refine ab (iI (eU.base aF I)) I ?_;refine Jz I I fun _ _=>au (.of I) (.of I) .here I I (ie I I) (bF I) an ?_;refine Jn<|Jg<|Jv I<|bK I I ae ?_;refine JL I .here I<|bK I I ae ?_;refine JL I .here I<|ab (aT (.cons (.of I) (.cons (.of I) (.cons (.of I) .nil))) an) I ?_)
  refine nq IN (.of I) (.of I) (.of I) (.there .here) ?_;refine Jx<|Jj<|Jt<|Jg<|JB I (by omega)<|Jv I<|Jn ?_;apply aJ (k+1) (show k+1<=r.sr.length by omega) (show r.sr.length-(k+1)<r.sr.length-k by omega)
  case hs1=>exact cj
  case ht=>
   show bn _ [mp (fun s:ByteArray=>Value.string s) bm (wY r.sr (k+1)),JP b1 r (.slice a1 r.sr.length dZ) (.slice a2 r.de.length dB) (.slice a3 r.ti.length dQ) p] _
   rw [kl];exact .cons .here (.cons (.there .here) .nil)
 obtain rfl:k=r.sr.length:=by omega
 (refine Jr<|JA I<|Jn<|Jq<|Jc I fun ar=>Jp<|Jl<|Jo<|Jt<|Jq<|Jr<|bK I I ae ?_;refine JL I (.there .here) I<|JI I<|Jv I<|Jn<|J0 ?_)
 refine aY (fun k:Nat=>k<=r.de.length) (fun k=>[(28,.int .i64 k),(27,.int .i64 r.de.length),(26,.slice a2 r.de.length dB),(3,.map (some bm)),(1,.pointer (some ⟨b1,0,none⟩))]) (fun k=>[mp (fun s:ByteArray=>Value.string s) bm (CA (wY r.sr r.sr.length) r.de k),JP b1 r (.slice a1 r.sr.length dZ) (.slice a2 r.de.length dB) (.slice a3 r.ti.length dQ) p]) (fun k=>r.de.length-k) ?_ ?_
 ·apply aK 0 (show 0<=r.de.length from Zi _)
  case hs1=>exact cj
  case ht=>
   exact .cons .here (.cons .here .nil)
 intro k hk;by_cases aL:k<r.de.length
 ·have cM:=iT (gS aL);have aF:=(jL k _ (fu aL)).2;have kl:CA (wY r.sr r.sr.length) r.de (k+1)=_:=Ig aL;unfold De.cells at aF;unfold lL at kl;generalize r.de[k]=x at aF kl
  (refine Jr<|JA I<|Jn<|Jq<|Jd I fun ar=>Jk<|Jq<|J0<|Jr<|Jv I<|ab (gj cM ar) I ?_;refine ab (iI (eU.base aF I)) I ?_;refine Jz I I fun _ _=>Ja I<|au (.of I) (.of I) .here I I (fx I I I) (bF I) an ?_;refine Jn<|Jg<|Jv I<|bK I I ae ?_;refine JL I .here I<|Jv I<|bK I I ae ?_;refine JL I .here I<|ab (aT (.cons (.of I) (.cons (.of I) (.cons (.of I) .nil))) an) I ?_)
  refine nq IN (.of I) (.of I) (.of I) (.there .here) ?_;refine Jx<|Jj<|Jt<|Jg<|JB I (by omega)<|Jv I<|Jn ?_;apply aJ (k+1) (show k+1<=r.de.length by omega) (show r.de.length-(k+1)<r.de.length-k by omega)
  case hs1=>exact cj
  case ht=>
   show bn _ [mp (fun s:ByteArray=>Value.string s) bm (CA (wY r.sr r.sr.length) r.de (k+1)),JP b1 r (.slice a1 r.sr.length dZ) (.slice a2 r.de.length dB) (.slice a3 r.ti.length dQ) p] _
   rw [kl];exact .cons .here (.cons (.there .here) .nil)
 obtain rfl:k=r.de.length:=by omega
 (refine Jr<|JA I<|Jn<|Jq<|Jc I fun ar=>Jp<|Jl<|Jo<|Jt<|Jq<|Jr<|bK I I ae ?_;refine JL I (.there .here) I<|JI I<|Jv I<|Jn<|J0 ?_)
 refine aY (fun k:Nat=>k<=r.ti.length) (fun k=>[(44,.int .i64 k),(43,.int .i64 r.ti.length),(42,.slice a3 r.ti.length dQ),(3,.map (some bm)),(1,.pointer (some ⟨b1,0,none⟩))]) (fun k=>[mp (fun s:ByteArray=>Value.string s) bm (Lp (CA (wY r.sr r.sr.length) r.de r.de.length) r.de.length r.ti k),JP b1 r (.slice a1 r.sr.length dZ) (.slice a2 r.de.length dB) (.slice a3 r.ti.length dQ) p]) (fun k=>r.ti.length-k) ?_ ?_
 ·apply aK 0 (show 0<=r.ti.length from Zi _)
  case hs1=>exact cj
  case ht=>
   exact .cons .here (.cons .here .nil)
 intro k hk;by_cases aL:k<r.ti.length
 ·have cM:=qA (eO aL);have aF:=(nW k _ (dY aL)).2;have kl:Lp (CA (wY r.sr r.sr.length) r.de r.de.length) r.de.length r.ti (k+1)=_:=Ic aL;unfold Ti.cells at aF;unfold lL at kl;generalize r.ti[k]=x at aF kl
  (refine Jr<|JA I<|Jn<|Jq<|Jd I fun ar=>Jk<|Jq<|J0<|Jr<|Jv I<|ab (gj cM ar) I ?_;refine ab (iI (eU.base aF I)) I ?_;refine Jz I I fun _ _=>Ja I<|au (.of I) (.of I) .here I I (fx I I I) (bF I) an ?_;refine Jn<|Jg<|Jv I<|bK I I ae ?_;refine JL I .here I<|bK I I ae ?_;refine JL I bT I<|JI I<|Jv I<|JB I (by omega)<|bK I I ae ?_;refine JL I .here I<|bK I I ae ?_;refine JL I .here I<|ab (aT (.cons (.of I) (.cons (.of I) (.cons (.of I) .nil))) an) I ?_)
  refine nq IN (.of I) (.of I) (.of I) (.there .here) ?_;refine Jx<|Jj<|Jt<|Jg<|JB I (by omega)<|Jv I<|Jn ?_;apply aJ (k+1) (show k+1<=r.ti.length by omega) (show r.ti.length-(k+1)<r.ti.length-k by omega)
  case hs1=>exact cj
  case ht=>
   show bn _ [mp (fun s:ByteArray=>Value.string s) bm (Lp (CA (wY r.sr r.sr.length) r.de r.de.length) r.de.length r.ti (k+1)),JP b1 r (.slice a1 r.sr.length dZ) (.slice a2 r.de.length dB) (.slice a3 r.ti.length dQ) p] _
   rw [kl];exact .cons .here (.cons (.there .here) .nil)
 obtain rfl:k=r.ti.length:=by omega
 refine Jr<|JA I<|Jn<|Jq<|Jc I fun ar=>Jp<|Jl<|Jo<|Jt<|Jr<|Jv I<|Ja I<|Jn<|Je ?_
 first | with_reducible apply aN | with_reducible apply aO
 case he=>exact dJ I I
 case hR=>
  intro w' aq;exact aG bm trivial (show bn _ [mp (fun s:ByteArray=>Value.string s) bm (oT r)] _ from by unfold oT;exact .cons .here .nil) aq I
theorem cy {w w':World} {a:Addr} {v:Value} (h:w.cell? a=some v) (hs:a.spot=none) (hk:aD [] w w'):w'.cell? a=some v:=by
 have hb:=World.block_lt_of_cell? w a h;obtain ⟨b,o,s⟩:=a;subst hs;have:=hk.block b hb (by simp);rw [<- h];simp [World.cell?,this]
theorem vh {P:Program} {c:Cx} {sl:aI} {hs:List a8} {dst:Option Tmp} {ty:TypeId} {pos:String} {af:Array Edge} {g:Option (Nat×Bool)} {x y z:Operand} {q:Bool} {v u V:Value} (hx:Is sl x (.bool q)) (hy:Is sl y v) (hz:Is sl z u) (e:(bif q then v else u)=V):cQ P c sl hs ⟨dst,.pick x y z,ty,pos,af,g⟩ V:=e ▸ uA hx hy hz
theorem pU {α:Type} (p:α->Bool) (l:List α):(ia p l = -1/\l.find? p=none)\/∃ i,∃ h:i<l.length,ia p l=(i:Nat)/\l.find? p=some l[i]:=by
 cases hf:l.find? p with
 | none =>
  rw [List.find?_eq_none] at hf;refine .inl ⟨fO fun i hi=>?_,I⟩;simpa [hi] using hf l[i] (Zj hi)
 | some x =>
  obtain ⟨hp,i,hi,rfl,hb⟩:=List.find?_eq_some_iff_getElem.1 hf;refine .inr ⟨i,hi,gP (fun j hj=>?_) hi hp,I⟩;have:=hb j hj;simpa [show j<l.length by omega] using this
theorem QN (x:Po) {b1 b2:Nat} {v:Int} {o:ByteArray} {w:World} (f1:w.cell? ⟨b1,0,none⟩=some (.int .i64 v)) (f2:w.cell? ⟨b2,0,none⟩=some (.string o)) :
  aj T_ 298 [.agg x.cells.toArray,.pointer (some ⟨b1,0,none⟩),.pointer (some ⟨b2,0,none⟩)] w (.bool (D4 v o x)):=by
 unfold Po.cells;refine ah func298 I I ?_
 (refine Jr<|Jy I I fun _ _=>Ja I<|Ji<|ab (cr .here) I ?_;refine ab (ag (.of I) (At.base f1 I)) I ?_;refine ab (ag (.of I) (At.base f2 I)) I ?_;refine bK I I ae ?_;refine JL I .here I<|ab (aT (.cons (.of I) (.cons (.of I) (.cons (.of I) .nil))) an) I ?_;refine ab (uD (.of I) (.of I) (ka (fB (fB lZ))) I) I ?_;refine Ja I<|Jn<|Je<|JT ?_)
 simp [D4]
theorem P2 (x:Po) {b1 b2:Nat} {v:Int} {o:ByteArray} {w:World} (f1:w.cell? ⟨b1,0,none⟩=some (.int .i64 v)) (f2:w.cell? ⟨b2,0,none⟩=some (.string o)) :
  aj T_ 302 [.agg x.cells.toArray,.pointer (some ⟨b1,0,none⟩),.pointer (some ⟨b2,0,none⟩)] w (.bool (Af v o x)):=by
 unfold Po.cells;refine ah func302 I I ?_
 (refine Jr<|Jy I I fun _ _=>Ja I<|Ji<|ab (cr .here) I ?_;refine ab (ag (.of I) (At.base f1 I)) I ?_;refine bK I I ae ?_;refine JL I .here I<|ab (ag (.of I) (At.base f2 I)) I ?_;refine ab (aT (.cons (.of I) (.cons (.of I) (.cons (.of I) .nil))) an) I ?_;refine ab (uD (.of I) (.of I) (ka (fB (fB lZ))) I) I ?_;refine Ja I<|Jn<|Je<|JT ?_)
 simp [Af]
theorem Ac {r:Ro} {s d t p:Value} (v:Int) (o:ByteArray) {w:World} (h:RR w r s d t p):aj T_ 223 [RA r s d t p,.int .i64 v,.string o] w (.tuple #[.string ((ep r.po v o).getD ⟨#[]⟩),.bool (ep r.po v o).isSome]):=by
 have h1:=Rd.one h.sr;have h2:=Rd.one h.de;have h3:=Rd.one h.ti;have hp:=h.po;obtain ⟨a,cp,b,o',rfl,c8,bV,ha,hc⟩:=hp;rw [cT] at *;unfold maxLen at bV;unfold RA;refine ah func223 I I ?_
 (refine Jr<|Jy I I fun _ _=>Jy I I fun _ _=>Jy I I fun _ _=>Ja I<|Ja I<|Ji<|bK I I ae ?_;refine JL I bT I<|ab (bo .nil (.cons (.of I) (.cons (.of I) .nil))) I ?_)
 rename_i b3 tQ b4 uQ b5 G0
 with_reducible apply ai
 case hr=>exact aX
 case hd=>rfl
 case hc=>
  intro w' aq;have f1:w'.cell? ⟨b4,0,none⟩=some (.int .i64 v):=At.lit (by exact Take.there .here) I w' aq;have f2:w'.cell? ⟨b5,0,none⟩=some (.string o):=At.lit (by exact .here) I w' aq
  exact Ag (f:=298) (p:=D4 v o) (first:=[]) (cap:=[.pointer (some ⟨b4,0,none⟩),.pointer (some ⟨b5,0,none⟩)]) (h.po.keeps aq.keeps)
   (fun x hx w2 eR=>QN x (cy f1 I eR) (cy f2 I eR))
 have my:ep r.po v o=(r.po.find? (D4 v o)).map Po.ip:=rfl;rcases pU (D4 v o) r.po with ⟨e1,e2⟩ | ⟨i,hi,e1,e2⟩
 ·rw [e1];rw [e2] at my;rw [my];refine Ja I<|Jn<|Jq<|Jr<|Jv I<|JA I<|Jn<|Jd I fun ar=>Jr<|Ja I<|Ja I<|Jn<|Ju<|pG I (fW I I I) ?_
  rfl
 ·rw [e1];rw [e2] at my;rw [my];have cM:=ha (kD hi);have aF:=(hc i _ (iN hi)).2;unfold Po.cells at aF;have jL:=aF 2 _ I
  (refine Ja I<|Jn<|Jq<|Jr<|Jv I<|JA I<|Jn<|Jc I fun ar=>Jk<|Jr<|bK I I ae ?_;refine JL I bT I<|Jv I<|ab (az (.of I) (.of I) cM (by omega) (by omega) ba) I ?_;refine bK I I ae ?_;refine ab (ag (.of I) (At.base jL I)) I ?_;refine Ja I<|Ja I<|Jn<|Je<|pG I (fW I I I) ?_)
  rfl
theorem Hk {r:Ro} {s d t p:Value} (v:Int) (o:ByteArray) {w:World} (h:RR w r s d t p):aj T_ 239 [RA r s d t p,.int .i64 v,.string o] w (.bool (nZ r.po v o)):=by
 obtain ⟨h1,h2,h3,h4⟩:=h.one;unfold RA;refine ah func239 I I ?_
 (refine Jr<|Jy I I fun _ _=>Jy I I fun _ _=>Jy I I fun _ _=>Ja I<|Ji<|bK I I ae ?_;refine JL I bT I<|ab (bo .nil (.cons (.of I) (.cons (.of I) .nil))) I ?_)
 rename_i b3 tQ b4 uQ b5 G0
 with_reducible apply ai
 case hr=>exact aX
 case hd=>rfl
 case hc=>
  intro w' aq;have f1:w'.cell? ⟨b4,0,none⟩=some (.int .i64 v):=At.lit (by exact Take.there .here) I w' aq;have f2:w'.cell? ⟨b5,0,none⟩=some (.string o):=At.lit (by exact .here) I w' aq
  exact NI (f:=302) (p:=Af v o) (first:=[]) (cap:=[.pointer (some ⟨b4,0,none⟩),.pointer (some ⟨b5,0,none⟩)]) (h.po.keeps aq.keeps)
   (fun x hx w2 eR=>P2 x (cy f1 I eR) (cy f2 I eR))
 refine Ja I<|Jn<|Je<|JT ?_
 rfl
theorem vt {r:Ro} {s d t p:Value} (v:Int) (o:ByteArray) {w w1:World} (h:RR w1 r s d t p) :
  bh T_ 116 [RA r s d t p,.int .i64 v,.string o] w [] (fun _:Nat×Nat×Nat=>True) (fun x=>.func (.func 222) #[] #[.pointer (some ⟨x.1,0,none⟩),.pointer (some ⟨x.2.1,0,none⟩),.pointer (some ⟨x.2.2,0,none⟩)])
   (fun x=>[bC x.1 (.cells #[.string o] 9 (0,0)),JP x.2.1 r s d t p,bC x.2.2 (.cells #[.int .i64 v] 3 (0,0))]):=by
 obtain ⟨h1,h2,h3,h4⟩:=h.one;unfold RA;refine aR func116 I I ?_
 (refine Jr<|Jy I I fun _ _=>Jy I I fun _ _=>Jy I I fun _ _=>Ja I<|Ji<|ab (bo .nil (.cons (.of I) (.cons (.of I) (.cons (.of I) .nil)))) I ?_;refine Ja I<|Jn<|Je ?_)
 rename_i b3 tQ b4 uQ b5 G0
 first | with_reducible apply aN | with_reducible apply aO
 case he=>exact dJ I I
 case hR=>
  intro w' aq;exact aG (b5,b3,b4) trivial (by exact .cons .here (.cons (.there .here) (.cons .here .nil))) aq I
structure RO (md:List Nat) (r:Ro) (s d t p:Value):Prop where
 sr:Out md s (wW r.sr)
 de:Out md d (wq r.de)
 ti:Out md t (u9 r.ti)
 po:Out md p (ud r.po)
theorem RO.nil {r:Ro} {s d t p:Value}:RO [] r s d t p:=⟨Out.nil _ _,Out.nil _ _,Out.nil _ _,Out.nil _ _⟩
theorem RR.jH {md:List Nat} {w w':World} {r:Ro} {s d t p:Value} (h:RR w r s d t p) (hn:RO md r s d t p) (hk:aD md w w'):RR w' r s d t p:=⟨h.sr.jH hn.sr hk,h.de.jH hn.de hk,h.ti.jH hn.ti hk,h.po.jH hn.po hk⟩
theorem RR.out {md fp:List Nat} {w0:World} {r:Ro} {s d t p:Value} (h:RR w0 r s d t p) (hn:RO md r s d t p) (hF:∀ b∈fp,b∈md\/w0.heap.size<=b):RO fp r s d t p:=⟨h.sr.out (by omega) hn.sr hF,h.de.out (by omega) hn.de hF,h.ti.out (by omega) hn.ti hF,h.po.out (by omega) hn.po hF⟩
def xu (po:List Po) (v:Int) (k:Nat) (o:ByteArray):List (List Value):=(fh po v k o).map fun x=>[.string x]
theorem rK (po:List Po) (v:Int) (k:Nat) (o:ByteArray):(xu po v k o).length=(fh po v k o).length:=by simp [xu]
theorem Du {po:List Po} {v:Int} {k:Nat} {o a:ByteArray} (h:mE po v k o=some a):mE po v (k+1) o=ep po v a:=by
 rw [kb,h];show (ep po v a).bind (mE po v 0)=_;cases ep po v a <;> rfl
theorem Fs {po:List Po} {v:Int} {k K:Nat} {o a:ByteArray} (h:mE po v k o=some a) (hk:k<=K) (hn:ep po v a=none\/k=K):(fh po v K o).length=k:=by
 have hl:=kd po v K o;have h1:k<=(fh po v K o).length:=by
  cases k with
  | zero=>exact Zi _
  | succ k =>
   have:=nL (po:=po) (v:=v) (o:=o) (show k<K by omega);rw [h] at this;exact (List.getElem?_eq_some_iff.1 this).1
 rcases hn with hn | rfl
 ·by_cases e:k=K
  ·omega
  ·have:=nL (po:=po) (v:=v) (o:=o) (show k<K by omega);rw [Du h,hn,List.getElem?_eq_none_iff] at this;omega
 ·omega
theorem MO {po:List Po} {v:Int} {k K:Nat} {o a i:ByteArray} (h:mE po v k o=some a) (hk:k<K) (hi:ep po v a=some i):(xu po v K o)[k]? = some [.string i]:=by
 unfold xu;rw [List.getElem?_map,nL hk,Du h,hi];rfl
set_option maxHeartbeats 1000000 in
theorem Dg {r:Ro} {s d t p:Value} {b1 b2 b3:Nat} (v:Int) (o:ByteArray) {w0 w:World} {md:List Nat} (h:RR w0 r s d t p) (hn:RO md r s d t p) (cL:r.ti.length<=1000000) :
  Iter T_ 222 [] [.pointer (some ⟨b1,0,none⟩),.pointer (some ⟨b2,0,none⟩),.pointer (some ⟨b3,0,none⟩)] [bC b1 (.cells #[.string o] 9 (0,0)),JP b2 r s d t p,bC b3 (.cells #[.int .i64 v] 3 (0,0))] (xu r.po v (r.ti.length+1) o) w0 md w:=by
 intro l fp J E hB hF jf hs hy;have hR:=h.jH hn hB;have hO:=h.out hn hF;rw [rK];have h1:=Rd.one hR.sr;have h2:=Rd.one hR.de;have h4:=Rd.one hR.po;have hti:=hR.ti;obtain ⟨a,cp,b,o',rfl,c8,bV,ha,hc⟩:=hti;rw [bO] at *;unfold maxLen at bV;refine er func222 I I jf hs ?_
 (refine Jr<|JL I (.there .here) I<|Ja I<|Ji<|bK I I ae ?_;refine JL I bT I<|JI I<|JB I (by omega)<|Jv I<|Jn<|J0 ?_)
 refine aY (ι:=Nat×ByteArray) (fun x=>x.1<=r.ti.length+1/\mE r.po v x.1 o=some x.2) (fun x=>[(13,.int .i64 (x.1:Nat)),(12,.int .i64 ((r.ti.length:Int)+1)),(5,.string x.2),(0,.func (.yield l) #[] #[]),(2,.pointer (some ⟨b2,0,none⟩)),(3,.pointer (some ⟨b3,0,none⟩))])
  (fun x=>[J x.1,bC b1 (.cells #[.string o] 9 (0,0)),JP b2 r s d (.slice a r.ti.length cp) p,bC b3 (.cells #[.int .i64 v] 3 (0,0))]) (fun x=>r.ti.length+1-x.1) ?_ ?_
 ·apply aK (0,o) ⟨Zi _,I⟩
  case hs1=>exact cj
  case ht=>(try simp only [Ze,Zf,Za]);exact .cons .here (.cons .here (.cons .here (.cons .here .nil)))
 rintro ⟨k,at_⟩ ⟨hk,hit⟩;dsimp only at hk hit ⊢;by_cases aL:k<r.ti.length+1
 ·have Uu:∀ w',aD fp w w'->aj T_ 223 [.agg #[.int .i64 r.lv,.int .i64 r.ma,s,d,.slice a r.ti.length cp,p],.int .i64 v,.string at_] w' (.tuple #[.string ((ep r.po v at_).getD ⟨#[]⟩),.bool (ep r.po v at_).isSome]):=fun w' hk=>Ac v at_ (hR.jH hO hk)
  cases hi:ep r.po v at_ with
  | none =>
   have my:∀ w',aD fp w w'->aj T_ 223 [.agg #[.int .i64 r.lv,.int .i64 r.ma,s,d,.slice a r.ti.length cp,p],.int .i64 v,.string at_] w' (.tuple #[.string ⟨#[]⟩,.bool false]):=fun w' hk=>by
    have:=Uu w' hk;rwa [hi] at this
   have a7:=Fs hit hk (.inl hi)
   (refine Jr<|JA I<|Jn<|Jq<|Jd I fun ar=>Jk<|Jq<|J0<|Jr<|ab (cr bT) I ?_;refine JL I db I<|Jv I<|ai dH I (fun w' aq=>(my w' (Mem.keeps aq))) ?_;refine Jv I<|JJ I I<|JJ I I<|Ja I<|Ja I<|Jn<|Jq<|Jr<|Jv I<|JH I<|Jv I<|fM I I I I ?_;refine fM I I I I ?_;refine cR I I I I ?_;refine aC I I inferInstance (fun hg br=>(eY (.bL br I))) I ?_;refine ab (bX (.of I) I) I ?_;refine Jn<|cE (.of I) ?_;refine Ju<|Jm<|Jh<|Jh<|Jm ?_)
   first | with_reducible apply aN | with_reducible apply aO
   case he=>exact qD I
   case hR=>
    intro w' aq;exact aG true trivial (show bn _ [J (fh r.po v (r.ti.length+1) o).length,_,_,_] _ by rw [a7];exact .cons .here (.cons .here (.cons .here (.cons .here .nil)))) aq I
  | some nx =>
   have my:∀ w',aD fp w w'->aj T_ 223 [.agg #[.int .i64 r.lv,.int .i64 r.ma,s,d,.slice a r.ti.length cp,p],.int .i64 v,.string at_] w' (.tuple #[.string nx,.bool true]):=fun w' hk=>by
    have:=Uu w' hk;rwa [hi] at this
   have TL:=hy k _ (MO hit aL hi);have XJ:mE r.po v (k+1) o=some nx:=by rw [Du hit,hi]
   (refine Jr<|JA I<|Jn<|Jq<|Jd I fun ar=>Jk<|Jq<|J0<|Jr<|ab (cr bT) I ?_;refine JL I db I<|Jv I<|ai dH I (fun w' aq=>(my w' (Mem.keeps aq))) ?_;refine Jv I<|JJ I I<|JJ I I<|Ja I<|Ja I<|Jn<|Jq<|Jr<|Jv I<|JH I<|Jv I<|JK I I<|Jv I<|JK I I<|Jv I<|JK I I ?_)
   with_reducible apply xT hB hF TL
   case hx=>exact Is.of I
   case ha=>exact .cons (.of I) .nil
   case hd=>rfl
   case ht=>exact .here
   intro q;cases q with
   | false =>
    simp only [cond_false]
    (refine JK I I<|JH I<|ab (vh (.of I) (.of I) (.of I) I) I ?_;refine Jn<|cE (.of I) ?_;refine Ju<|Jm<|Jh<|Jh<|Jm ?_)
    first | with_reducible apply aN | with_reducible apply aO
    case he=>exact qD I
    case hR=>
     intro w' aq;exact aG false trivial (by exact .cons .here (.cons .here (.cons .here (.cons .here .nil)))) aq I
   | true =>
    simp only [cond_true]
    (refine JK I I<|JH I<|ab (vh (.of I) (.of I) (.of I) I) I ?_;refine Jn<|bR (.of I) ?_;refine Jk<|Jg<|Jv I<|Ja I<|Jx<|Jj<|Jt<|Jg<|JB I (by omega)<|Jv I<|Jn ?_)
    apply aJ (k+1,nx) ⟨show k+1<=r.ti.length+1 by omega,XJ⟩ (show r.ti.length+1-(k+1)<r.ti.length+1-k by omega)
    case hs1=>exact cj
    case ht=>(try simp only [Ze,Zf,Za]);exact .cons .here (.cons .here (.cons .here (.cons .here .nil)))
 ·obtain rfl:k=r.ti.length+1:=by omega
  have a7:=Fs hit hk (.inr I);refine Jr<|JA I<|Jn<|Jq<|Jc I fun ar=>Jp<|Jl<|Jo ?_
  first | with_reducible apply aN | with_reducible apply aO
  case he=>exact qD I
  case hR=>
   intro w' aq;exact aG true trivial (show bn _ [J (fh r.po v (r.ti.length+1) o).length,_,_,_] _ by rw [a7];exact .cons .here (.cons .here (.cons .here (.cons .here .nil)))) aq I
def RC (r:Ro) (s d t p:Value):List Value:=[.int .i64 r.lv,.int .i64 r.ma,s,d,t,p]
def BR (w:World) (b:Nat) (cs:List Value):Prop:=∀ (j:Nat) (u:Value),cs[j]? = some u->w.cell? ⟨b,0+j,none⟩=some u
theorem BR.keeps {w w':World} {b:Nat} {cs:List Value} (h:BR w b cs) (hk:aD [] w w'):BR w' b cs:=fun j u hu=>cy (h j u hu) I hk
theorem BR.of {c:Cx} {hs hs':List a8} {w:World} (hm:Mem c hs w) {b:Nat} {cs:List Value} {E:TypeId} {fz:Nat×Nat} (ht:Take hs (bC b (.cells cs.toArray E fz)) hs'):BR w b cs:=fun j u hu=>by
 rw [Nat.zero_add];exact At.lP ht hu w hm
theorem Bt {P:Program} {c:Cx} {sl:aI} {hs:List a8} {dst:Option Tmp} {ty:TypeId} {pos:String} {af:Array Edge} {g:Option (Nat×Bool)} {t u:TypeId} {x y:Operand} {a b:Bool} [hu:iU P t .bool] (hx:Is sl x (.bool a)) (hy:Is sl y (.bool b)) :
  cQ P c sl hs ⟨dst,.binOp .neq t x y u,ty,pos,af,g⟩ (.bool (a != b)):=
 iW hx hy fun w=>by
  have:(Op.equal t (.bool a) (.bool b)).run P w=.ok (a==b) w:=by
   exact ES (d:=9999) (by rw [hu.eq];rfl) (fun k h=>by rw [hu.eq] at h;cases h) (fun h=>by rw [hu.eq] at h;cases h) (fun _=>⟨a,I⟩) I
  simp [Au,binOp,this,bne]
def Iu (r:Ro) (v:Int) (x:Ti):Bool:=gC r.po v x.nm != nZ r.po v x.nm
def LF (r:Ro) (v:Int) (x:Ti):Bool:=fI (fh r.po v (r.ti.length+1) x.nm) x.nm
theorem MT {r:Ro} {s d t p:Value} (v:Int) (x:Ti) {b1 b2:Nat} {w:World} (h:RR w r s d t p) (hA:BR w b1 (RC r s d t p)) (f2:w.cell? ⟨b2,0,none⟩=some (.int .i64 v)) :
  aj T_ 238 [.agg x.cells.toArray,.pointer (some ⟨b1,0,none⟩),.pointer (some ⟨b2,0,none⟩)] w (.bool (Iu r v x)):=by
 obtain ⟨h1,h2,h3,h4⟩:=h.one;have kp:∀ (j:Nat) (u:Value),[Value.int .i64 r.lv,.int .i64 r.ma,s,d,t,p][j]? = some u->w.cell? ⟨b1,0+j,none⟩=some u:=hA;unfold Ti.cells;refine ah func238 I I ?_
 (refine Jr<|Jy I I fun _ _=>Ja I<|Ji<|ab (iI (eU.base kp I)) I ?_;refine ab (ag (.of I) (At.base f2 I)) I ?_;refine bK I I ae ?_;refine JL I .here I ?_)
 refine ai dH I (fun w' aq=>Ac (s:=s) (d:=d) (t:=t) (p:=p) v x.nm (h.keeps aq.keeps)) ?_
 (refine Jv I<|JJ I I<|JJ I I<|Ja I<|Ja I<|Ji<|Jv I<|ab (iI (eU.base kp I)) I ?_;refine ab (ag (.of I) (At.base f2 I)) I ?_;refine bK I I ae ?_;refine JL I .here I ?_)
 refine ai dH I (fun w' aq=>Hk (s:=s) (d:=d) (t:=t) (p:=p) v x.nm (h.keeps aq.keeps)) ?_
 skip
 refine ab (Bt (.of I) (.of I)) I ?_;refine Ja I<|Jn<|Je<|JT ?_
 rfl
theorem Qx {r:Ro} {s d t p:Value} (v:Int) {w:World} (h:RR w r s d t p):aj T_ 150 [RA r s d t p,.int .i64 v] w (.bool (r.ti.any (Iu r v))):=by
 obtain ⟨h1,h2,h3,h4⟩:=h.one;unfold RA;refine ah func150 I I ?_
 (refine Jr<|Jy I I fun _ _=>Jy I I fun _ _=>Ja I<|Ji<|bK I I ae ?_;refine JL I (.there .here) I<|ab (bo .nil (.cons (.of I) (.cons (.of I) .nil))) I ?_)
 rename_i b3 tQ b4 uQ
 with_reducible apply ai
 case hr=>exact aX
 case hd=>rfl
 case hc=>
  intro w' aq;have hA:BR w' b3 [.int .i64 r.lv,.int .i64 r.ma,s,d,t,p]:=BR.of aq (by exact Take.there .here);have f2:w'.cell? ⟨b4,0,none⟩=some (.int .i64 v):=At.lit (by exact .here) I w' aq;have hR:=h.keeps aq.keeps
  exact Al (f:=238) (p:=Iu r v) (first:=[]) (cap:=[.pointer (some ⟨b3,0,none⟩),.pointer (some ⟨b4,0,none⟩)]) hR.ti
   (fun x hx w2 eR=>MT v x (hR.keeps eR) (hA.keeps eR) (cy f2 I eR))
 refine Ja I<|Jn<|Je<|JT ?_
 rfl
theorem PK {r:Ro} {s d t p:Value} {q:Int->Bool} {f:FuncId} {first cap:List Value} [bU T_ f] {w w1:World} (h:RR w1 r s d t p) (BZ:r.lv<=1000000)
  (cn:∀ v:Int,0<=v->v<r.lv->∀ w',aD [] w w'->aj T_ f (first++[.int .i64 v]++cap) w' (.bool (q v))) :
  aj T_ 148 [RA r s d t p,.func (.func f) first.toArray cap.toArray] w (.bool ((List.range r.lv.toNat).any fun i=>q (i:Nat))):=by
 obtain ⟨h1,h2,h3,h4⟩:=h.one;unfold RA;refine ah func148 I I ?_
 (refine Jr<|Jy I I fun _ _=>Ja I<|Jn<|Jq<|Jr<|bK I I ae ?_;refine JL I .here I<|Jv I<|Jn<|J0 ?_)
 refine aY (ι:=Nat) (fun k=>k<=r.lv.toNat/\∀ i,i<k->q (i:Nat)=false) (fun k=>[(8,.int .i64 (k:Nat)),(7,.int .i64 r.lv),(1,.func (.func f) first.toArray cap.toArray)]) (fun k=>[]) (fun k=>r.lv.toNat-k) ?_ ?_
 ·apply aK 0 ⟨Zi _,fun i h=>by omega⟩
  case hs1=>exact cj
  case ht=>(try simp only [Ze,Zf,Za]);exact .nil
 rintro k ⟨hk,hz⟩;by_cases aL:k<r.lv.toNat
 ·have E2:((k:Nat):Int)<r.lv:=by omega
  refine Jr<|JA I<|Jn<|Jq<|Jd I fun ar=>Jk<|Jq<|J0<|Jr<|Jv I<|Ja I<|Ji<|Jv I<|Jv I ?_;refine ai bN I (fun w' aq=>cn (k:Nat) (by omega) E2 w' aq.keeps) ?_;cases hq:q (k:Nat) with
  | true =>
   have e:(List.range r.lv.toNat).any (fun i=>q (i:Nat))=true:=List.any_eq_true.2 ⟨k,List.mem_range.2 aL,hq⟩
   rw [e]
   (refine Jn<|cE (.of I) ?_;refine Jr<|Ja I<|Jn<|Je<|Jm<|Jh<|Jh<|Jm<|Jh<|JT ?_)
   rfl
  | false =>
   (refine Jn<|bR (.of I) ?_;refine Jw<|Jj<|Jt<|Jg<|JB I (by omega)<|Jv I<|Jn ?_)
   have I0:∀ i,i<k+1->q (i:Nat)=false:=fun i hi=>by
    by_cases e:i=k
    ·rw [e];exact hq
    ·exact hz i (by omega)
   apply aJ (k+1) ⟨show k+1<=r.lv.toNat by omega,I0⟩ (show r.lv.toNat-(k+1)<r.lv.toNat-k by omega)
   case hs1=>exact cj
   case ht=>(try simp only [Ze,Zf,Za]);exact .nil
 ·have e:(List.range r.lv.toNat).any (fun i=>q (i:Nat))=false:=by
   rw [List.any_eq_false];intro i hi;simp [hz i (by have:=List.mem_range.1 hi;omega)]
  rw [e];refine Jr<|JA I<|Jn<|Jq<|Jc I fun ar=>Jp<|Jl<|Jo<|Jt<|Jr<|Ja I<|Jn<|Je<|JT ?_
  rfl
theorem RY {po:List Po} {v:Int} {K:Nat} {o:ByteArray}:mE po v (fh po v K o).length o=some (ib po v K o):=by
 unfold ib;rcases Nat.eq_zero_or_pos (fh po v K o).length with h | h
 ·rw [List.length_eq_zero_iff.1 h];rfl
 ·obtain ⟨k,hk⟩:∃ k,(fh po v K o).length=k+1:=⟨(fh po v K o).length-1,by omega⟩;have hl:=kd po v K o;have:=nL (po:=po) (v:=v) (o:=o) (show k<K by omega);rw [hk,<- this,List.getLast?_eq_getElem?,hk,Nat.add_sub_cancel,Zc (by omega)];rfl
theorem Dd {po:List Po} {v:Int} {k K:Nat} {o:ByteArray} {vs:List Value} (h:(xu po v K o)[k]? = some vs):∃ a,mE po v (k+1) o=some a/\vs=[.string a]/\(fh po v K o)[k]? = some a:=by
 unfold xu at h;rw [List.getElem?_map,Option.map_eq_some_iff] at h;obtain ⟨a,ha,rfl⟩:=h;have hl:=kd po v K o;have hk:=(List.getElem?_eq_some_iff.1 ha).1;exact ⟨a,by rw [<- nL (k:=K) (by omega)];exact ha,I,ha⟩
theorem Ky {r:Ro} {s d t p:Value} (v:Int) (x:Ti) {b1 b2:Nat} {w:World} (h:RR w r s d t p) (cL:r.ti.length<=1000000) (hA:BR w b1 (RC r s d t p)) (f2:w.cell? ⟨b2,0,none⟩=some (.int .i64 v)) :
  aj T_ 237 [.agg x.cells.toArray,.pointer (some ⟨b1,0,none⟩),.pointer (some ⟨b2,0,none⟩)] w (.bool (LF r v x)):=by
 obtain ⟨h1,h2,h3,h4⟩:=h.one;have kp:∀ (j:Nat) (u:Value),[Value.int .i64 r.lv,.int .i64 r.ma,s,d,t,p][j]? = some u->w.cell? ⟨b1,0+j,none⟩=some u:=hA;unfold Ti.cells;refine ah func237 I I ?_
 (refine Jr<|Jy I I fun _ _=>Jz I I fun _ _=>Jn<|Jq<|Jr<|ab (iI (eU.base kp I)) I ?_;refine ab (ag (.of I) (At.base f2 I)) I ?_;refine bK I I ae ?_;refine JL I (.there .here) I ?_)
 rename_i b3 tQ b4 uQ;refine JN dH I (fun w1 aS=>vt v x.nm (h.keeps aS.keeps)) ?_;intro y _;dsimp only [id_eq,Zb,Za];refine Jn<|J0 ?_
 refine jt (ps:=[11]) (f:=222) (first:=[]) (cap:=[.pointer (some ⟨y.1,0,none⟩),.pointer (some ⟨y.2.1,0,none⟩),.pointer (some ⟨y.2.2,0,none⟩)]) (ι:=Unit) (κ:=Unit) (rst:=[]) ?hg
  [bC y.1 (.cells #[.string x.nm] 9 (0,0)),JP y.2.1 r s d t p,bC y.2.2 (.cells #[.int .i64 v] 3 (0,0))] (xu r.po v (r.ti.length+1) x.nm) ?hit
  (fun k _=>fI ((fh r.po v (r.ti.length+1) x.nm).take k) x.nm=false) (fun _=>[bC b4 (.cells #[.bool false] 4 (0,0)),bC b3 (.cells #[.string x.nm,.int .i64 x.fr,.int .i64 x.to] 187 (0,0))])
  (fun _=>LF r v x=true) (fun _=>[bC b4 (.cells #[.bool true] 4 (0,0)),bC b3 (.cells #[.string x.nm,.int .i64 x.fr,.int .i64 x.to] 187 (0,0))]) (fun _=>.ret) () (by rw [Ze];rfl) ?ht ?hlen ?hps ?round ?kn ?kj
 case hg=>exact Is.of I
 case hit=>intro w' aq;exact Dg v x.nm h RO.nil cL
 case ht=>
  dsimp only [Zb,Za];exact .cons db (.cons db (.cons .here (.cons .here (.cons .here .nil))))
 case hlen=>intro vs o6;obtain ⟨x,_,rfl⟩:=List.mem_map.1 o6;rfl
 case hps=>intro t ht;simp only [List.mem_cons,List.not_mem_nil,or_false] at ht;rcases ht with rfl;exact Nat.le_of_ble_eq_true rfl
 case kj=>
  intro y D hy;rw [hy];dsimp only [Zb,Za];refine Je<|Jm<|Jh ?_
  first | with_reducible apply aN | with_reducible apply aO
  case he=>exact Fj I inferInstance I (At.lit .here I)
  case hR=>exact fun w' aq=>⟨I,aq.keeps⟩
 case kn=>
  intro _ D hq;rw [rK,List.take_length] at hq;have tJ:LF r v x=false:=hq;rw [tJ];dsimp only [Zb,Za]
  (refine Jj<|Jt<|Jr<|au (.of I) (.of I) .here I I (eF I) (bF I) an ?_;refine Jn<|Je ?_)
  first | with_reducible apply aN | with_reducible apply aO
  case he=>exact Fj I inferInstance I (At.lit .here I)
  case hR=>exact fun w' aq=>⟨I,aq.keeps⟩
 case round=>
  intro l0 rc W fp k u vs hsz hk hq hB hF;obtain ⟨a,hit,rfl,B1⟩:=Dd hk;obtain ⟨aL,J7⟩:=List.getElem?_eq_some_iff.1 B1;have htk:(fh r.po v (r.ti.length+1) x.nm).take (k+1)=(fh r.po v (r.ti.length+1) x.nm).take k++[a]:=by rw [List.take_succ_eq_append_getElem aL,J7]
  dsimp only [List.zip_cons_cons,List.zip_nil_right,mq,Zb,Za];refine Jg<|Ja I<|Jn ?_
  with_reducible apply mL
  case ht=>exact .here
  (refine J0<|Jr<|Jv I<|bK I I ae ?_;refine JL I bT I<|ab (eh (.of I) (.of I)) I ?_;refine Jn<|gl I (fun ar=>?_) fun ar=>?_;refine Jr<|au (.of I) (.of I) (.there .here) I I (eF I) (bF I) an ?_;refine Jn<|Je<|Jm ?_;rotate_left;refine Jw<|Jj ?_;rotate_right)
  ·apply L5 () I
   case ht=>exact Take.there .here
   case hy=>
    refine ef.2 ?_;have:=List.mem_of_getElem? B1;rwa [ar] at this
   case h2=>exact .cons .here (.cons .here .nil)
  ·apply lT ()
   case ht=>exact .here
   case hx=>
    show fI ((fh r.po v (r.ti.length+1) x.nm).take (k+1)) x.nm=false;rw [htk];unfold fI at hq ⊢;rw [List.any_append,hq];simp;exact fun e=>ar e.symm
   case h2=>exact .cons .here (.cons .here .nil)
theorem DW (x:Sr) (o:ByteArray) {b2:Nat} {w:World} (f2:w.cell? ⟨b2,0,none⟩=some (.string o)) :
  aj T_ 228 [.agg x.cells.toArray,.pointer (some ⟨b2,0,none⟩)] w (.bool (decide (x.nm=o))):=by
 unfold Sr.cells;refine ah func228 I I ?_
 (refine Jr<|Jy I I fun _ _=>Ja I<|Ji<|bK I I ae ?_;refine JL I .here I<|ab (ag (.of I) (At.base f2 I)) I ?_;refine ab (eh (.of I) (.of I)) I ?_;refine Ja I<|Jn<|Je<|JT ?_)
 rfl
theorem N8 {r:Ro} {s d t p:Value} (v:Int) {w:World} (h:RR w r s d t p) (cL:r.ti.length<=1000000):aj T_ 149 [RA r s d t p,.int .i64 v] w (.bool (r.ti.any (LF r v))):=by
 obtain ⟨h1,h2,h3,h4⟩:=h.one;unfold RA;refine ah func149 I I ?_
 (refine Jr<|Jy I I fun _ _=>Jy I I fun _ _=>Ja I<|Ji<|bK I I ae ?_;refine JL I (.there .here) I<|ab (bo .nil (.cons (.of I) (.cons (.of I) .nil))) I ?_)
 rename_i b3 tQ b4 uQ
 with_reducible apply ai
 case hr=>exact aX
 case hd=>rfl
 case hc=>
  intro w' aq;have hA:BR w' b3 [.int .i64 r.lv,.int .i64 r.ma,s,d,t,p]:=BR.of aq (by exact Take.there .here);have f2:w'.cell? ⟨b4,0,none⟩=some (.int .i64 v):=At.lit (by exact .here) I w' aq;have hR:=h.keeps aq.keeps
  exact Al (f:=237) (p:=LF r v) (first:=[]) (cap:=[.pointer (some ⟨b3,0,none⟩),.pointer (some ⟨b4,0,none⟩)]) hR.ti
   (fun x hx w2 eR=>Ky v x (hR.keeps eR) cL (hA.keeps eR) (cy f2 I eR))
 refine Ja I<|Jn<|Je<|JT ?_
 rfl
def jX (r:Ro) (v:Int) (o:ByteArray):ByteArray:=if r.sr.any (fun x=>decide (x.nm=ib r.po v (r.ti.length+1) o)) then ib r.po v (r.ti.length+1) o else ⟨#[]⟩
theorem nb {r:Ro} {s d t p:Value} (v:Int) (o:ByteArray) {w:World} (h:RR w r s d t p) (cL:r.ti.length<=1000000):aj T_ 126 [RA r s d t p,.int .i64 v,.string o] w (.string (jX r v o)):=by
 obtain ⟨h1,h2,h3,h4⟩:=h.one;unfold RA;refine ah func126 I I ?_
 (refine Jr<|Jy I I fun _ _=>Ja I<|Ji<|Jv I<|Jz I I fun _ _=>au (.of I) (.of I) .here I I (eF I) (bF I) an ?_;refine Jn<|Jq<|Jr<|ab (cr (.there .here)) I ?_;refine Jv I<|Jv I ?_)
 rename_i b3 tQ b7 UE;refine JN dH I (fun w1 aS=>vt v o (h.keeps aS.keeps)) ?_;intro y _;dsimp only [id_eq,Zb,Za];refine Jn<|J0 ?_
 refine jt (ps:=[14]) (f:=222) (first:=[]) (cap:=[.pointer (some ⟨y.1,0,none⟩),.pointer (some ⟨y.2.1,0,none⟩),.pointer (some ⟨y.2.2,0,none⟩)]) (ι:=ByteArray) (κ:=Empty) (rst:=[JP b3 r s d t p]) ?hg
  [bC y.1 (.cells #[.string o] 9 (0,0)),JP y.2.1 r s d t p,bC y.2.2 (.cells #[.int .i64 v] 3 (0,0))] (xu r.po v (r.ti.length+1) o) ?hit
  (fun k a=>mE r.po v k o=some a) (fun a=>[bC b7 (.cells #[.string a] 9 (0,0))])
  (fun _=>False) (fun _=>[]) (fun _=>.ret) o I ?ht ?hlen ?hps ?round ?kn ?kj
 case hg=>exact Is.of I
 case hit=>intro w' aq;exact Dg v o h RO.nil cL
 case ht=>
  dsimp only [Zb,Za];exact .cons db (.cons .here (.cons .here (.cons .here .nil)))
 case hlen=>intro vs o6;obtain ⟨x,_,rfl⟩:=List.mem_map.1 o6;rfl
 case hps=>intro t ht;simp only [List.mem_cons,List.not_mem_nil,or_false] at ht;rcases ht with rfl;exact Nat.le_of_ble_eq_true rfl
 case kj=>
  intro y D hy;exact hy.elim
 case kn=>
  intro a D hq;rw [rK,RY,Option.some.injEq] at hq;have sS:jX r v o=if r.sr.any (fun x=>decide (x.nm=a)) then a else ⟨#[]⟩:=by rw [<- hq];rfl
  rw [sS];dsimp only [Zb,Za]
  (refine Jj<|Jt<|Jq<|Jr<|bK I I ae ?_;refine JL I fg I<|ab (bo .nil (.cons (.of I) .nil)) I ?_)
  with_reducible apply ai
  case hr=>exact aX
  case hd=>rfl
  case hc=>
   intro w' aq;have f2:w'.cell? ⟨b7,0,none⟩=some (.string a):=At.lit (by exact .here) I w' aq
   exact NH (f:=228) (p:=fun x=>decide (x.nm=a)) (first:=[]) (cap:=[.pointer (some ⟨b7,0,none⟩)]) (h.keeps aq.keeps).sr
    (fun x hx w2 eR=>DW x a (cy f2 I eR))
  cases r.sr.any (fun x=>decide (x.nm=a)) with
  | true =>
   (refine Jn<|cE (.of I) ?_;refine Jr<|JL I .here I<|Ja I<|Jn<|Ju ?_)
   first | with_reducible apply aN | with_reducible apply aO
   case he=>exact dJ I I
   case hR=>exact fun w' aq=>⟨I,aq.keeps⟩
  | false =>
   (refine Jn<|bR (.of I) ?_;refine Jk<|Jr<|Ja I<|Jn<|Je ?_)
   first | with_reducible apply aN | with_reducible apply aO
   case he=>exact dJ I I
   case hR=>exact fun w' aq=>⟨I,aq.keeps⟩
 case round=>
  intro l0 rc W fp k a0 vs hsz hk hq hB hF;obtain ⟨a,hit,rfl,B1⟩:=Dd hk;dsimp only [List.zip_cons_cons,List.zip_nil_right,mq,Zb,Za];refine Jg<|Ja I<|Jn ?_
  with_reducible apply mL
  case ht=>exact .here
  (refine J0<|Jg<|Jv I<|au (.of I) (.of I) (.there .here) I I (eF I) (bF I) an ?_;refine Jx<|Jj ?_)
  apply lT a
  case ht=>exact Take.there .here
  case hx=>exact hit
  case h2=>
   exact .cons .here .nil
theorem q8 {k k':ByteArray} {v:Value}:∀ {l:List (ByteArray×Value)},eK k' (nf k v l)=if k'=k then some v else eK k' l
 | []=>by simp [nf,eK]
 | (x, u) :: r => by
  simp only [nf];split
  ·rename_i e;subst e;simp only [eK];split <;> rfl
  ·rename_i e;simp only [eK];rw [q8];by_cases h:k'=x
   ·rw [if_pos h,if_pos h,if_neg (fun q=>e (q.symm.trans h))]
   ·rw [if_neg h,if_neg h]
theorem IH {α:Type} {l:List α} {key:α->ByteArray} {val:Nat->α->Value} {f:Nat->PM} (hs:∀ k (h:k<l.length),f (k+1)=nf (key l[k]) (val k l[k]) (f k)) (s:ByteArray) :
  (∀ k,k<=l.length->(∀ j (hj:j<l.length),j<k->key l[j]≠s)->eK s (f k)=eK s (f 0)) /\
  (∀ k,k<=l.length->∀ i (hi:i<l.length),i<k->key l[i]=s->(∀ j (hj:j<l.length),i<j->j<k->key l[j]≠s)->eK s (f k)=some (val i l[i])):=by
 constructor
 ·intro k
  induction k with
  | zero=>intro _ _;rfl
  | succ k ih =>
   intro hk hne;rw [hs k (by omega),q8,if_neg (fun e=>hne k (by omega) (by omega) e.symm)]
   exact ih (by omega) fun j hj h=>hne j hj (by omega)
 ·intro k
  induction k with
  | zero=>intro _ i _ h;omega
  | succ k ih =>
   intro hk i hi VZ he hne;rw [hs k (by omega),q8];by_cases e:i=k
   ·subst e;rw [if_pos he.symm]
   ·rw [if_neg (fun q=>hne k (by omega) (by omega) (by omega) q.symm)]
    exact ih (by omega) i hi (by omega) he fun j hj h h'=>hne j hj h (by omega)
theorem vF {α:Type} {l:List α} {key:α->ByteArray} {val:Nat->α->Value} {f:Nat->PM} (hs:∀ k (h:k<l.length),f (k+1)=nf (key l[k]) (val k l[k]) (f k)) (s:ByteArray) :
  (s ∉ l.map key->eK s (f l.length)=eK s (f 0))/\((l.map key).Nodup->∀ i (hi:i<l.length),key l[i]=s->eK s (f l.length)=some (val i l[i])):=by
 obtain ⟨h1,h2⟩:=IH hs s;constructor
 ·intro hn;exact h1 _ (Nat.le_refl _) fun j hj _ e=>hn (List.mem_map.2 ⟨_,Zj hj,e⟩)
 ·intro hd i hi he;refine h2 _ (Nat.le_refl _) i hi hi he fun j hj yR _ e=>?_;have:=(List.pairwise_iff_getElem.1 hd) i j (by rw [Zd];exact hi) (by rw [Zd];exact hj) yR;rw [List.getElem_map,List.getElem_map,he,e] at this;exact this I
structure CG (r:Ro):Prop where
 nd:(ew r).Nodup
theorem CG.parts {r:Ro} (h:CG r):(ct r).Nodup/\(cz r).Nodup/\(cd r).Nodup/\(∀ s∈ct r,s ∉ cz r)/\(∀ s∈ct r,s ∉ cd r)/\(∀ s∈cz r,s ∉ cd r):=by
 have:=h.nd;unfold ew at this;rw [List.nodup_append] at this;obtain ⟨h1,h2,h3⟩:=this;rw [List.nodup_append] at h1;obtain ⟨h4,h5,h6⟩:=h1;exact ⟨h4,h5,h2,fun s hs hd=>h6 s hs s hd I,fun s hs ht=>h3 s (List.mem_append_left _ hs) s ht I,fun s hs ht=>h3 s (List.mem_append_right _ hs) s ht I⟩
theorem di {l:List ByteArray} {s:ByteArray} (h:s∈l):0<=bd l s:=by
 have:=(not_congr (cq (l:=l) (s:=s))).2 (not_not_intro h);omega
theorem pY {l:List ByteArray} {s:ByteArray} (hd:l.Nodup) {i:Nat} (h:i<l.length) (e:l[i]=s):bd l s=(i:Nat):=
 qV h e fun j hj q=>by
  have:=(List.pairwise_iff_getElem.1 hd) j i (by omega) h hj;exact this (q.trans e.symm)
theorem qL {r:Ro} (hd:CG r) (s:ByteArray):eK s (oT r)=if fI (ew r) s then some (lL (eo r s) (j9 r s) (jR r s)) else none:=by
 obtain ⟨n1,n2,n3,d1,d2,d3⟩:=hd.parts;have hS:=vF (l:=r.sr) (key:=Sr.nm) (val:=fun _ x=>lL (-1) (-1) x.mx) (f:=wY r.sr) (fun k h=>Ie h) s
 have hD:=vF (l:=r.de) (key:=De.nm) (val:=fun k x=>lL (k:Nat) x.mx (-1)) (f:=CA (wY r.sr r.sr.length) r.de) (fun k h=>Ig h) s
 have hT:=vF (l:=r.ti) (key:=Ti.nm) (val:=fun k x=>lL ((r.de.length:Int)+(k:Nat)) x.fr x.to) (f:=Lp (CA (wY r.sr r.sr.length) r.de r.de.length) r.de.length r.ti) (fun k h=>Ic h) s
 change (s ∉ cd r->eK s (oT r)=eK s (CA (wY r.sr r.sr.length) r.de r.de.length))/\((cd r).Nodup->_) at hT;change (s ∉ cz r->eK s (CA (wY r.sr r.sr.length) r.de r.de.length)=eK s (wY r.sr r.sr.length))/\((cz r).Nodup->_) at hD;change (s ∉ ct r->eK s (wY r.sr r.sr.length)=eK s [])/\((ct r).Nodup->_) at hS;have dC:fI (ew r) s=true↔(s∈ct r\/s∈cz r)\/s∈cd r:=by rw [ef];unfold ew;rw [List.mem_append,List.mem_append]
 by_cases ht:s∈cd r
 ·rw [if_pos (dC.2 (.inr ht))];obtain ⟨i,hi,e⟩:=List.getElem_of_mem ht;have AO:i<r.ti.length:=by unfold cd at hi;rwa [Zd] at hi
  have e':(r.ti[i]).nm=s:=by simpa [cd] using e
  have hf:=pY n3 hi e;have f1:bd (cz r) s<0:=cq.2 fun h=>d3 s h ht
  have f2:bd (ct r) s<0:=cq.2 fun h=>d2 s h ht
  refine (hT.2 n3 i AO e').trans ?_;unfold eo j9 jR;rw [if_neg (by omega),if_pos (by rw [hf];omega),if_neg (by omega),if_pos (by rw [hf];omega),if_neg (by omega),if_pos (by rw [hf];omega),hf,Int.toNat_natCast,List.getD_eq_getElem?_getD,Zc AO]
  rfl
 ·rw [hT.1 ht];have f3:bd (cd r) s<0:=cq.2 ht;by_cases ug:s∈cz r
  ·rw [if_pos (dC.2 (.inl (.inr ug)))];obtain ⟨i,hi,e⟩:=List.getElem_of_mem ug;have AO:i<r.de.length:=by unfold cz at hi;rwa [Zd] at hi
   have e':(r.de[i]).nm=s:=by simpa [cz] using e
   have hf:=pY n2 hi e;have f2:bd (ct r) s<0:=cq.2 fun h=>d1 s h ug
   refine (hD.2 n2 i AO e').trans ?_;unfold eo j9 jR;rw [if_pos (by rw [hf];omega),if_pos (by rw [hf];omega),if_neg (by omega),if_neg (by omega),hf,Int.toNat_natCast,List.getD_eq_getElem?_getD,Zc AO]
   rfl
  ·rw [hD.1 ug];have f1:bd (cz r) s<0:=cq.2 ug;by_cases hs:s∈ct r
   ·rw [if_pos (dC.2 (.inl (.inl hs)))];obtain ⟨i,hi,e⟩:=List.getElem_of_mem hs;have AO:i<r.sr.length:=by unfold ct at hi;rwa [Zd] at hi
    have e':(r.sr[i]).nm=s:=by simpa [ct] using e
    have hf:=pY n1 hi e;refine (hS.2 n1 i AO e').trans ?_;unfold eo j9 jR;rw [if_neg (by omega),if_neg (by omega),if_neg (by omega),if_neg (by omega),if_pos (by rw [hf];omega),hf,Int.toNat_natCast,List.getD_eq_getElem?_getD,Zc AO]
    rfl
   ·rw [hS.1 hs,if_neg (fun h=>by rcases dC.1 h with (h | h) | h <;> contradiction)]
    rfl
def kI (x y:Int):Int:=if x<y then -1 else if y<x then 1 else 0
def lO:List Int->List Int->Int
 | [],[]=>0
 | [],_::_=>-1
 | _::_,[]=>1
 | x::a,y::b=>if kI x y≠0 then kI x y else lO a b
theorem iO {x y:Int}:kI x y=0↔x=y:=by
 unfold kI;split
 ·constructor <;> intro h <;> omega
 ·split <;> constructor <;> intro h <;> omega
theorem KI:∀ b:List Int,lO [] b=if 0<b.length then -1 else 0
 | []=>rfl
 | _::_=>rfl
theorem GH {a b:List Int} {k:Nat} (ha:k<a.length) (hb:k<b.length):lO (a.drop k) (b.drop k)=if kI a[k] b[k]≠0 then kI a[k] b[k] else lO (a.drop (k+1)) (b.drop (k+1)):=by
 rw [List.drop_eq_getElem_cons ha,List.drop_eq_getElem_cons hb];rfl
end Go.Proofs.A1
