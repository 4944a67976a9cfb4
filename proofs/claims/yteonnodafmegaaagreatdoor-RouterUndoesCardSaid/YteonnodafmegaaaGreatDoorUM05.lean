/- Parts of the proof: K5 K6 GkLook K7 K8 K9 K9q GkRegM. -/
import Derived.Test.YteonnodafmegaaaGreatDoorUM04
import Derived.Test.YteonnodafmegaaaGreatDoorUM03
import Derived.Test.YteonnodafmegaaaGreatDoorUM02
set_option linter.unusedSectionVars false
set_option linter.unusedVariables false
set_option linter.unusedSimpArgs false
namespace Go.Proofs.A1
open Go Go.SL
open Tryz
open Tryz renaming prog->T_
variable {X:Act->World->Prop} {bf:List ByteArray} {bv:Value} {cap:List Value} {f:FuncId} {first:List Value} {k:Nat} {lv:Value} {r:Ro} {w:World}
theorem GW {c:Cx} {D:List Nat} {sl:aH} {hs hs':List bd} {E:TypeId} {g:Nat} {xs:List Value} (n sz:Nat) (ht:Take hs (bo g (.cells xs.toArray E (0,0))) hs') (hl:xs.length=n*sz) (hn:Nat.ble n 1000=true)
  (k:Tr c D sl (row E sz (.w g n n) n xs::hs') X):Tr c D sl hs X:=
 cH (cur:=[]) (by rw [ZS];exact ht) (Zz _) (by have:=Zay hn;unfold maxLen;omega) (by rw [ZS];exact hl) hl k
theorem ch {c:Cx} {D:List Nat} {sl:aH} {hs hs':List bd} {E:TypeId} {g:Nat} {xs ys:List Value} (n sz:Nat) (ht:Take hs (bo g (.cells xs.toArray E (0,0))) hs') (he:xs=ys) (hl:ys.length=n*sz) (hn:Nat.ble n 1000=true)
  (k:Tr c D sl (row E sz (.w g n n) n ys::hs') X):Tr c D sl hs X:=by
 subst he;exact GW n sz ht hl hn k
def fv (l:List ByteArray) (x:ByteArray):Bool:=l.any fun y=>decide (x=y)
theorem dZ {l:List ByteArray} {x:ByteArray}:fv l x=true↔x∈l:=by
 unfold fv;rw [ZN];constructor
 ·rintro ⟨y,hy,h⟩;rw [decide_eq_true_iff] at h;rw [h];exact hy
 ·intro h;exact ⟨x,h,by simp⟩
theorem KV {l:List ByteArray} (x:ByteArray) {w:World} (h:Rd w lv 1 (fX l)) :
  aj T_ 181 [lv,.string x] w (.q (fU (fun y=>decide (x=y)) l)):=by
 obtain ⟨a,cp,b,o,rfl,dp,bY,ha,hc⟩:=h;rw [bX] at *;unfold maxLen at bY;refine ah func181 I I ?_;refine Jr<|Ja I<|Jn<|Jq<|Jr<|Jv I<|JI I<|Jv I<|Jn<|J0 ?_;refine a7 (fun k:Nat=>k<=l.length/\∀ i,i<k->(l[i]?.map fun y=>decide (x=y)).getD false=false) (fun k=>[(8,.int .i64 k),(7,.int .i64 l.length),(0,.slice a l.length cp),(1,.string x)]) (fun _=>[]) (fun k=>l.length-k) ?_ ?_
 ·apply aI 0 ⟨Zi _,fun i h=>by omega⟩
  case hs1=>exact cu
  case ht=>(try simp only [Ze,Zf,Za]);exact .nil
 rintro k ⟨hk,hf⟩;by_cases aN:k<l.length
 ·have cP:=ha (mm aN);have c0:w.cell? ⟨b,o+k*1,none⟩=some (.string l[k]):=(hc k _ (jf aN)).2 0 _ I;have hps:(l[k]?.map fun y=>decide (x=y)).getD false=decide (x=l[k]):=by simp [aN]
  (refine Jr<|JA I<|Jn<|Jq<|Jd I fun ar=>Jk<|Jq<|J0<|Jr<|Jv I<|Ja I<|Ji<|Jv I<|Jv I<|Jv I<|ab (fZ cP ar) I<|ab (ag (.of I) (At.base c0 I)) I<|ab (ei (.of I) (.of I)) I<|Jn<|gB I (fun ar=>?_) fun ar=>?_;refine Jr<|Jv I<|Ja I<|Jn<|Je<|Jm<|Jh<|Jh<|Jm<|Jh<|JT ?_;rotate_left;refine Jw<|Jj<|Jt<|Jg<|JB I (by omega)<|Jv I<|Jn ?_;rotate_right)
  ·rw [gG hf aN (by simpa using ar)]
  ·apply aL (k+1) ⟨by omega,fun i hi=>by
    by_cases e:i=k
    ·rw [e,hps];simpa using ar
    ·exact hf i (by omega)⟩ (by omega)
   case hs1=>exact cu
   case ht=>(try simp only [Ze,Zf,Za]);exact .nil
 ·obtain rfl:k=l.length:=by omega
  refine Jr<|JA I<|Jn<|Jq<|Jc I fun ar=>Jp<|Jl<|Jo<|Jt<|Jr<|Ja I<|Jn<|Je<|JT ?_;rw [fG hf]
theorem pf {l:List ByteArray} (x:ByteArray) {w:World} (h:Rd w lv 1 (fX l)) :
  aj T_ 179 [lv,.string x] w (.bool (fv l x)):=by
 have iz:∀ w',aK [] w w'->aj T_ 181 [lv,.string x] w' (.q (fU (fun y=>decide (x=y)) l)):=fun w' hk=>KV x (h.keeps hk)
 have e:fv l x=l.any fun y=>decide (x=y):=rfl
 rw [e,<- iY];refine ah func179 I I ?_
 (refine Jr<|Ja I<|Ji<|Jv I<|Jv I<|ai ba I (fun w' aA=>(iz w' (Mem.keeps aA)))<|JG I<|Ja I<|Jn<|Je<|JT ?_)
 rfl
theorem OC {l:List Int} (x:Int) {w:World} (h:Rd w lv 1 (ints l)) :
  aj T_ 241 [lv,.q x] w (.q (fU (fun y=>decide (x=y)) l)):=by
 obtain ⟨a,cp,b,o,rfl,dp,bY,ha,hc⟩:=h;rw [c7] at *;unfold maxLen at bY;refine ah func241 I I ?_;refine Jr<|Ja I<|Jn<|Jq<|Jr<|Jv I<|JI I<|Jv I<|Jn<|J0 ?_;refine a7 (fun k:Nat=>k<=l.length/\∀ i,i<k->(l[i]?.map fun y=>decide (x=y)).getD false=false) (fun k=>[(8,.int .i64 k),(7,.int .i64 l.length),(0,.slice a l.length cp),(1,.int .i64 x)]) (fun _=>[]) (fun k=>l.length-k) ?_ ?_
 ·apply aI 0 ⟨Zi _,fun i h=>by omega⟩
  case hs1=>exact cu
  case ht=>(try simp only [Ze,Zf,Za]);exact .nil
 rintro k ⟨hk,hf⟩;by_cases aN:k<l.length
 ·have cP:=ha (jG aN);have c0:w.cell? ⟨b,o+k*1,none⟩=some (.q l[k]):=(hc k _ (iw aN)).2 0 _ I;have hps:(l[k]?.map fun y=>decide (x=y)).getD false=decide (x=l[k]):=by simp [aN]
  (refine Jr<|JA I<|Jn<|Jq<|Jd I fun ar=>Jk<|Jq<|J0<|Jr<|Jv I<|Ja I<|Ji<|Jv I<|Jv I<|Jv I<|ab (fZ cP ar) I<|ab (ag (.of I) (At.base c0 I)) I<|JC I<|Jn<|gB I (fun ar=>?_) fun ar=>?_;refine Jr<|Jv I<|Ja I<|Jn<|Je<|Jm<|Jh<|Jh<|Jm<|Jh<|JT ?_;rotate_left;refine Jw<|Jj<|Jt<|Jg<|JB I (by omega)<|Jv I<|Jn ?_;rotate_right)
  ·rw [gG hf aN (by simpa using ar)]
  ·apply aL (k+1) ⟨by omega,fun i hi=>by
    by_cases e:i=k
    ·rw [e,hps];simpa using ar
    ·exact hf i (by omega)⟩ (by omega)
   case hs1=>exact cu
   case ht=>(try simp only [Ze,Zf,Za]);exact .nil
 ·obtain rfl:k=l.length:=by omega
  refine Jr<|JA I<|Jn<|Jq<|Jc I fun ar=>Jp<|Jl<|Jo<|Jt<|Jr<|Ja I<|Jn<|Je<|JT ?_;rw [fG hf]
theorem lF {l:List Int} (x:Int) {w:World} (h:Rd w lv 1 (ints l)) :
  aj T_ 154 [lv,.q x] w (.bool (l.contains x)):=by
 have iz:∀ w',aK [] w w'->aj T_ 241 [lv,.q x] w' (.q (fU (fun y=>decide (x=y)) l)):=fun w' hk=>OC x (h.keeps hk)
 have e:l.contains x=l.any fun y=>decide (x=y):=by
  rw [List.contains_eq_any_beq];rfl
 rw [e,<- iY];refine ah func154 I I ?_
 (refine Jr<|Ja I<|Ji<|Jv I<|Jv I<|ai ba I (fun w' aA=>(iz w' (Mem.keeps aA)))<|JG I<|Ja I<|Jn<|Je<|JT ?_)
 rfl
theorem wI {l:List ByteArray} (h:Rd w lv 1 (fX l)) (hl:l.length<=1000) :
  bb T_ 234 [lv] w [] (fun _:Value=>True) id (fun v=>[row 9 1 v l.length (aJ l)]):=by
 have h':=h;obtain ⟨a,cp,b,o,rfl,dp,bY,ha,hc⟩:=h;refine aT func234 I I ?_;cases a with
 | none =>
  have pT:l=[]:=by
   cases l with
   | nil=>rfl
   | cons x r=>exact absurd (ha (by simp [fX])) (by simp)
  subst pT
  (refine Jr<|Ja I<|Jn<|Jq<|Jr<|Jv I<|ab (gN (.of I) (.of I)) I<|Jn<|cL (.of I)<|Jr<|Ja I<|Jn<|Ju ?_)
  refine aP 9 1 ?_
  with_reducible first|apply aR|apply aS
  case he=>exact dH I I
  case hR=>
   intro w' aA;exact aD (.z) trivial (by exact .h1 .nil) aA I
 | some ad =>
  (refine Jr<|Ja I<|Jn<|Jq<|Jr<|Jv I<|ab (gN (.of I) (.of I)) I<|Jn<|bE (.of I)<|Jk<|Jr<|bu (aC .nil I I I I) I fun _ _=>Jv I ?_)
  rename_i bq nf;refine ch (g:=bq) (E:=9) (ys:=[]) 0 1 (by exact .here) I I I ?_
  with_reducible apply il
  case hx=>exact Is.of I
  case hy=>exact Is.of I
  case ht=>exact .here
  case hsrc=>exact fun w' aA=>h'.keeps aA.keeps
  case h1=>exact zO l
  case hz=>exact I
  case hsz=>exact I
  case hb0=>exact I
  case hb=>rw [bX];omega
  case hd=>rfl
  intro v';rw [bX,<- rn,ZH,Za];refine Ja I<|Jn<|Je ?_
  with_reducible first|apply aR|apply aS
  case he=>exact dH I I
  case hR=>
   intro w' aA;exact aD v' trivial (by exact .h1 .nil) aA I
theorem NB (l:List Sr):kY l=(w9 l).flatten:=rfl
theorem HY {l:List Sr} (h:Rd w lv 2 (w9 l)) (hl:l.length<=1000) :
  bb T_ 266 [lv] w [] (fun _:Value=>True) id (fun v=>[row 186 2 v l.length (kY l)]):=by
 have h':=h;obtain ⟨a,cp,b,o,rfl,dp,bY,ha,hc⟩:=h;refine aT func266 I I ?_;cases a with
 | none =>
  have pT:l=[]:=by
   cases l with
   | nil=>rfl
   | cons x r=>exact absurd (ha (by simp [w9])) (by simp)
  subst pT
  (refine Jr<|Ja I<|Jn<|Jq<|Jr<|Jv I<|ab (gN (.of I) (.of I)) I<|Jn<|cL (.of I)<|Jr<|Ja I<|Jn<|Ju ?_)
  refine aP 186 2 ?_
  with_reducible first|apply aR|apply aS
  case he=>exact dH I I
  case hR=>
   intro w' aA;exact aD (.z) trivial (by exact .h1 .nil) aA I
 | some ad =>
  (refine Jr<|Ja I<|Jn<|Jq<|Jr<|Jv I<|ab (gN (.of I) (.of I)) I<|Jn<|bE (.of I)<|Jk<|Jr ?_)
  with_reducible apply bu
  case hr=>exact kJ
  case hd=>rfl
  intro bq nf;refine xi I I ?_;refine ch (g:=bq) (E:=186) (ys:=[]) 0 2 (by exact .here) I I I ?_
  with_reducible apply il
  case hx=>exact Is.of I
  case hy=>exact Is.of I
  case ht=>exact .here
  case hsrc=>exact fun w' aA=>h'.keeps aA.keeps
  case h1=>exact ND l
  case hz=>exact I
  case hsz=>exact I
  case hb0=>exact I
  case hb=>rw [cR];omega
  case hd=>rfl
  intro v';rw [cR,ZH,Za,<- NB];refine Ja I<|Jn<|Je ?_
  with_reducible first|apply aR|apply aS
  case he=>exact dH I I
  case hR=>
   intro w' aA;exact aD v' trivial (by exact .h1 .nil) aA I
theorem Pu (l:List De):jQ l=(wz l).flatten:=rfl
theorem H0 {l:List De} (h:Rd w lv 3 (wz l)) (hl:l.length<=1000) :
  bb T_ 267 [lv] w [] (fun _:Value=>True) id (fun v=>[row 90 3 v l.length (jQ l)]):=by
 have h':=h;obtain ⟨a,cp,b,o,rfl,dp,bY,ha,hc⟩:=h;refine aT func267 I I ?_;cases a with
 | none =>
  have pT:l=[]:=by
   cases l with
   | nil=>rfl
   | cons x r=>exact absurd (ha (by simp [wz])) (by simp)
  subst pT
  (refine Jr<|Ja I<|Jn<|Jq<|Jr<|Jv I<|ab (gN (.of I) (.of I)) I<|Jn<|cL (.of I)<|Jr<|Ja I<|Jn<|Ju ?_)
  refine aP 90 3 ?_
  with_reducible first|apply aR|apply aS
  case he=>exact dH I I
  case hR=>
   intro w' aA;exact aD (.z) trivial (by exact .h1 .nil) aA I
 | some ad =>
  (refine Jr<|Ja I<|Jn<|Jq<|Jr<|Jv I<|ab (gN (.of I) (.of I)) I<|Jn<|bE (.of I)<|Jk<|Jr ?_)
  with_reducible apply bu
  case hr=>exact kJ
  case hd=>rfl
  intro bq nf;refine xi I I ?_;refine ch (g:=bq) (E:=90) (ys:=[]) 0 3 (by exact .here) I I I ?_
  with_reducible apply il
  case hx=>exact Is.of I
  case hy=>exact Is.of I
  case ht=>exact .here
  case hsrc=>exact fun w' aA=>h'.keeps aA.keeps
  case h1=>exact Pw l
  case hz=>exact I
  case hsz=>exact I
  case hb0=>exact I
  case hb=>rw [cB];omega
  case hd=>rfl
  intro v';rw [cB,ZH,Za,<- Pu];refine Ja I<|Jn<|Je ?_
  with_reducible first|apply aR|apply aS
  case he=>exact dH I I
  case hR=>
   intro w' aA;exact aD v' trivial (by exact .h1 .nil) aA I
theorem Np (l:List Ti):l6 l=(vk l).flatten:=rfl
theorem HX {l:List Ti} (h:Rd w lv 3 (vk l)) (hl:l.length<=1000) :
  bb T_ 268 [lv] w [] (fun _:Value=>True) id (fun v=>[row 187 3 v l.length (l6 l)]):=by
 have h':=h;obtain ⟨a,cp,b,o,rfl,dp,bY,ha,hc⟩:=h;refine aT func268 I I ?_;cases a with
 | none =>
  have pT:l=[]:=by
   cases l with
   | nil=>rfl
   | cons x r=>exact absurd (ha (by simp [vk])) (by simp)
  subst pT
  (refine Jr<|Ja I<|Jn<|Jq<|Jr<|Jv I<|ab (gN (.of I) (.of I)) I<|Jn<|cL (.of I)<|Jr<|Ja I<|Jn<|Ju ?_)
  refine aP 187 3 ?_
  with_reducible first|apply aR|apply aS
  case he=>exact dH I I
  case hR=>
   intro w' aA;exact aD (.z) trivial (by exact .h1 .nil) aA I
 | some ad =>
  (refine Jr<|Ja I<|Jn<|Jq<|Jr<|Jv I<|ab (gN (.of I) (.of I)) I<|Jn<|bE (.of I)<|Jk<|Jr ?_)
  with_reducible apply bu
  case hr=>exact kJ
  case hd=>rfl
  intro bq nf;refine xi I I ?_;refine ch (g:=bq) (E:=187) (ys:=[]) 0 3 (by exact .here) I I I ?_
  with_reducible apply il
  case hx=>exact Is.of I
  case hy=>exact Is.of I
  case ht=>exact .here
  case hsrc=>exact fun w' aA=>h'.keeps aA.keeps
  case h1=>exact Nr l
  case hz=>exact I
  case hsz=>exact I
  case hb0=>exact I
  case hb=>rw [cr];omega
  case hd=>rfl
  intro v';rw [cr,ZH,Za,<- Np];refine Ja I<|Jn<|Je ?_
  with_reducible first|apply aR|apply aS
  case he=>exact dH I I
  case hR=>
   intro w' aA;exact aD v' trivial (by exact .h1 .nil) aA I
theorem Ao (l:List Po):gK l=(ud l).flatten:=rfl
theorem Oq {l:List Sr} {g:Sr->ByteArray} [bO T_ f] {w:World} (h:Rd w lv 2 (w9 l)) (hn:l.length<=1000000)
  (cJ:∀ x∈l,∀ w',aK [] w w'->aj T_ f (first++[.agg x.cells.toArray]++cap) w' (.string (g x))) :
  bb T_ 140 [lv,.func (.func f) first.toArray cap.toArray] w [] (fun _:Value=>True) id (fun v=>[row 9 1 v l.length (aJ (l.map g))]):=by
 obtain ⟨a,cp,b,o,rfl,dp,bY,ha,hc⟩:=h;rw [cR] at *;unfold maxLen at bY;refine aT func140 I I ?_;refine Jr<|Ja I<|Ji<|Ja I<|Jn<|Jq<|Jr<|Jv I<|JI I<|Jv I<|Jn<|J0 ?_;refine aP 9 1 ?_;refine a7 (ι:=Nat×Value) (fun x=>x.1<=l.length) (fun x=>[(10,.int .i64 x.1),(9,.int .i64 l.length),(8,.slice a l.length cp),(5,x.2),(1,.func (.func f) first.toArray cap.toArray)]) (fun x=>[row 9 1 x.2 x.1 (aJ ((l.take x.1).map g))]) (fun x=>l.length-x.1) ?_ ?_
 ·apply aI (0,.z) (Zi _)
  case hs1=>exact cu
  case ht=>
   exact .h1 .nil
 rintro ⟨k,v⟩ hk;dsimp only at hk ⊢;by_cases aN:k<l.length
 ·have cP:=ha (iK aN);have aB:=(hc k _ (fY aN)).2;have iz:=cJ _ (Zj aN);have K2:aJ ((l.take (k+1)).map g)=aJ ((l.take k).map g)++[.string (g l[k])]:=by
   rw [Zn aN,Zt,fw];rfl
  generalize g l[k]=gk at iz K2;unfold Sr.cells at aB iz
  (refine Jr<|JA I<|Jn<|Jq<|Jd I fun ar=>Jk<|Jq<|J0<|Jr<|ab (fZ cP ar) I<|ab (iA (eV.base aB I)) I<|Jz I I fun _ _=>an (.of I) (.of I) .here I I (gJ I I) (bG I) ak<|Jn<|Jg<|Jv I<|Jv I<|ab (cK .here) I ?_)
  refine ai bz I (fun w' aA=>(iz w' (Mem.keeps aA))) ?_;refine bu (aC (.o I .nil) I I I I) I (fun _ _=>?_);refine bK (.of I) (.of I) bF .here ak (by rfl) (eL I) (by rfl) (by rfl) (by rfl) fa (by rfl) ?_;intro v';refine Ja I<|Jx<|Jj<|Jt<|Jg<|JB I (by omega)<|Jv I<|Jn ?_;apply aL (k+1,v') (by show k+1<=l.length;omega) (by show l.length-(k+1)<l.length-k;omega)
  case hs1=>exact cu
  case ht=>
   show bj _ [row 9 1 v' (k+1) (aJ ((l.take (k+1)).map g))] _;rw [K2];exact .h1 .nil
 ·obtain rfl:k=l.length:=by omega
  rw [ZL];refine Jr<|JA I<|Jn<|Jq<|Jc I fun ar=>Jp<|Jl<|Jo<|Jt<|Jr<|Jv I<|Ja I<|Jn<|Je ?_
  with_reducible first|apply aR|apply aS
  case he=>exact dH I I
  case hR=>
   intro w' aA;exact aD v trivial (by exact .h1 .nil) aA I
theorem F0 {l:List De} {g:De->ByteArray} [bO T_ f] {w:World} (h:Rd w lv 3 (wz l)) (hn:l.length<=1000000)
  (cJ:∀ x∈l,∀ w',aK [] w w'->aj T_ f (first++[.agg x.cells.toArray]++cap) w' (.string (g x))) :
  bb T_ 143 [lv,.func (.func f) first.toArray cap.toArray] w [] (fun _:Value=>True) id (fun v=>[row 9 1 v l.length (aJ (l.map g))]):=by
 obtain ⟨a,cp,b,o,rfl,dp,bY,ha,hc⟩:=h;rw [cB] at *;unfold maxLen at bY;refine aT func143 I I ?_;refine Jr<|Ja I<|Ji<|Ja I<|Jn<|Jq<|Jr<|Jv I<|JI I<|Jv I<|Jn<|J0 ?_;refine aP 9 1 ?_;refine a7 (ι:=Nat×Value) (fun x=>x.1<=l.length) (fun x=>[(10,.int .i64 x.1),(9,.int .i64 l.length),(8,.slice a l.length cp),(5,x.2),(1,.func (.func f) first.toArray cap.toArray)]) (fun x=>[row 9 1 x.2 x.1 (aJ ((l.take x.1).map g))]) (fun x=>l.length-x.1) ?_ ?_
 ·apply aI (0,.z) (Zi _)
  case hs1=>exact cu
  case ht=>
   exact .h1 .nil
 rintro ⟨k,v⟩ hk;dsimp only at hk ⊢;by_cases aN:k<l.length
 ·have cP:=ha (gI aN);have aB:=(hc k _ (fm aN)).2;have iz:=cJ _ (Zj aN);have K2:aJ ((l.take (k+1)).map g)=aJ ((l.take k).map g)++[.string (g l[k])]:=by
   rw [Zn aN,Zt,fw];rfl
  generalize g l[k]=gk at iz K2;unfold De.cells at aB iz
  (refine Jr<|JA I<|Jn<|Jq<|Jd I fun ar=>Jk<|Jq<|J0<|Jr<|ab (fZ cP ar) I<|ab (iA (eV.base aB I)) I<|Jz I I fun _ _=>an (.of I) (.of I) .here I I (fq I I I) (bG I) ak<|Jn<|Jg<|Jv I<|Jv I<|ab (cK .here) I ?_)
  refine ai bz I (fun w' aA=>(iz w' (Mem.keeps aA))) ?_;refine bu (aC (.o I .nil) I I I I) I (fun _ _=>?_);refine bK (.of I) (.of I) bF .here ak (by rfl) (eL I) (by rfl) (by rfl) (by rfl) fa (by rfl) ?_;intro v';refine Ja I<|Jx<|Jj<|Jt<|Jg<|JB I (by omega)<|Jv I<|Jn ?_;apply aL (k+1,v') (by show k+1<=l.length;omega) (by show l.length-(k+1)<l.length-k;omega)
  case hs1=>exact cu
  case ht=>
   show bj _ [row 9 1 v' (k+1) (aJ ((l.take (k+1)).map g))] _;rw [K2];exact .h1 .nil
 ·obtain rfl:k=l.length:=by omega
  rw [ZL];refine Jr<|JA I<|Jn<|Jq<|Jc I fun ar=>Jp<|Jl<|Jo<|Jt<|Jr<|Jv I<|Ja I<|Jn<|Je ?_
  with_reducible first|apply aR|apply aS
  case he=>exact dH I I
  case hR=>
   intro w' aA;exact aD v trivial (by exact .h1 .nil) aA I
theorem Oo {l:List Ti} {g:Ti->ByteArray} [bO T_ f] {w:World} (h:Rd w lv 3 (vk l)) (hn:l.length<=1000000)
  (cJ:∀ x∈l,∀ w',aK [] w w'->aj T_ f (first++[.agg x.cells.toArray]++cap) w' (.string (g x))) :
  bb T_ 178 [lv,.func (.func f) first.toArray cap.toArray] w [] (fun _:Value=>True) id (fun v=>[row 9 1 v l.length (aJ (l.map g))]):=by
 obtain ⟨a,cp,b,o,rfl,dp,bY,ha,hc⟩:=h;rw [cr] at *;unfold maxLen at bY;refine aT func178 I I ?_;refine Jr<|Ja I<|Ji<|Ja I<|Jn<|Jq<|Jr<|Jv I<|JI I<|Jv I<|Jn<|J0 ?_;refine aP 9 1 ?_;refine a7 (ι:=Nat×Value) (fun x=>x.1<=l.length) (fun x=>[(10,.int .i64 x.1),(9,.int .i64 l.length),(8,.slice a l.length cp),(5,x.2),(1,.func (.func f) first.toArray cap.toArray)]) (fun x=>[row 9 1 x.2 x.1 (aJ ((l.take x.1).map g))]) (fun x=>l.length-x.1) ?_ ?_
 ·apply aI (0,.z) (Zi _)
  case hs1=>exact cu
  case ht=>
   exact .h1 .nil
 rintro ⟨k,v⟩ hk;dsimp only at hk ⊢;by_cases aN:k<l.length
 ·have cP:=ha (fF aN);have aB:=(hc k _ (eO aN)).2;have iz:=cJ _ (Zj aN);have K2:aJ ((l.take (k+1)).map g)=aJ ((l.take k).map g)++[.string (g l[k])]:=by
   rw [Zn aN,Zt,fw];rfl
  generalize g l[k]=gk at iz K2;unfold Ti.cells at aB iz
  (refine Jr<|JA I<|Jn<|Jq<|Jd I fun ar=>Jk<|Jq<|J0<|Jr<|ab (fZ cP ar) I<|ab (iA (eV.base aB I)) I<|Jz I I fun _ _=>an (.of I) (.of I) .here I I (fq I I I) (bG I) ak<|Jn<|Jg<|Jv I<|Jv I<|ab (cK .here) I ?_)
  refine ai bz I (fun w' aA=>(iz w' (Mem.keeps aA))) ?_;refine bu (aC (.o I .nil) I I I I) I (fun _ _=>?_);refine bK (.of I) (.of I) bF .here ak (by rfl) (eL I) (by rfl) (by rfl) (by rfl) fa (by rfl) ?_;intro v';refine Ja I<|Jx<|Jj<|Jt<|Jg<|JB I (by omega)<|Jv I<|Jn ?_;apply aL (k+1,v') (by show k+1<=l.length;omega) (by show l.length-(k+1)<l.length-k;omega)
  case hs1=>exact cu
  case ht=>
   show bj _ [row 9 1 v' (k+1) (aJ ((l.take (k+1)).map g))] _;rw [K2];exact .h1 .nil
 ·obtain rfl:k=l.length:=by omega
  rw [ZL];refine Jr<|JA I<|Jn<|Jq<|Jc I fun ar=>Jp<|Jl<|Jo<|Jt<|Jr<|Jv I<|Ja I<|Jn<|Je ?_
  with_reducible first|apply aR|apply aS
  case he=>exact dH I I
  case hR=>
   intro w' aA;exact aD v trivial (by exact .h1 .nil) aA I
theorem Pc (n:Nat) (hn:n<=1000) (w:World):bb T_ 235 [.z,.q (n:Int)] w [] (fun _:Value=>True) id (fun v=>[row 9 1 v 0 []]):=by
 refine aT func235 I I ?_
 (refine Jr<|Ja I<|Jn<|Jq<|Jr<|Jv I<|JA I<|Jn<|Jc I fun ar=>Jk<|Jq<|Jr<|Jv I<|Jv I<|ab (rD (.of I)) I<|Jv I<|JI I<|JS I (by omega)<|JS I (by omega)<|Ja I<|Ji<|Jv I<|JE I<|Jn<|gB I (fun ar=>?_) fun ar=>?_;refine Jg<|Jv I<|Jv I<|ab (rD (.of I)) I<|ab (gF (.of I) (.of I) (by omega) (by omega)) I<|Jv I ?_;rotate_left;refine Jk<|Jr<|Jv I<|Ja I<|Jn<|Je ?_;rotate_right)
 ·rw [show (n:Int)-(((0:Nat):Int)-((0:Nat):Int))=(n:Int) by omega]
  with_reducible apply D4
  case hx=>exact Is.of I
  case hy=>exact Is.of I
  case h0=>omega
  case hz=>exact I
  case hsz=>exact I
  case hb0=>exact I
  case hb=>omega
  case hd=>rfl
  intro v';refine cQ (E:=9) (sz:=1) (by exact .here) (by omega) fun g ic cur e oU HC EN Gd=>?_;subst e
  (refine Jv I<|JI I<|ab (gF (.of I) (.of I) (by omega) (by omega)) I<|Ja I<|Ji<|Jv I<|Ja I<|Jn<|Je ?_)
  rw [show Go.sliced (some ⟨g,0,none⟩) 0 (((0:Nat):Int)).toNat ic 1=.w g 0 ic from B4 g ic 1]
  skip
  generalize hA:_++cur=al at EN ⊢;refine cH (n:=0) (xs:=[]) (cur:=al) (cap:=ic) (g:=g) (E:=9) (sz:=1) (by rw [Za];exact .here) (Zi _) HC EN I ?_
  with_reducible first|apply aR|apply aS
  case he=>exact dH I I
  case hR=>
   intro w' aA;exact aD (.w g 0 ic) trivial (by exact .h1 .nil) aA I
 ·refine aP 9 1 ?_
  with_reducible first|apply aR|apply aS
  case he=>exact dH I I
  case hR=>
   intro w' aA;exact aD (.z) trivial (by exact .h1 .nil) aA I
theorem Nx (a b:List ByteArray):fX (a++b)=fX a++fX b:=by simp [fX]
theorem sy {α:Type} {l:List (List α)} (h:k<l.length):(l.take (k+1)).flatten=(l.take k).flatten++l[k]:=by
 rw [List.take_add_one,Zc h,Zad];simp
theorem Gs {α:Type} (l:List (List α)) (k:Nat):(l.take k).flatten.length<=l.flatten.length:=by
 conv=>rhs;rw [<- ZV k l]
 rw [Zad,Zg];omega
theorem B5 {α:Type} {l:List α} (h:k<l.length):(l.map fun v=>[v])[k]? = some [l[k]]:=by simp [h]
theorem HV {vs:List Value} {ess:List (List ByteArray)} (h:Rd w lv 1 (vs.map fun v=>[v])) (hl:vs.length=ess.length) (hr:∀ (i:Nat) (v:Value) (es:List ByteArray),vs[i]? = some v->ess[i]? = some es->Rd w v 1 (fX es)) (hn:ess.flatten.length<=1000) :
  bb T_ 142 [lv] w [] (fun _:Value=>True) id (fun v=>[row 9 1 v ess.flatten.length (fX ess.flatten).flatten]):=by
 obtain ⟨a,cp,b,o,rfl,dp,bY,ha,hc⟩:=h;rw [Zd] at *;unfold maxLen at bY;refine aT func142 I I ?_;refine Jr<|Ja I<|Ji<|Ja I<|Jn<|Jq<|Jr<|Jv I<|JI I<|Jv I<|Jn<|J0 ?_;refine a7 (ι:=Nat) (fun k=>k<=vs.length) (fun k=>[(11,.int .i64 k),(10,.int .i64 vs.length),(9,.slice a vs.length cp),(0,.slice a vs.length cp),(3,.int .i64 (((ess.take k).flatten.length:Nat):Int))]) (fun _=>[]) (fun k=>vs.length-k) ?_ ?_
 ·apply aI (0:Nat) (show (0:Nat)<=vs.length from Zi _)
  case hs1=>exact cu
  case ht=>(try simp only [Ze,Zf,Za]);exact .nil
 intro k hk;by_cases aN:k<vs.length
 ·have fQ:k<ess.length:=by omega
  have cP:=ha (by intro e;have:=congrArg List.length e;simp at this;subst this;simp at aN);have Vl:=hr k _ _ (Zc aN) (Zc fQ);obtain ⟨a1,eJ,b1,o1,e1,_⟩:=Vl;rw [bX] at e1;have c0:w.cell? ⟨b,o+k*1,none⟩=some (.slice a1 ess[k].length eJ):=by rw [<- e1];exact (hc k _ (B5 aN)).2 0 _ I
  have sX:=Gs ess (k+1);have hs:((ess.take (k+1)).flatten.length:Int)=(ess.take k).flatten.length+ess[k].length:=by rw [sy fQ,Zg];omega
  (refine Jr<|JA I<|Jn<|Jq<|Jd I fun ar=>Jk<|Jq<|J0<|Jr<|ab (fZ cP ar) I<|ab (ag (.of I) (At.base c0 I)) I<|Ja I<|Ji<|Jv I<|Jv I<|JI I<|JB I (by omega)<|Ja I<|Ji<|Jv I<|JA I<|Jn<|Jc I fun ar=>Jw<|Jj<|Jt<|Jg<|JB I (by omega)<|Jv I<|Jn ?_)
  apply aL (k+1) (show k+1<=vs.length by omega) (show vs.length-(k+1)<vs.length-k by omega)
  case hs1=>
   rw [hs];exact .cons I (.cons I (.cons I (.cons I (.cons I .nil))))
  case ht=>exact .nil
 ·obtain rfl:k=vs.length:=by omega
  rw [show ess.take vs.length=ess by rw [hl,ZL]];refine Jr<|JA I<|Jn<|Jq<|Jc I fun ar=>Jp<|Jl<|Jo<|Jt<|Jr<|Jv I ?_;refine JN ba I (fun w1 aG=>Pc _ hn _) ?_;intro v0 _;dsimp only [id_eq,Zb,Za];refine Ja I<|Jn<|Jq<|Jr<|Jv I<|JI I<|Jv I<|Jn<|J0 ?_;refine a7 (ι:=Nat×Value) (fun x=>x.1<=vs.length) (fun x=>[(27,.q x.1),(26,.q vs.length),(25,.slice a vs.length cp),(6,x.2)]) (fun x=>[row 9 1 x.2 (ess.take x.1).flatten.length (fX (ess.take x.1).flatten).flatten]) (fun x=>vs.length-x.1) ?_ ?_
  ·apply aI (0,v0) (Zi _)
   case hs1=>exact cu
   case ht=>
    exact .h1 .nil
  rintro ⟨k,v⟩ hk;dsimp only at hk ⊢;by_cases aN:k<vs.length
  ·have fQ:k<ess.length:=by omega
   have cP:=ha (by intro e;have:=congrArg List.length e;simp at this;subst this;simp at aN);have Vl:=hr k _ _ (Zc aN) (Zc fQ);have YD:=Vl;obtain ⟨a1,eJ,b1,o1,e1,_⟩:=YD;rw [bX] at e1;rw [e1] at Vl;have c0:w.cell? ⟨b,o+k*1,none⟩=some (.slice a1 ess[k].length eJ):=by rw [<- e1];exact (hc k _ (B5 aN)).2 0 _ I
   have sX:=Gs ess (k+1);have hs:(ess.take (k+1)).flatten.length=(ess.take k).flatten.length+ess[k].length:=by rw [sy fQ,Zg]
   (refine Jr<|JA I<|Jn<|Jq<|Jd I fun ar=>Jk<|Jq<|J0<|Jr<|ab (fZ cP ar) I<|ab (ag (.of I) (At.base c0 I)) I<|Ja I<|Jn<|Jg<|Jv I<|Jv I ?_)
   with_reducible apply il
   case hx=>exact Is.of I
   case hy=>exact Is.of I
   case ht=>exact .here
   case hsrc=>exact fun w' aA=>Vl.keeps aA.keeps
   case h1=>exact zO _
   case hz=>exact I
   case hsz=>exact I
   case hb0=>exact I
   case hb=>rw [bX];omega
   case hd=>rfl
   intro v';rw [bX];refine Ja I<|Jx<|Jj<|Jt<|Jg<|JB I (by omega)<|Jv I<|Jn ?_;apply aL (k+1,v') (show k+1<=vs.length by omega) (show vs.length-(k+1)<vs.length-k by omega)
   case hs1=>exact cu
   case ht=>
    show bj _ [row 9 1 v' (ess.take (k+1)).flatten.length (fX (ess.take (k+1)).flatten).flatten] _;rw [hs,sy fQ,Nx,Zad];exact .h1 .nil
  ·obtain rfl:k=vs.length:=by omega
   have xl:vs.length=ess.length:=hl;rw [xl,ZL];refine Jr<|JA I<|Jn<|Jq<|Jc I fun ar=>Jp<|Jl<|Jo<|Jt<|Jr<|Jv I<|Ja I<|Jn<|Je ?_
   with_reducible first|apply aR|apply aS
   case he=>exact dH I I
   case hR=>
    intro w' aA;exact aD v trivial (by exact .h1 .nil) aA I
theorem Rd.one {v:Value} {sz:Nat} {xs:List (List Value)} (h:Rd w v sz xs):v.oneCell'=true:=by
 obtain ⟨a,cap,b,o,rfl,_⟩:=h;rfl
def xF {α:Type} (bf:List ByteArray) (nm:α->ByteArray) (ck:α->Int) (l:List α) (k:Nat):Int:=(l[k]?.map fun x=>aW [bQ (!fA (nm x)) 8,bQ (fv (bf++(l.take k).map nm) (nm x)) 9,ck x]).getD 0
def eY {α:Type} (nY:Int) (bf:List ByteArray) (nm:α->ByteArray) (ck:α->Int) (l:List α):Int:=if nY<(l.length:Int) then 5 else jJ (xF bf nm ck l) l.length
theorem RR.one {s d t p:Value} (h:RR w r s d t p):s.oneCell'=true/\d.oneCell'=true/\t.oneCell'=true/\p.oneCell'=true:=⟨Rd.one h.sr,Rd.one h.de,Rd.one h.ti,Rd.one h.po⟩
theorem nu {α:Type} {nm:α->ByteArray} {ck:α->Int} {l:List α} (h:k<l.length):xF bf nm ck l k=aW [bQ (!fA (nm l[k])) 8,bQ (fv (bf++(l.take k).map nm) (nm l[k])) 9,ck l[k]]:=by
 unfold xF;rw [Zc h];rfl
def fj (r:Ro) (m:Int):Int:=bQ (decide (m<0)||decide (r.ma<=m)) 10
theorem Gf {s d t p:Value} (m:Int) {w w1:World} (h:RR w1 r s d t p):aj T_ 136 [RA r s d t p,.q m] w (.q (fj r m)):=by
 obtain ⟨h1,h2,h3,h4⟩:=h.one;unfold RA;refine ah func136 I I ?_
 (refine Jr<|Jy I I fun _ _=>Ja I<|Ji<|Jv I<|JA I<|Jv I<|iT I I I I<|aF I I (fun hg bT=>(az (.of I) ae)) I<|aF I I (fun hg bT=>(ag (.cD hg I) (At.lit .here I))) I<|aF I I (fun hg bT=>(Ab (.cD hg I) (.cD hg I))) I<|ab (bC (.of I) I) I<|ai ba I (fun w' aA=>(dO _ 10 w'))<|Ja I<|Jn<|Je<|JT ?_)
 rfl
theorem Kz (x:Sr) (w:World):aj T_ 139 [.agg x.cells.toArray] w (.string x.nm):=by
 unfold Sr.cells;refine ah func139 I I ?_
 (refine Jr<|Jy I I fun _ _=>Ja I<|Ji<|bP I I ae<|JL I .here I<|Ja I<|Jn<|Je<|JT ?_)
 rfl
theorem ED (x:De) (w:World):aj T_ 124 [.agg x.cells.toArray] w (.string x.nm):=by
 unfold De.cells;refine ah func124 I I ?_
 (refine Jr<|Jy I I fun _ _=>Ja I<|Ji<|bP I I ae<|JL I .here I<|Ja I<|Jn<|Je<|JT ?_)
 rfl
theorem Ky (x:Ti) (w:World):aj T_ 119 [.agg x.cells.toArray] w (.string x.nm):=by
 unfold Ti.cells;refine ah func119 I I ?_
 (refine Jr<|Jy I I fun _ _=>Ja I<|Ji<|bP I I ae<|JL I .here I<|Ja I<|Jn<|Je<|JT ?_)
 rfl
set_option maxHeartbeats 1000000 in
theorem Dk {l:List Sr} (nY:Int) {ck:Sr->Int} {f1 f2:FuncId} {first2 cap:List Value} [bO T_ f1] [bO T_ f2] {w:World} (h:Rd w lv 2 (w9 l)) (hb:Rd w bv 1 (fX bf)) (hn:bf.length+l.length<=1000)
  (wm:∀ x∈l,∀ w',aK [] w w'->aj T_ f1 [.agg x.cells.toArray] w' (.string x.nm)) (wj:∀ x∈l,∀ w',aK [] w w'->aj T_ f2 (first2++[.agg x.cells.toArray]++cap) w' (.q (ck x))) :
  aj T_ 138 [lv,.q nY,bv,.func (.func f1) #[] #[],.func (.func f2) first2.toArray cap.toArray] w (.q (eY nY bf Sr.nm ck l)):=by
 obtain ⟨a,cp,b,o,rfl,dp,bY,ha,hc⟩:=h;rw [cR] at *;unfold maxLen at bY;unfold eY;refine ah func138 I I ?_
 (refine Jr<|Ja I<|Jn<|Jq<|Jr<|Jv I<|JI I<|Jv I<|JE I<|Jn<|gB I (fun ar=>?_) fun ar=>?_;refine Jr<|Ja I<|Jn<|Ju<|JT ?_;rotate_left;refine Jk<|Jr<|Jv I ?_;rotate_right)
 ·rw [if_pos (by omega)]
 rw [if_neg (by omega)];refine JN bz I (fun w1 aG=>wI (hb.keeps aG.keeps) (by omega)) ?_;intro v0 _;dsimp only [id_eq,Zb,Za];refine Ja I<|Jn<|Jq<|Jr<|Jv I<|JI I<|Jv I<|Jn<|J0 ?_;refine a7 (ι:=Nat×Value) (fun x=>x.1<=l.length/\∀ i,i<x.1->xF bf Sr.nm ck l i=0) (fun x=>[(24,.q x.1),(23,.q l.length),(22,.slice a l.length cp),(11,x.2),(3,.func (.func f1) #[] #[]),(4,.func (.func f2) first2.toArray cap.toArray)]) (fun x=>[row 9 1 x.2 (bf++(l.take x.1).map Sr.nm).length (aJ (bf++(l.take x.1).map Sr.nm))]) (fun x=>l.length-x.1) ?_ ?_
 ·apply aI (0,v0) ⟨Zi _,fun i hi=>absurd hi (ZR _)⟩
  case hs1=>exact cu
  case ht=>
   rw [show bf++(l.take 0).map Sr.nm=bf by simp];exact .h1 .nil
 rintro ⟨k,v⟩ ⟨hk,hf⟩;dsimp only at hk hf ⊢;by_cases aN:k<l.length
 ·have cP:=ha (iK aN);have aB:=(hc k _ (fY aN)).2;have DJ:=wm _ (Zj aN);have dD:=wj _ (Zj aN);have hE:=nu (bf:=bf) (nm:=Sr.nm) (ck:=ck) aN;have htk:bf++(l.take (k+1)).map Sr.nm=(bf++(l.take k).map Sr.nm)++[(l[k]).nm]:=by
   rw [Zn aN,Zt,Zh];rfl
  have hlen:(bf++(l.take k).map Sr.nm).length=bf.length+k:=by
   rw [Zg,Zd,Zs];omega
  have E0:∀ (w':World),Rd w' v 1 (fX (bf++(l.take k).map Sr.nm))->aj T_ 179 [v,.string (l[k]).nm] w' (.bool (fv (bf++(l.take k).map Sr.nm) (l[k]).nm)):=fun w' hr=>pf _ hr
  generalize hB:bf++(l.take k).map Sr.nm=B at hE htk hlen E0 ⊢;have qH:B.length=B.length:=rfl;generalize l[k]=x at aB DJ dD hE htk E0;have bh:aJ (B++[x.nm])=aJ B++[.string x.nm]:=by rw [fw];rfl
  have K4:(B++[x.nm]).length=B.length+1:=by simp
  unfold Sr.cells at aB DJ dD
  (refine Jr<|JA I<|Jn<|Jq<|Jd I fun ar=>Jk<|Jq<|J0<|Jr<|ab (fZ cP ar) I<|ab (iA (eV.base aB I)) I<|Jz I I fun _ _=>an (.of I) (.of I) .here I I (gJ I I) (bG I) ak<|Ji<|Jv I<|ab (cK .here) I<|ai bz I (fun w' aA=>(DJ w' (Mem.keeps aA)))<|Ja I<|Jn<|Jq<|Jq ?_)
  with_reducible refine cW 12 (by kernel_rfl) ?_
  (refine ao lX I<|a8 bz I (fun w' aA=>(AA _ w'))<|ao (dX (.of I)) I<|a8 ba I (fun w' aA=>(dO _ 8 w'))<|ao lX I<|ao lX I<|a8 ba I (fun w' aA=>(E0 w' (dz aA (.there .here) qH)))<|a8 ba I (fun w' aA=>(dO _ 9 w'))<|ao lX I<|ao (cK .here) I<|a8 bz I (fun w' aA=>(dD w' (Mem.keeps aA)))<|eC (aC (.o I (.o I (.o I .nil))) I I I I) I I ?_)
  with_reducible refine dw I fun bq nf=>?_
  (refine ai bz I (fun w' aA=>(dG (Mem.dh aA .here I I) (cm.cons (cm.cons (cm.cons cm.nil)))))<|Ja I<|Ji<|Jv I<|JD I<|Jn<|gB I (fun ar=>?_) fun ar=>?_;refine Jr<|Jv I<|Ja I<|Jn<|Ju<|Jm<|Jh<|Jh<|Jm<|Jh<|JT ?_;rotate_left;refine Jk<|Jg<|Jv I<|Jv I<|bu (aC (.o I .nil) I I I I) I fun _ _=>?_;rotate_right)
  ·rw [<- hE] at ar ⊢;rw [fg hf aN ar]
  have hz:xF bf Sr.nm ck l k=0:=by rw [hE];exact Zq.1 ar
  refine bK (.of I) (.of I) cA .here ak (by rfl) (eL I) (by rfl) (by rfl) (by rfl) fa (by rfl) ?_;intro v';refine Ja I<|Jx<|Jj<|Jt<|Jg<|JB I (by omega)<|Jv I<|Jn ?_;apply aL (k+1,v') ⟨show k+1<=l.length by omega,fun i hi=>by
   by_cases e:i=k
   ·rw [e];exact hz
   ·exact hf i (by omega)⟩ (show l.length-(k+1)<l.length-k by omega)
  case hs1=>exact cu
  case ht=>
   show bj _ [row 9 1 v' (bf++(l.take (k+1)).map Sr.nm).length (aJ (bf++(l.take (k+1)).map Sr.nm))] _;rw [htk,bh,K4];exact .h1 .nil
 ·obtain rfl:k=l.length:=by omega
  refine Jr<|JA I<|Jn<|Jq<|Jc I fun ar=>Jp<|Jl<|Jo<|Jt<|Jr<|Ja I<|Jn<|Je<|JT ?_;rw [dV.2 hf]
set_option maxHeartbeats 1000000 in
theorem Dl {l:List De} (nY:Int) {ck:De->Int} {f1 f2:FuncId} {first2 cap:List Value} [bO T_ f1] [bO T_ f2] {w:World} (h:Rd w lv 3 (wz l)) (hb:Rd w bv 1 (fX bf)) (hn:bf.length+l.length<=1000)
  (wm:∀ x∈l,∀ w',aK [] w w'->aj T_ f1 [.agg x.cells.toArray] w' (.string x.nm)) (wj:∀ x∈l,∀ w',aK [] w w'->aj T_ f2 (first2++[.agg x.cells.toArray]++cap) w' (.q (ck x))) :
  aj T_ 141 [lv,.q nY,bv,.func (.func f1) #[] #[],.func (.func f2) first2.toArray cap.toArray] w (.q (eY nY bf De.nm ck l)):=by
 obtain ⟨a,cp,b,o,rfl,dp,bY,ha,hc⟩:=h;rw [cB] at *;unfold maxLen at bY;unfold eY;refine ah func141 I I ?_
 (refine Jr<|Ja I<|Jn<|Jq<|Jr<|Jv I<|JI I<|Jv I<|JE I<|Jn<|gB I (fun ar=>?_) fun ar=>?_;refine Jr<|Ja I<|Jn<|Ju<|JT ?_;rotate_left;refine Jk<|Jr<|Jv I ?_;rotate_right)
 ·rw [if_pos (by omega)]
 rw [if_neg (by omega)];refine JN bz I (fun w1 aG=>wI (hb.keeps aG.keeps) (by omega)) ?_;intro v0 _;dsimp only [id_eq,Zb,Za];refine Ja I<|Jn<|Jq<|Jr<|Jv I<|JI I<|Jv I<|Jn<|J0 ?_;refine a7 (ι:=Nat×Value) (fun x=>x.1<=l.length/\∀ i,i<x.1->xF bf De.nm ck l i=0) (fun x=>[(24,.q x.1),(23,.q l.length),(22,.slice a l.length cp),(11,x.2),(3,.func (.func f1) #[] #[]),(4,.func (.func f2) first2.toArray cap.toArray)]) (fun x=>[row 9 1 x.2 (bf++(l.take x.1).map De.nm).length (aJ (bf++(l.take x.1).map De.nm))]) (fun x=>l.length-x.1) ?_ ?_
 ·apply aI (0,v0) ⟨Zi _,fun i hi=>absurd hi (ZR _)⟩
  case hs1=>exact cu
  case ht=>
   rw [show bf++(l.take 0).map De.nm=bf by simp];exact .h1 .nil
 rintro ⟨k,v⟩ ⟨hk,hf⟩;dsimp only at hk hf ⊢;by_cases aN:k<l.length
 ·have cP:=ha (gI aN);have aB:=(hc k _ (fm aN)).2;have DJ:=wm _ (Zj aN);have dD:=wj _ (Zj aN);have hE:=nu (bf:=bf) (nm:=De.nm) (ck:=ck) aN;have htk:bf++(l.take (k+1)).map De.nm=(bf++(l.take k).map De.nm)++[(l[k]).nm]:=by
   rw [Zn aN,Zt,Zh];rfl
  have hlen:(bf++(l.take k).map De.nm).length=bf.length+k:=by
   rw [Zg,Zd,Zs];omega
  have E0:∀ (w':World),Rd w' v 1 (fX (bf++(l.take k).map De.nm))->aj T_ 179 [v,.string (l[k]).nm] w' (.bool (fv (bf++(l.take k).map De.nm) (l[k]).nm)):=fun w' hr=>pf _ hr
  generalize hB:bf++(l.take k).map De.nm=B at hE htk hlen E0 ⊢;have qH:B.length=B.length:=rfl;generalize l[k]=x at aB DJ dD hE htk E0;have bh:aJ (B++[x.nm])=aJ B++[.string x.nm]:=by rw [fw];rfl
  have K4:(B++[x.nm]).length=B.length+1:=by simp
  unfold De.cells at aB DJ dD
  (refine Jr<|JA I<|Jn<|Jq<|Jd I fun ar=>Jk<|Jq<|J0<|Jr<|ab (fZ cP ar) I<|ab (iA (eV.base aB I)) I<|Jz I I fun _ _=>an (.of I) (.of I) .here I I (fq I I I) (bG I) ak<|Ji<|Jv I<|ab (cK .here) I<|ai bz I (fun w' aA=>(DJ w' (Mem.keeps aA)))<|Ja I<|Jn<|Jq<|Jq ?_)
  with_reducible refine cW 12 (by kernel_rfl) ?_
  (refine ao lX I<|a8 bz I (fun w' aA=>(AA _ w'))<|ao (dX (.of I)) I<|a8 ba I (fun w' aA=>(dO _ 8 w'))<|ao lX I<|ao lX I<|a8 ba I (fun w' aA=>(E0 w' (dz aA (.there .here) qH)))<|a8 ba I (fun w' aA=>(dO _ 9 w'))<|ao lX I<|ao (cK .here) I<|a8 bz I (fun w' aA=>(dD w' (Mem.keeps aA)))<|eC (aC (.o I (.o I (.o I .nil))) I I I I) I I ?_)
  with_reducible refine dw I fun bq nf=>?_
  (refine ai bz I (fun w' aA=>(dG (Mem.dh aA .here I I) (cm.cons (cm.cons (cm.cons cm.nil)))))<|Ja I<|Ji<|Jv I<|JD I<|Jn<|gB I (fun ar=>?_) fun ar=>?_;refine Jr<|Jv I<|Ja I<|Jn<|Ju<|Jm<|Jh<|Jh<|Jm<|Jh<|JT ?_;rotate_left;refine Jk<|Jg<|Jv I<|Jv I<|bu (aC (.o I .nil) I I I I) I fun _ _=>?_;rotate_right)
  ·rw [<- hE] at ar ⊢;rw [fg hf aN ar]
  have hz:xF bf De.nm ck l k=0:=by rw [hE];exact Zq.1 ar
  refine bK (.of I) (.of I) cA .here ak (by rfl) (eL I) (by rfl) (by rfl) (by rfl) fa (by rfl) ?_;intro v';refine Ja I<|Jx<|Jj<|Jt<|Jg<|JB I (by omega)<|Jv I<|Jn ?_;apply aL (k+1,v') ⟨show k+1<=l.length by omega,fun i hi=>by
   by_cases e:i=k
   ·rw [e];exact hz
   ·exact hf i (by omega)⟩ (show l.length-(k+1)<l.length-k by omega)
  case hs1=>exact cu
  case ht=>
   show bj _ [row 9 1 v' (bf++(l.take (k+1)).map De.nm).length (aJ (bf++(l.take (k+1)).map De.nm))] _;rw [htk,bh,K4];exact .h1 .nil
 ·obtain rfl:k=l.length:=by omega
  refine Jr<|JA I<|Jn<|Jq<|Jc I fun ar=>Jp<|Jl<|Jo<|Jt<|Jr<|Ja I<|Jn<|Je<|JT ?_;rw [dV.2 hf]
set_option maxHeartbeats 1000000 in
theorem Dj {l:List Ti} (nY:Int) {ck:Ti->Int} {f1 f2:FuncId} {first2 cap:List Value} [bO T_ f1] [bO T_ f2] {w:World} (h:Rd w lv 3 (vk l)) (hb:Rd w bv 1 (fX bf)) (hn:bf.length+l.length<=1000)
  (wm:∀ x∈l,∀ w',aK [] w w'->aj T_ f1 [.agg x.cells.toArray] w' (.string x.nm)) (wj:∀ x∈l,∀ w',aK [] w w'->aj T_ f2 (first2++[.agg x.cells.toArray]++cap) w' (.q (ck x))) :
  aj T_ 144 [lv,.q nY,bv,.func (.func f1) #[] #[],.func (.func f2) first2.toArray cap.toArray] w (.q (eY nY bf Ti.nm ck l)):=by
 obtain ⟨a,cp,b,o,rfl,dp,bY,ha,hc⟩:=h;rw [cr] at *;unfold maxLen at bY;unfold eY;refine ah func144 I I ?_
 (refine Jr<|Ja I<|Jn<|Jq<|Jr<|Jv I<|JI I<|Jv I<|JE I<|Jn<|gB I (fun ar=>?_) fun ar=>?_;refine Jr<|Ja I<|Jn<|Ju<|JT ?_;rotate_left;refine Jk<|Jr<|Jv I ?_;rotate_right)
 ·rw [if_pos (by omega)]
 rw [if_neg (by omega)];refine JN bz I (fun w1 aG=>wI (hb.keeps aG.keeps) (by omega)) ?_;intro v0 _;dsimp only [id_eq,Zb,Za];refine Ja I<|Jn<|Jq<|Jr<|Jv I<|JI I<|Jv I<|Jn<|J0 ?_;refine a7 (ι:=Nat×Value) (fun x=>x.1<=l.length/\∀ i,i<x.1->xF bf Ti.nm ck l i=0) (fun x=>[(24,.q x.1),(23,.q l.length),(22,.slice a l.length cp),(11,x.2),(3,.func (.func f1) #[] #[]),(4,.func (.func f2) first2.toArray cap.toArray)]) (fun x=>[row 9 1 x.2 (bf++(l.take x.1).map Ti.nm).length (aJ (bf++(l.take x.1).map Ti.nm))]) (fun x=>l.length-x.1) ?_ ?_
 ·apply aI (0,v0) ⟨Zi _,fun i hi=>absurd hi (ZR _)⟩
  case hs1=>exact cu
  case ht=>
   rw [show bf++(l.take 0).map Ti.nm=bf by simp];exact .h1 .nil
 rintro ⟨k,v⟩ ⟨hk,hf⟩;dsimp only at hk hf ⊢;by_cases aN:k<l.length
 ·have cP:=ha (fF aN);have aB:=(hc k _ (eO aN)).2;have DJ:=wm _ (Zj aN);have dD:=wj _ (Zj aN);have hE:=nu (bf:=bf) (nm:=Ti.nm) (ck:=ck) aN;have htk:bf++(l.take (k+1)).map Ti.nm=(bf++(l.take k).map Ti.nm)++[(l[k]).nm]:=by
   rw [Zn aN,Zt,Zh];rfl
  have hlen:(bf++(l.take k).map Ti.nm).length=bf.length+k:=by
   rw [Zg,Zd,Zs];omega
  have E0:∀ (w':World),Rd w' v 1 (fX (bf++(l.take k).map Ti.nm))->aj T_ 179 [v,.string (l[k]).nm] w' (.bool (fv (bf++(l.take k).map Ti.nm) (l[k]).nm)):=fun w' hr=>pf _ hr
  generalize hB:bf++(l.take k).map Ti.nm=B at hE htk hlen E0 ⊢;have qH:B.length=B.length:=rfl;generalize l[k]=x at aB DJ dD hE htk E0;have bh:aJ (B++[x.nm])=aJ B++[.string x.nm]:=by rw [fw];rfl
  have K4:(B++[x.nm]).length=B.length+1:=by simp
  unfold Ti.cells at aB DJ dD
  (refine Jr<|JA I<|Jn<|Jq<|Jd I fun ar=>Jk<|Jq<|J0<|Jr<|ab (fZ cP ar) I<|ab (iA (eV.base aB I)) I<|Jz I I fun _ _=>an (.of I) (.of I) .here I I (fq I I I) (bG I) ak<|Ji<|Jv I<|ab (cK .here) I<|ai bz I (fun w' aA=>(DJ w' (Mem.keeps aA)))<|Ja I<|Jn<|Jq<|Jq ?_)
  with_reducible refine cW 12 (by kernel_rfl) ?_
  (refine ao lX I<|a8 bz I (fun w' aA=>(AA _ w'))<|ao (dX (.of I)) I<|a8 ba I (fun w' aA=>(dO _ 8 w'))<|ao lX I<|ao lX I<|a8 ba I (fun w' aA=>(E0 w' (dz aA (.there .here) qH)))<|a8 ba I (fun w' aA=>(dO _ 9 w'))<|ao lX I<|ao (cK .here) I<|a8 bz I (fun w' aA=>(dD w' (Mem.keeps aA)))<|eC (aC (.o I (.o I (.o I .nil))) I I I I) I I ?_)
  with_reducible refine dw I fun bq nf=>?_
  (refine ai bz I (fun w' aA=>(dG (Mem.dh aA .here I I) (cm.cons (cm.cons (cm.cons cm.nil)))))<|Ja I<|Ji<|Jv I<|JD I<|Jn<|gB I (fun ar=>?_) fun ar=>?_;refine Jr<|Jv I<|Ja I<|Jn<|Ju<|Jm<|Jh<|Jh<|Jm<|Jh<|JT ?_;rotate_left;refine Jk<|Jg<|Jv I<|Jv I<|bu (aC (.o I .nil) I I I I) I fun _ _=>?_;rotate_right)
  ·rw [<- hE] at ar ⊢;rw [fg hf aN ar]
  have hz:xF bf Ti.nm ck l k=0:=by rw [hE];exact Zq.1 ar
  refine bK (.of I) (.of I) cA .here ak (by rfl) (eL I) (by rfl) (by rfl) (by rfl) fa (by rfl) ?_;intro v';refine Ja I<|Jx<|Jj<|Jt<|Jg<|JB I (by omega)<|Jv I<|Jn ?_;apply aL (k+1,v') ⟨show k+1<=l.length by omega,fun i hi=>by
   by_cases e:i=k
   ·rw [e];exact hz
   ·exact hf i (by omega)⟩ (show l.length-(k+1)<l.length-k by omega)
  case hs1=>exact cu
  case ht=>
   show bj _ [row 9 1 v' (bf++(l.take (k+1)).map Ti.nm).length (aJ (bf++(l.take (k+1)).map Ti.nm))] _;rw [htk,bh,K4];exact .h1 .nil
 ·obtain rfl:k=l.length:=by omega
  refine Jr<|JA I<|Jn<|Jq<|Jc I fun ar=>Jp<|Jl<|Jo<|Jt<|Jr<|Ja I<|Jn<|Je<|JT ?_;rw [dV.2 hf]
end Go.Proofs.A1
namespace Go.SL
open Go
section
variable {P:Program} {c:Cx} {sl:aH} {hs:List bd} {dst:Option Tmp} {ty:TypeId} {pos:String} {af:Array Edge} {g:Option (Nat×Bool)}
variable {κ:Type} [DecidableEq κ] {kv:κ->Value} {kind:TypeDesc}
theorem El {t kt et:TypeId} {x y:Operand} {b:Nat} {k:κ} {l:List (κ×Value)} {z:Value} [hu:ij P t (.map kt et)] [HE:ij P kt kind] [hz:lU P et z] (hk:KeyLaw kind kv) (hx:Is sl x (.map (some b))) (hy:Is sl y (kv k)) (hl:Looks c hs b kv l) :
  cY P c sl hs ⟨dst,.lookup t x y true,ty,pos,af,g⟩ (.tuple #[(eA k l).getD z,.bool (eA k l).isSome]):=
 ⟨by
   simp,fun a w ha hm=>by
  obtain ⟨es,ck,h1,h2⟩:=hl w hm;have hg:(getObj b).run P w=.ok (.map es ck) w:=by simp [getObj,Sem.run,h1]
  have xq:=hk.flat P kt es.isEmpty w k HE.eq;rcases findNow_spec hk k es.toList l 0 h2.eq with ⟨a1,a2⟩ | ⟨j,v,a1,a2,_⟩
  ·have:(Instr.findKey kt (kv k) es.toList).run P w=.ok none w:=by
    simp [Instr.findKey,aV HE.eq,a2]
   simp [execOp,hx a ha,hy a ha,Instr.lookup,aV hu.eq,hg,xq,this,a1,iC (t:=et) (v:=z)]
  ·have:(Instr.findKey kt (kv k) es.toList).run P w=.ok (some (0+j,v)) w:=by
    simp [Instr.findKey,aV HE.eq,a2]
   simp [execOp,hx a ha,hy a ha,Instr.lookup,aV hu.eq,hg,xq,this,a1]⟩
end
end Go.SL
namespace Go.Proofs.A1
open Go Go.SL
open Tryz
open Tryz renaming prog->T_
def ke (a b c:Int):Value:=.agg #[.q a,.q b,.q c]
abbrev PM:=List (ByteArray×Value)
def xh (l:List Sr):Nat->PM
 | 0=>[]
 | k + 1 => match l[k]? with
  | some x=>mX x.nm (ke (-1) (-1) x.mx) (xh l k)
  | none=>xh l k
def DG (m:PM) (l:List De):Nat->PM
 | 0=>m
 | k + 1 => match l[k]? with
  | some x=>mX x.nm (ke (k:Nat) x.mx (-1)) (DG m l k)
  | none=>DG m l k
def MO (m:PM) (n:Nat) (l:List Ti):Nat->PM
 | 0=>m
 | k + 1 => match l[k]? with
  | some x=>mX x.nm (ke ((n:Int)+(k:Nat)) x.fr x.to) (MO m n l k)
  | none=>MO m n l k
def nw (r:Ro):PM:=MO (DG (xh r.sr r.sr.length) r.de r.de.length) r.de.length r.ti r.ti.length
variable {K:Nat} {d:Value} {k:Nat} {o:ByteArray} {p:Value} {po:List Po} {r:Ro} {s t:Value} {v:Int} {w w':World}
theorem Kf {l:List Sr} (h:k<l.length):xh l (k+1)=mX (l[k]).nm (ke (-1) (-1) (l[k]).mx) (xh l k):=by rw [xh,Zc h]
theorem Kg {m:PM} {l:List De} (h:k<l.length):DG m l (k+1)=mX (l[k]).nm (ke (k:Nat) (l[k]).mx (-1)) (DG m l k):=by rw [DG,Zc h]
theorem Ke {m:PM} {n:Nat} {l:List Ti} (h:k<l.length):MO m n l (k+1)=mX (l[k]).nm (ke ((n:Int)+(k:Nat)) (l[k]).fr (l[k]).to) (MO m n l k):=by rw [MO,Zc h]
set_option maxHeartbeats 1000000 in
theorem Am (h:RR w r s d t p) (cO:r.de.length+r.ti.length<=1000000):bb T_ 186 [RA r s d t p] w [] (fun _:Nat=>True) (fun b=>.map (some b)) (fun b=>[mp (fun s:ByteArray=>Value.string s) b (nw r)]):=by
 obtain ⟨h1,h2,h3,h4⟩:=h.one;have hs:=h.sr;have hd:=h.de;have CR:=h.ti;obtain ⟨a1,eJ,QS,P7,rfl,qp,jc,mG,kc⟩:=hs;obtain ⟨a2,dB,QR,P6,rfl,ki,fB,jT,jS⟩:=hd;obtain ⟨a3,ep,Mk,Ko,rfl,nR,gP,uh,qI⟩:=CR;rw [cR] at *;rw [cB] at *;rw [cr] at *;unfold maxLen at jc fB gP;unfold RA;refine aT func186 I I ?_;refine Jr<|Jy I I fun _ _=>Ja I<|Ji ?_;rename_i b1 tN;refine BS I ?_;intro bm Qz
 (refine Ja I<|Jn<|Jq<|Jr<|bP I I ae<|JL I (.there .here) I<|JI I<|Jv I<|Jn<|J0 ?_)
 refine a7 (fun k:Nat=>k<=r.sr.length) (fun k=>[(14,.q k),(13,.q r.sr.length),(12,.slice a1 r.sr.length eJ),(3,.map (some bm)),(1,.p b1)]) (fun k=>[mp (fun s:ByteArray=>Value.string s) bm (xh r.sr k),JP b1 r (.slice a1 r.sr.length eJ) (.slice a2 r.de.length dB) (.slice a3 r.ti.length ep) p]) (fun k=>r.sr.length-k) ?_ ?_
 ·apply aI 0 (show 0<=r.sr.length from Zi _)
  case hs1=>exact cu
  case ht=>
   exact .h2 .nil
 intro k hk;by_cases aN:k<r.sr.length
 ·have cP:=mG (iK aN);have aB:=(kc k _ (fY aN)).2;have lL:xh r.sr (k+1)=_:=Kf aN;unfold Sr.cells at aB;unfold ke at lL;generalize r.sr[k]=x at aB lL
  (refine Jr<|JA I<|Jn<|Jq<|Jd I fun ar=>Jk<|Jq<|J0<|Jr<|ab (fZ cP ar) I<|ab (iA (eV.base aB I)) I<|Jz I I fun _ _=>an (.of I) (.of I) .here I I (gJ I I) (bG I) ak<|Jn<|Jg<|Jv I<|bP I I ae<|JL I .here I<|bP I I ae<|JL I .here I<|ab (aU (.o I (.o I (.o I .nil))) ak) I ?_)
  refine ni KM (.of I) (.of I) (.of I) (.there .here) ?_;refine Jx<|Jj<|Jt<|Jg<|JB I (by omega)<|Jv I<|Jn ?_;apply aL (k+1) (show k+1<=r.sr.length by omega) (show r.sr.length-(k+1)<r.sr.length-k by omega)
  case hs1=>exact cu
  case ht=>
   show bj _ [mp (fun s:ByteArray=>Value.string s) bm (xh r.sr (k+1)),JP b1 r (.slice a1 r.sr.length eJ) (.slice a2 r.de.length dB) (.slice a3 r.ti.length ep) p] _
   rw [lL];exact .h1 (.cons (.there .here) .nil)
 obtain rfl:k=r.sr.length:=by omega
 (refine Jr<|JA I<|Jn<|Jq<|Jc I fun ar=>Jp<|Jl<|Jo<|Jt<|Jq<|Jr<|bP I I ae<|JL I (.there .here) I<|JI I<|Jv I<|Jn<|J0 ?_)
 refine a7 (fun k:Nat=>k<=r.de.length) (fun k=>[(28,.q k),(27,.q r.de.length),(26,.slice a2 r.de.length dB),(3,.map (some bm)),(1,.p b1)]) (fun k=>[mp (fun s:ByteArray=>Value.string s) bm (DG (xh r.sr r.sr.length) r.de k),JP b1 r (.slice a1 r.sr.length eJ) (.slice a2 r.de.length dB) (.slice a3 r.ti.length ep) p]) (fun k=>r.de.length-k) ?_ ?_
 ·apply aI 0 (show 0<=r.de.length from Zi _)
  case hs1=>exact cu
  case ht=>
   exact .h2 .nil
 intro k hk;by_cases aN:k<r.de.length
 ·have cP:=jT (gI aN);have aB:=(jS k _ (fm aN)).2;have lL:DG (xh r.sr r.sr.length) r.de (k+1)=_:=Kg aN;unfold De.cells at aB;unfold ke at lL;generalize r.de[k]=x at aB lL
  (refine Jr<|JA I<|Jn<|Jq<|Jd I fun ar=>Jk<|Jq<|J0<|Jr<|Jv I<|ab (fZ cP ar) I<|ab (iA (eV.base aB I)) I<|Jz I I fun _ _=>Ja I<|an (.of I) (.of I) .here I I (fq I I I) (bG I) ak<|Jn<|Jg<|Jv I<|bP I I ae<|JL I .here I<|Jv I<|bP I I ae<|JL I .here I<|ab (aU (.o I (.o I (.o I .nil))) ak) I ?_)
  refine ni KM (.of I) (.of I) (.of I) (.there .here) ?_;refine Jx<|Jj<|Jt<|Jg<|JB I (by omega)<|Jv I<|Jn ?_;apply aL (k+1) (show k+1<=r.de.length by omega) (show r.de.length-(k+1)<r.de.length-k by omega)
  case hs1=>exact cu
  case ht=>
   show bj _ [mp (fun s:ByteArray=>Value.string s) bm (DG (xh r.sr r.sr.length) r.de (k+1)),JP b1 r (.slice a1 r.sr.length eJ) (.slice a2 r.de.length dB) (.slice a3 r.ti.length ep) p] _
   rw [lL];exact .h1 (.cons (.there .here) .nil)
 obtain rfl:k=r.de.length:=by omega
 (refine Jr<|JA I<|Jn<|Jq<|Jc I fun ar=>Jp<|Jl<|Jo<|Jt<|Jq<|Jr<|bP I I ae<|JL I (.there .here) I<|JI I<|Jv I<|Jn<|J0 ?_)
 refine a7 (fun k:Nat=>k<=r.ti.length) (fun k=>[(44,.q k),(43,.q r.ti.length),(42,.slice a3 r.ti.length ep),(3,.map (some bm)),(1,.p b1)]) (fun k=>[mp (fun s:ByteArray=>Value.string s) bm (MO (DG (xh r.sr r.sr.length) r.de r.de.length) r.de.length r.ti k),JP b1 r (.slice a1 r.sr.length eJ) (.slice a2 r.de.length dB) (.slice a3 r.ti.length ep) p]) (fun k=>r.ti.length-k) ?_ ?_
 ·apply aI 0 (show 0<=r.ti.length from Zi _)
  case hs1=>exact cu
  case ht=>
   exact .h2 .nil
 intro k hk;by_cases aN:k<r.ti.length
 ·have cP:=uh (fF aN);have aB:=(qI k _ (eO aN)).2;have lL:MO (DG (xh r.sr r.sr.length) r.de r.de.length) r.de.length r.ti (k+1)=_:=Ke aN;unfold Ti.cells at aB;unfold ke at lL;generalize r.ti[k]=x at aB lL
  (refine Jr<|JA I<|Jn<|Jq<|Jd I fun ar=>Jk<|Jq<|J0<|Jr<|Jv I<|ab (fZ cP ar) I<|ab (iA (eV.base aB I)) I<|Jz I I fun _ _=>Ja I<|an (.of I) (.of I) .here I I (fq I I I) (bG I) ak<|Jn<|Jg<|Jv I<|bP I I ae<|JL I .here I<|bP I I ae<|JL I bF I<|JI I<|Jv I<|JB I (by omega)<|bP I I ae<|JL I .here I<|bP I I ae<|JL I .here I<|ab (aU (.o I (.o I (.o I .nil))) ak) I ?_)
  refine ni KM (.of I) (.of I) (.of I) (.there .here) ?_;refine Jx<|Jj<|Jt<|Jg<|JB I (by omega)<|Jv I<|Jn ?_;apply aL (k+1) (show k+1<=r.ti.length by omega) (show r.ti.length-(k+1)<r.ti.length-k by omega)
  case hs1=>exact cu
  case ht=>
   show bj _ [mp (fun s:ByteArray=>Value.string s) bm (MO (DG (xh r.sr r.sr.length) r.de r.de.length) r.de.length r.ti (k+1)),JP b1 r (.slice a1 r.sr.length eJ) (.slice a2 r.de.length dB) (.slice a3 r.ti.length ep) p] _
   rw [lL];exact .h1 (.cons (.there .here) .nil)
 obtain rfl:k=r.ti.length:=by omega
 refine Jr<|JA I<|Jn<|Jq<|Jc I fun ar=>Jp<|Jl<|Jo<|Jt<|Jr<|Jv I<|Ja I<|Jn<|Je ?_
 with_reducible first|apply aR|apply aS
 case he=>exact dH I I
 case hR=>
  intro w' aA;exact aD bm trivial (show bj _ [mp (fun s:ByteArray=>Value.string s) bm (nw r)] _ from by unfold nw;exact .h1 .nil) aA I
theorem cE {a:Addr} {v:Value} (h:w.cell? a=some v) (hs:a.spot=none) (hk:aK [] w w'):w'.cell? a=some v:=by
 have hb:=World.block_lt_of_cell? w a h;obtain ⟨b,o,s⟩:=a;subst hs;have:=hk.block b hb (by simp);rw [<- h];simp [World.cell?,this]
theorem du {P:Program} {c:Cx} {sl:aH} {hs:List bd} {dst:Option Tmp} {ty:TypeId} {pos:String} {af:Array Edge} {g:Option (Nat×Bool)} {x y z:Operand} {q:Bool} {v u V:Value} (hx:Is sl x (.bool q)) (hy:Is sl y v) (hz:Is sl z u) (e:(bif q then v else u)=V):cY P c sl hs ⟨dst,.pick x y z,ty,pos,af,g⟩ V:=e ▸ uC hx hy hz
theorem pS {α:Type} (p:α->Bool) (l:List α):(fU p l = -1/\l.find? p=none)\/∃ i,∃ h:i<l.length,fU p l=(i:Nat)/\l.find? p=some l[i]:=by
 cases hf:l.find? p with
 | none =>
  rw [ZaF] at hf;refine .inl ⟨fG fun i hi=>?_,I⟩;simpa [hi] using hf l[i] (Zj hi)
 | some x =>
  obtain ⟨hp,i,hi,rfl,hb⟩:=ZaA.1 hf;refine .inr ⟨i,hi,gG (fun j hj=>?_) hi hp,I⟩;have:=hb j hj;simpa [show j<l.length by omega] using this
theorem Si (x:Po) {b1 b2:Nat} {v:Int} {o:ByteArray} {w:World} (f1:w.cell? ⟨b1,0,none⟩=some (.q v)) (f2:w.cell? ⟨b2,0,none⟩=some (.string o)) :
  aj T_ 298 [.agg x.cells.toArray,.p b1,.p b2] w (.bool (Bh v o x)):=by
 unfold Po.cells;refine ah func298 I I ?_
 (refine Jr<|Jy I I fun _ _=>Ja I<|Ji<|ab (cK .here) I<|ab (ag (.of I) (At.base f1 I)) I<|ab (ag (.of I) (At.base f2 I)) I<|bP I I ae<|JL I .here I<|ab (aU (.o I (.o I (.o I .nil))) ak) I<|ab (uE (.of I) (.of I) (ka (fy (fy me))) I) I<|Ja I<|Jn<|Je<|JT ?_)
 simp [Bh]
theorem Re (x:Po) {b1 b2:Nat} {v:Int} {o:ByteArray} {w:World} (f1:w.cell? ⟨b1,0,none⟩=some (.q v)) (f2:w.cell? ⟨b2,0,none⟩=some (.string o)) :
  aj T_ 302 [.agg x.cells.toArray,.p b1,.p b2] w (.bool (AL v o x)):=by
 unfold Po.cells;refine ah func302 I I ?_
 (refine Jr<|Jy I I fun _ _=>Ja I<|Ji<|ab (cK .here) I<|ab (ag (.of I) (At.base f1 I)) I<|bP I I ae<|JL I .here I<|ab (ag (.of I) (At.base f2 I)) I<|ab (aU (.o I (.o I (.o I .nil))) ak) I<|ab (uE (.of I) (.of I) (ka (fy (fy me))) I) I<|Ja I<|Jn<|Je<|JT ?_)
 simp [AL]
theorem AK (v:Int) (o:ByteArray) {w:World} (h:RR w r s d t p):aj T_ 223 [RA r s d t p,.q v,.string o] w (.tuple #[.string ((ed r.po v o).getD ⟨#[]⟩),.bool (ed r.po v o).isSome]):=by
 have h1:=Rd.one h.sr;have h2:=Rd.one h.de;have h3:=Rd.one h.ti;have hp:=h.po;obtain ⟨a,cp,b,o',rfl,dp,bY,ha,hc⟩:=hp;rw [c5] at *;unfold maxLen at bY;unfold RA;refine ah func223 I I ?_
 (refine Jr<|Jy I I fun _ _=>Jy I I fun _ _=>Jy I I fun _ _=>Ja I<|Ja I<|Ji<|bP I I ae<|JL I bF I<|ab (bD .nil (.o I (.o I .nil))) I ?_)
 rename_i b3 uR b4 uQ b5 MY
 with_reducible apply ai
 case hr=>exact ba
 case hd=>rfl
 case hc=>
  intro w' aA;have f1:w'.cell? ⟨b4,0,none⟩=some (.q v):=At.lit (by exact Take.there .here) I w' aA;have f2:w'.cell? ⟨b5,0,none⟩=some (.string o):=At.lit (by exact .here) I w' aA
  exact AM (f:=298) (p:=Bh v o) (first:=[]) (cap:=[.p b4,.p b5]) (h.po.keeps aA.keeps)
   (fun x hx w2 eM=>Si x (cE f1 I eM) (cE f2 I eM))
 have n9:ed r.po v o=(r.po.find? (Bh v o)).map Po.ip:=rfl;rcases pS (Bh v o) r.po with ⟨e1,e2⟩ | ⟨i,hi,e1,e2⟩
 ·rw [e1];rw [e2] at n9;rw [n9];refine Ja I<|Jn<|Jq<|Jr<|Jv I<|JA I<|Jn<|Jd I fun ar=>Jr<|Ja I<|Ja I<|Jn<|Ju<|pC I (gq I I I) ?_
  rfl
 ·rw [e1];rw [e2] at n9;rw [n9];have cP:=ha (ku hi);have aB:=(hc i _ (iE hi)).2;unfold Po.cells at aB;have jS:=aB 2 _ I
  (refine Ja I<|Jn<|Jq<|Jr<|Jv I<|JA I<|Jn<|Jc I fun ar=>Jk<|Jr<|bP I I ae<|JL I bF I<|Jv I<|ab (au (.of I) (.of I) cP (by omega) (by omega) bn) I<|bP I I ae<|ab (ag (.of I) (At.base jS I)) I<|Ja I<|Ja I<|Jn<|Je<|pC I (gq I I I) ?_)
  rfl
theorem Iu (v:Int) (o:ByteArray) {w:World} (h:RR w r s d t p):aj T_ 239 [RA r s d t p,.q v,.string o] w (.bool (nh r.po v o)):=by
 obtain ⟨h1,h2,h3,h4⟩:=h.one;unfold RA;refine ah func239 I I ?_
 (refine Jr<|Jy I I fun _ _=>Jy I I fun _ _=>Jy I I fun _ _=>Ja I<|Ji<|bP I I ae<|JL I bF I<|ab (bD .nil (.o I (.o I .nil))) I ?_)
 rename_i b3 uR b4 uQ b5 MY
 with_reducible apply ai
 case hr=>exact ba
 case hd=>rfl
 case hc=>
  intro w' aA;have f1:w'.cell? ⟨b4,0,none⟩=some (.q v):=At.lit (by exact Take.there .here) I w' aA;have f2:w'.cell? ⟨b5,0,none⟩=some (.string o):=At.lit (by exact .here) I w' aA
  exact O8 (f:=302) (p:=AL v o) (first:=[]) (cap:=[.p b4,.p b5]) (h.po.keeps aA.keeps)
   (fun x hx w2 eM=>Re x (cE f1 I eM) (cE f2 I eM))
 refine Ja I<|Jn<|Je<|JT ?_
 rfl
theorem vG (v:Int) (o:ByteArray) {w w1:World} (h:RR w1 r s d t p) :
  bb T_ 116 [RA r s d t p,.q v,.string o] w [] (fun _:Nat×Nat×Nat=>True) (fun x=>.func (.func 222) #[] #[.pointer (some ⟨x.1,0,none⟩),.pointer (some ⟨x.2.1,0,none⟩),.pointer (some ⟨x.2.2,0,none⟩)])
   (fun x=>[bo x.1 (.cells #[.string o] 9 (0,0)),JP x.2.1 r s d t p,bo x.2.2 (.cells #[.q v] 3 (0,0))]):=by
 obtain ⟨h1,h2,h3,h4⟩:=h.one;unfold RA;refine aT func116 I I ?_
 (refine Jr<|Jy I I fun _ _=>Jy I I fun _ _=>Jy I I fun _ _=>Ja I<|Ji<|ab (bD .nil (.o I (.o I (.o I .nil)))) I<|Ja I<|Jn<|Je ?_)
 rename_i b3 uR b4 uQ b5 MY
 with_reducible first|apply aR|apply aS
 case he=>exact dH I I
 case hR=>
  intro w' aA;exact aD (b5,b3,b4) trivial (by exact .h1 (.cons (.there .here) (.h1 .nil))) aA I
structure RO (md:List Nat) (r:Ro) (s d t p:Value):Prop where
 sr:Out md s (w9 r.sr)
 de:Out md d (wz r.de)
 ti:Out md t (vk r.ti)
 po:Out md p (ud r.po)
theorem RO.nil {r:Ro} {s d t p:Value}:RO [] r s d t p:=⟨Out.nil _ _,Out.nil _ _,Out.nil _ _,Out.nil _ _⟩
theorem RR.jE {md:List Nat} (h:RR w r s d t p) (hn:RO md r s d t p) (hk:aK md w w'):RR w' r s d t p:=⟨h.sr.jE hn.sr hk,h.de.jE hn.de hk,h.ti.jE hn.ti hk,h.po.jE hn.po hk⟩
theorem RR.out {md fp:List Nat} {w0:World} (h:RR w0 r s d t p) (hn:RO md r s d t p) (hF:∀ b∈fp,b∈md\/w0.heap.size<=b):RO fp r s d t p:=⟨h.sr.out (by omega) hn.sr hF,h.de.out (by omega) hn.de hF,h.ti.out (by omega) hn.ti hF,h.po.out (by omega) hn.po hF⟩
def xG (po:List Po) (v:Int) (k:Nat) (o:ByteArray):List (List Value):=(eX po v k o).map fun x=>[.string x]
theorem rM (po:List Po) (v:Int) (k:Nat) (o:ByteArray):(xG po v k o).length=(eX po v k o).length:=by simp [xG]
theorem AJ {o a:ByteArray} (h:lQ po v k o=some a):lQ po v (k+1) o=ed po v a:=by
 rw [jF,h];show (ed po v a).bind (lQ po v 0)=_;cases ed po v a <;> rfl
theorem GD {o a:ByteArray} (h:lQ po v k o=some a) (hk:k<=K) (hn:ed po v a=none\/k=K):(eX po v K o).length=k:=by
 have hl:=kd po v K o;have h1:k<=(eX po v K o).length:=by
  cases k with
  | zero=>exact Zi _
  | succ k =>
   have:=nL (po:=po) (v:=v) (o:=o) (show k<K by omega);rw [h] at this;exact (Zm.1 this).1
 rcases hn with hn | rfl
 ·by_cases e:k=K
  ·omega
  ·have:=nL (po:=po) (v:=v) (o:=o) (show k<K by omega);rw [AJ h,hn,List.getElem?_eq_none_iff] at this;omega
 ·omega
theorem Ob {o a i:ByteArray} (h:lQ po v k o=some a) (hk:k<K) (hi:ed po v a=some i):(xG po v K o)[k]? = some [.string i]:=by
 unfold xG;rw [ZA,nL hk,AJ h,hi];rfl
set_option maxHeartbeats 1000000 in
theorem Ez {b1 b2 b3:Nat} (v:Int) (o:ByteArray) {w0 w:World} {md:List Nat} (h:RR w0 r s d t p) (hn:RO md r s d t p) (cO:r.ti.length<=1000000) :
  Iter T_ 222 [] [.p b1,.p b2,.p b3] [bo b1 (.cells #[.string o] 9 (0,0)),JP b2 r s d t p,bo b3 (.cells #[.q v] 3 (0,0))] (xG r.po v (r.ti.length+1) o) w0 md w:=by
 intro l fp J E hB hF jv hs hy;have hR:=h.jE hn hB;have hO:=h.out hn hF;rw [rM];have h1:=Rd.one hR.sr;have h2:=Rd.one hR.de;have h4:=Rd.one hR.po;have hti:=hR.ti;obtain ⟨a,cp,b,o',rfl,dp,bY,ha,hc⟩:=hti;rw [cr] at *;unfold maxLen at bY;refine dU func222 I I jv hs ?_
 (refine Jr<|JL I (.there .here) I<|Ja I<|Ji<|bP I I ae<|JL I bF I<|JI I<|JB I (by omega)<|Jv I<|Jn<|J0 ?_)
 refine a7 (ι:=Nat×ByteArray) (fun x=>x.1<=r.ti.length+1/\lQ r.po v x.1 o=some x.2) (fun x=>[(13,.q (x.1:Nat)),(12,.q ((r.ti.length:Int)+1)),(5,.string x.2),(0,.func (.yield l) #[] #[]),(2,.p b2),(3,.p b3)])
  (fun x=>[J x.1,bo b1 (.cells #[.string o] 9 (0,0)),JP b2 r s d (.slice a r.ti.length cp) p,bo b3 (.cells #[.q v] 3 (0,0))]) (fun x=>r.ti.length+1-x.1) ?_ ?_
 ·apply aI (0,o) ⟨Zi _,I⟩
  case hs1=>exact cu
  case ht=>(try simp only [Ze,Zf,Za]);exact .h4 .nil
 rintro ⟨k,at_⟩ ⟨hk,hit⟩;dsimp only at hk hit ⊢;by_cases aN:k<r.ti.length+1
 ·have VP:∀ w',aK fp w w'->aj T_ 223 [.agg #[.q r.lv,.q r.ma,s,d,.slice a r.ti.length cp,p],.q v,.string at_] w' (.tuple #[.string ((ed r.po v at_).getD ⟨#[]⟩),.bool (ed r.po v at_).isSome]):=fun w' hk=>AK v at_ (hR.jE hO hk)
  cases hi:ed r.po v at_ with
  | none =>
   have n9:∀ w',aK fp w w'->aj T_ 223 [.agg #[.q r.lv,.q r.ma,s,d,.slice a r.ti.length cp,p],.q v,.string at_] w' (.tuple #[.string ⟨#[]⟩,.bool false]):=fun w' hk=>by
    have:=VP w' hk;rwa [hi] at this
   have bh:=GD hit hk (.inl hi)
   (refine Jr<|JA I<|Jn<|Jq<|Jd I fun ar=>Jk<|Jq<|J0<|Jr<|ab (cK bF) I<|JL I cA I<|Jv I<|ai eK I (fun w' aA=>(n9 w' (Mem.keeps aA)))<|Jv I<|JJ I I<|JJ I I<|Ja I<|Ja I<|Jn<|Jq<|Jr<|Jv I<|JH I<|Jv I<|iT I I I I<|iT I I I I<|dx I I I I<|aF I I (fun hg bT=>(dX (.cD bT I))) I<|ab (bC (.of I) I) I<|Jn<|cL (.of I)<|Ju<|Jm<|Jh<|Jh<|Jm ?_)
   with_reducible first|apply aR|apply aS
   case he=>exact nS I
   case hR=>
    intro w' aA;exact aD true trivial (show bj _ [J (eX r.po v (r.ti.length+1) o).length,_,_,_] _ by rw [bh];exact .h4 .nil) aA I
  | some nx =>
   have n9:∀ w',aK fp w w'->aj T_ 223 [.agg #[.q r.lv,.q r.ma,s,d,.slice a r.ti.length cp,p],.q v,.string at_] w' (.tuple #[.string nx,.bool true]):=fun w' hk=>by
    have:=VP w' hk;rwa [hi] at this
   have U2:=hy k _ (Ob hit aN hi);have aaf:lQ r.po v (k+1) o=some nx:=by rw [AJ hit,hi]
   (refine Jr<|JA I<|Jn<|Jq<|Jd I fun ar=>Jk<|Jq<|J0<|Jr<|ab (cK bF) I<|JL I cA I<|Jv I<|ai eK I (fun w' aA=>(n9 w' (Mem.keeps aA)))<|Jv I<|JJ I I<|JJ I I<|Ja I<|Ja I<|Jn<|Jq<|Jr<|Jv I<|JH I<|Jv I<|JK I I<|Jv I<|JK I I<|Jv I<|JK I I ?_)
   with_reducible apply yi hB hF U2
   case hx=>exact Is.of I
   case ha=>exact .o I .nil
   case hd=>rfl
   case ht=>exact .here
   intro q;cases q with
   | false =>
    simp only [cond_false]
    (refine JK I I<|JH I<|ab (du (.of I) (.of I) (.of I) I) I<|Jn<|cL (.of I)<|Ju<|Jm<|Jh<|Jh<|Jm ?_)
    with_reducible first|apply aR|apply aS
    case he=>exact nS I
    case hR=>
     intro w' aA;exact aD false trivial (by exact .h4 .nil) aA I
   | true =>
    simp only [cond_true]
    (refine JK I I<|JH I<|ab (du (.of I) (.of I) (.of I) I) I<|Jn<|bE (.of I)<|Jk<|Jg<|Jv I<|Ja I<|Jx<|Jj<|Jt<|Jg<|JB I (by omega)<|Jv I<|Jn ?_)
    apply aL (k+1,nx) ⟨show k+1<=r.ti.length+1 by omega,aaf⟩ (show r.ti.length+1-(k+1)<r.ti.length+1-k by omega)
    case hs1=>exact cu
    case ht=>(try simp only [Ze,Zf,Za]);exact .h4 .nil
 ·obtain rfl:k=r.ti.length+1:=by omega
  have bh:=GD hit hk (.inr I);refine Jr<|JA I<|Jn<|Jq<|Jc I fun ar=>Jp<|Jl<|Jo ?_
  with_reducible first|apply aR|apply aS
  case he=>exact nS I
  case hR=>
   intro w' aA;exact aD true trivial (show bj _ [J (eX r.po v (r.ti.length+1) o).length,_,_,_] _ by rw [bh];exact .h4 .nil) aA I
def RC (r:Ro) (s d t p:Value):List Value:=[.q r.lv,.q r.ma,s,d,t,p]
def BR (w:World) (b:Nat) (cs:List Value):Prop:=∀ (j:Nat) (u:Value),cs[j]? = some u->w.cell? ⟨b,0+j,none⟩=some u
theorem BR.keeps {b:Nat} {cs:List Value} (h:BR w b cs) (hk:aK [] w w'):BR w' b cs:=fun j u hu=>cE (h j u hu) I hk
theorem BR.of {c:Cx} {hs hs':List bd} (hm:Mem c hs w) {b:Nat} {cs:List Value} {E:TypeId} {fz:Nat×Nat} (ht:Take hs (bo b (.cells cs.toArray E fz)) hs'):BR w b cs:=fun j u hu=>by
 rw [ZH];exact At.mW ht hu w hm
theorem Cn {P:Program} {c:Cx} {sl:aH} {hs:List bd} {dst:Option Tmp} {ty:TypeId} {pos:String} {af:Array Edge} {g:Option (Nat×Bool)} {t u:TypeId} {x y:Operand} {a b:Bool} [hu:ij P t .bool] (hx:Is sl x (.bool a)) (hy:Is sl y (.bool b)) :
  cY P c sl hs ⟨dst,.binOp .neq t x y u,ty,pos,af,g⟩ (.bool (a != b)):=
 iM hx hy fun w=>by
  have:(Op.equal t (.bool a) (.bool b)).run P w=.ok (a==b) w:=by
   exact F1 (d:=9999) (by rw [hu.eq];rfl) (fun k h=>by rw [hu.eq] at h;cases h) (fun h=>by rw [hu.eq] at h;cases h) (fun _=>⟨a,I⟩) I
  simp [A5,binOp,this,bne]
def Ku (r:Ro) (v:Int) (x:Ti):Bool:=ig r.po v x.nm != nh r.po v x.nm
def MZ (r:Ro) (v:Int) (x:Ti):Bool:=fv (eX r.po v (r.ti.length+1) x.nm) x.nm
theorem Oh (v:Int) (x:Ti) {b1 b2:Nat} {w:World} (h:RR w r s d t p) (hA:BR w b1 (RC r s d t p)) (f2:w.cell? ⟨b2,0,none⟩=some (.q v)) :
  aj T_ 238 [.agg x.cells.toArray,.p b1,.p b2] w (.bool (Ku r v x)):=by
 obtain ⟨h1,h2,h3,h4⟩:=h.one;have kl:∀ (j:Nat) (u:Value),[Value.int .i64 r.lv,.int .i64 r.ma,s,d,t,p][j]? = some u->w.cell? ⟨b1,0+j,none⟩=some u:=hA;unfold Ti.cells;refine ah func238 I I ?_
 (refine Jr<|Jy I I fun _ _=>Ja I<|Ji<|ab (iA (eV.base kl I)) I<|ab (ag (.of I) (At.base f2 I)) I<|bP I I ae<|JL I .here I ?_)
 refine ai eK I (fun w' aA=>AK (s:=s) (d:=d) (t:=t) (p:=p) v x.nm (h.keeps aA.keeps)) ?_
 (refine Jv I<|JJ I I<|JJ I I<|Ja I<|Ja I<|Ji<|Jv I<|ab (iA (eV.base kl I)) I<|ab (ag (.of I) (At.base f2 I)) I<|bP I I ae<|JL I .here I ?_)
 refine ai eK I (fun w' aA=>Iu (s:=s) (d:=d) (t:=t) (p:=p) v x.nm (h.keeps aA.keeps)) ?_
 skip
 refine ab (Cn (.of I) (.of I)) I ?_;refine Ja I<|Jn<|Je<|JT ?_
 rfl
theorem R4 (v:Int) {w:World} (h:RR w r s d t p):aj T_ 150 [RA r s d t p,.q v] w (.bool (r.ti.any (Ku r v))):=by
 obtain ⟨h1,h2,h3,h4⟩:=h.one;unfold RA;refine ah func150 I I ?_
 (refine Jr<|Jy I I fun _ _=>Jy I I fun _ _=>Ja I<|Ji<|bP I I ae<|JL I (.there .here) I<|ab (bD .nil (.o I (.o I .nil))) I ?_)
 rename_i b3 uR b4 uQ
 with_reducible apply ai
 case hr=>exact ba
 case hd=>rfl
 case hc=>
  intro w' aA;have hA:BR w' b3 [.q r.lv,.q r.ma,s,d,t,p]:=BR.of aA (by exact Take.there .here);have f2:w'.cell? ⟨b4,0,none⟩=some (.q v):=At.lit (by exact .here) I w' aA;have hR:=h.keeps aA.keeps
  exact AU (f:=238) (p:=Ku r v) (first:=[]) (cap:=[.p b3,.p b4]) hR.ti
   (fun x hx w2 eM=>Oh v x (hR.keeps eM) (hA.keeps eM) (cE f2 I eM))
 refine Ja I<|Jn<|Je<|JT ?_
 rfl
theorem Q0 {q:Int->Bool} {f:FuncId} {first cap:List Value} [bO T_ f] {w w1:World} (h:RR w1 r s d t p) (wb:r.lv<=1000000)
  (cJ:∀ v:Int,0<=v->v<r.lv->∀ w',aK [] w w'->aj T_ f (first++[.q v]++cap) w' (.bool (q v))) :
  aj T_ 148 [RA r s d t p,.func (.func f) first.toArray cap.toArray] w (.bool ((List.range r.lv.toNat).any fun i=>q (i:Nat))):=by
 obtain ⟨h1,h2,h3,h4⟩:=h.one;unfold RA;refine ah func148 I I ?_
 (refine Jr<|Jy I I fun _ _=>Ja I<|Jn<|Jq<|Jr<|bP I I ae<|JL I .here I<|Jv I<|Jn<|J0 ?_)
 refine a7 (ι:=Nat) (fun k=>k<=r.lv.toNat/\∀ i,i<k->q (i:Nat)=false) (fun k=>[(8,.q (k:Nat)),(7,.q r.lv),(1,.func (.func f) first.toArray cap.toArray)]) (fun k=>[]) (fun k=>r.lv.toNat-k) ?_ ?_
 ·apply aI 0 ⟨Zi _,fun i h=>by omega⟩
  case hs1=>exact cu
  case ht=>(try simp only [Ze,Zf,Za]);exact .nil
 rintro k ⟨hk,hz⟩;by_cases aN:k<r.lv.toNat
 ·have Gc:((k:Nat):Int)<r.lv:=by omega
  refine Jr<|JA I<|Jn<|Jq<|Jd I fun ar=>Jk<|Jq<|J0<|Jr<|Jv I<|Ja I<|Ji<|Jv I<|Jv I ?_;refine ai bz I (fun w' aA=>cJ (k:Nat) (by omega) Gc w' aA.keeps) ?_;cases hq:q (k:Nat) with
  | true =>
   have e:(List.range r.lv.toNat).any (fun i=>q (i:Nat))=true:=ZN.2 ⟨k,ZP.2 aN,hq⟩
   rw [e]
   (refine Jn<|cL (.of I)<|Jr<|Ja I<|Jn<|Je<|Jm<|Jh<|Jh<|Jm<|Jh<|JT ?_)
   rfl
  | false =>
   (refine Jn<|bE (.of I)<|Jw<|Jj<|Jt<|Jg<|JB I (by omega)<|Jv I<|Jn ?_)
   have KZ:∀ i,i<k+1->q (i:Nat)=false:=fun i hi=>by
    by_cases e:i=k
    ·rw [e];exact hq
    ·exact hz i (by omega)
   apply aL (k+1) ⟨show k+1<=r.lv.toNat by omega,KZ⟩ (show r.lv.toNat-(k+1)<r.lv.toNat-k by omega)
   case hs1=>exact cu
   case ht=>(try simp only [Ze,Zf,Za]);exact .nil
 ·have e:(List.range r.lv.toNat).any (fun i=>q (i:Nat))=false:=by
   rw [Zac];intro i hi;simp [hz i (by have:=ZP.1 hi;omega)]
  rw [e];refine Jr<|JA I<|Jn<|Jq<|Jc I fun ar=>Jp<|Jl<|Jo<|Jt<|Jr<|Ja I<|Jn<|Je<|JT ?_
  rfl
theorem Tp :lQ po v (eX po v K o).length o=some (fR po v K o):=by
 unfold fR;rcases Nat.eq_zero_or_pos (eX po v K o).length with h | h
 ·rw [Zaw.1 h];rfl
 ·obtain ⟨k,hk⟩:∃ k,(eX po v K o).length=k+1:=⟨(eX po v K o).length-1,by omega⟩;have hl:=kd po v K o;have:=nL (po:=po) (v:=v) (o:=o) (show k<K by omega);rw [hk,<- this,List.getLast?_eq_getElem?,hk,ZaE,Zc (by omega)];rfl
theorem Ey {vs:List Value} (h:(xG po v K o)[k]? = some vs):∃ a,lQ po v (k+1) o=some a/\vs=[.string a]/\(eX po v K o)[k]? = some a:=by
 unfold xG at h;rw [ZA,Zak] at h;obtain ⟨a,ha,rfl⟩:=h;have hl:=kd po v K o;have hk:=(Zm.1 ha).1;exact ⟨a,by rw [<- nL (k:=K) (by omega)];exact ha,I,ha⟩
theorem LV (v:Int) (x:Ti) {b1 b2:Nat} {w:World} (h:RR w r s d t p) (cO:r.ti.length<=1000000) (hA:BR w b1 (RC r s d t p)) (f2:w.cell? ⟨b2,0,none⟩=some (.q v)) :
  aj T_ 237 [.agg x.cells.toArray,.p b1,.p b2] w (.bool (MZ r v x)):=by
 obtain ⟨h1,h2,h3,h4⟩:=h.one;have kl:∀ (j:Nat) (u:Value),[Value.int .i64 r.lv,.int .i64 r.ma,s,d,t,p][j]? = some u->w.cell? ⟨b1,0+j,none⟩=some u:=hA;unfold Ti.cells;refine ah func237 I I ?_
 (refine Jr<|Jy I I fun _ _=>Jz I I fun _ _=>Jn<|Jq<|Jr<|ab (iA (eV.base kl I)) I<|ab (ag (.of I) (At.base f2 I)) I<|bP I I ae<|JL I (.there .here) I ?_)
 rename_i b3 uR b4 uQ;refine JN eK I (fun w1 aG=>vG v x.nm (h.keeps aG.keeps)) ?_;intro y _;dsimp only [id_eq,Zb,Za];refine Jn<|J0 ?_
 refine jn (ps:=[11]) (f:=222) (first:=[]) (cap:=[.pointer (some ⟨y.1,0,none⟩),.pointer (some ⟨y.2.1,0,none⟩),.pointer (some ⟨y.2.2,0,none⟩)]) (ι:=Unit) (κ:=Unit) (rst:=[]) ?hg
  [bo y.1 (.cells #[.string x.nm] 9 (0,0)),JP y.2.1 r s d t p,bo y.2.2 (.cells #[.q v] 3 (0,0))] (xG r.po v (r.ti.length+1) x.nm) ?hit
  (fun k _=>fv ((eX r.po v (r.ti.length+1) x.nm).take k) x.nm=false) (fun _=>[bo b4 (.cells #[.bool false] 4 (0,0)),bo b3 (.cells #[.string x.nm,.q x.fr,.q x.to] 187 (0,0))])
  (fun _=>MZ r v x=true) (fun _=>[bo b4 (.cells #[.bool true] 4 (0,0)),bo b3 (.cells #[.string x.nm,.q x.fr,.q x.to] 187 (0,0))]) (fun _=>.ret) () (by rw [Ze];rfl) ?ht ?hlen ?hps ?round ?kn ?kj
 case hg=>exact Is.of I
 case hit=>intro w' aA;exact Ez v x.nm h RO.nil cO
 case ht=>
  dsimp only [Zb,Za];exact .cons cA (.cons cA (.h3 .nil))
 case hlen=>intro vs oQ;obtain ⟨x,_,rfl⟩:=Zo.1 oQ;rfl
 case hps=>intro t ht;simp only [ZO,Zp,or_false] at ht;rcases ht with rfl;exact Zay rfl
 case kj=>
  intro y D hy;rw [hy];dsimp only [Zb,Za];refine Je<|Jm<|Jh ?_
  with_reducible first|apply aR|apply aS
  case he=>exact Gy I inferInstance I (At.lit .here I)
  case hR=>exact fun w' aA=>⟨I,aA.keeps⟩
 case kn=>
  intro _ D hq;rw [rM,ZL] at hq;have xj:MZ r v x=false:=hq;rw [xj];dsimp only [Zb,Za]
  (refine Jj<|Jt<|Jr<|an (.of I) (.of I) .here I I (eL I) (bG I) ak<|Jn<|Je ?_)
  with_reducible first|apply aR|apply aS
  case he=>exact Gy I inferInstance I (At.lit .here I)
  case hR=>exact fun w' aA=>⟨I,aA.keeps⟩
 case round=>
  intro l0 rc W fp k u vs hsz hk hq hB hF;obtain ⟨a,hit,rfl,C0⟩:=Ey hk;obtain ⟨aN,Lk⟩:=Zm.1 C0;have htk:(eX r.po v (r.ti.length+1) x.nm).take (k+1)=(eX r.po v (r.ti.length+1) x.nm).take k++[a]:=by rw [Zn aN,Lk]
  dsimp only [List.zip_cons_cons,List.zip_nil_right,mw,Zb,Za];refine Jg<|Ja I<|Jn ?_
  with_reducible apply mI
  case ht=>exact .here
  (refine J0<|Jr<|Jv I<|bP I I ae<|JL I bF I<|ab (ei (.of I) (.of I)) I<|Jn<|gB I (fun ar=>?_) fun ar=>?_;refine Jr<|an (.of I) (.of I) (.there .here) I I (eL I) (bG I) ak<|Jn<|Je<|Jm ?_;rotate_left;refine Jw<|Jj ?_;rotate_right)
  ·apply Nk () I
   case ht=>exact Take.there .here
   case hy=>
    refine dZ.2 ?_;have:=Z1 C0;rwa [ar] at this
   case h2=>exact .h2 .nil
  ·apply l5 ()
   case ht=>exact .here
   case hx=>
    show fv ((eX r.po v (r.ti.length+1) x.nm).take (k+1)) x.nm=false;rw [htk];unfold fv at hq ⊢;rw [List.any_append,hq];simp;exact fun e=>ar e.symm
   case h2=>exact .h2 .nil
theorem Ff (x:Sr) (o:ByteArray) {b2:Nat} {w:World} (f2:w.cell? ⟨b2,0,none⟩=some (.string o)) :
  aj T_ 228 [.agg x.cells.toArray,.p b2] w (.bool (decide (x.nm=o))):=by
 unfold Sr.cells;refine ah func228 I I ?_
 (refine Jr<|Jy I I fun _ _=>Ja I<|Ji<|bP I I ae<|JL I .here I<|ab (ag (.of I) (At.base f2 I)) I<|ab (ei (.of I) (.of I)) I<|Ja I<|Jn<|Je<|JT ?_)
 rfl
theorem Px (v:Int) {w:World} (h:RR w r s d t p) (cO:r.ti.length<=1000000):aj T_ 149 [RA r s d t p,.q v] w (.bool (r.ti.any (MZ r v))):=by
 obtain ⟨h1,h2,h3,h4⟩:=h.one;unfold RA;refine ah func149 I I ?_
 (refine Jr<|Jy I I fun _ _=>Jy I I fun _ _=>Ja I<|Ji<|bP I I ae<|JL I (.there .here) I<|ab (bD .nil (.o I (.o I .nil))) I ?_)
 rename_i b3 uR b4 uQ
 with_reducible apply ai
 case hr=>exact ba
 case hd=>rfl
 case hc=>
  intro w' aA;have hA:BR w' b3 [.q r.lv,.q r.ma,s,d,t,p]:=BR.of aA (by exact Take.there .here);have f2:w'.cell? ⟨b4,0,none⟩=some (.q v):=At.lit (by exact .here) I w' aA;have hR:=h.keeps aA.keeps
  exact AU (f:=237) (p:=MZ r v) (first:=[]) (cap:=[.p b3,.p b4]) hR.ti
   (fun x hx w2 eM=>LV v x (hR.keeps eM) cO (hA.keeps eM) (cE f2 I eM))
 refine Ja I<|Jn<|Je<|JT ?_
 rfl
def k8 (r:Ro) (v:Int) (o:ByteArray):ByteArray:=if r.sr.any (fun x=>decide (x.nm=fR r.po v (r.ti.length+1) o)) then fR r.po v (r.ti.length+1) o else ⟨#[]⟩
theorem pY (v:Int) (o:ByteArray) {w:World} (h:RR w r s d t p) (cO:r.ti.length<=1000000):aj T_ 126 [RA r s d t p,.q v,.string o] w (.string (k8 r v o)):=by
 obtain ⟨h1,h2,h3,h4⟩:=h.one;unfold RA;refine ah func126 I I ?_
 (refine Jr<|Jy I I fun _ _=>Ja I<|Ji<|Jv I<|Jz I I fun _ _=>an (.of I) (.of I) .here I I (eL I) (bG I) ak<|Jn<|Jq<|Jr<|ab (cK (.there .here)) I<|Jv I<|Jv I ?_)
 rename_i b3 uR b7 V3;refine JN eK I (fun w1 aG=>vG v o (h.keeps aG.keeps)) ?_;intro y _;dsimp only [id_eq,Zb,Za];refine Jn<|J0 ?_
 refine jn (ps:=[14]) (f:=222) (first:=[]) (cap:=[.pointer (some ⟨y.1,0,none⟩),.pointer (some ⟨y.2.1,0,none⟩),.pointer (some ⟨y.2.2,0,none⟩)]) (ι:=ByteArray) (κ:=Empty) (rst:=[JP b3 r s d t p]) ?hg
  [bo y.1 (.cells #[.string o] 9 (0,0)),JP y.2.1 r s d t p,bo y.2.2 (.cells #[.q v] 3 (0,0))] (xG r.po v (r.ti.length+1) o) ?hit
  (fun k a=>lQ r.po v k o=some a) (fun a=>[bo b7 (.cells #[.string a] 9 (0,0))])
  (fun _=>False) (fun _=>[]) (fun _=>.ret) o I ?ht ?hlen ?hps ?round ?kn ?kj
 case hg=>exact Is.of I
 case hit=>intro w' aA;exact Ez v o h RO.nil cO
 case ht=>
  dsimp only [Zb,Za];exact .cons cA (.h3 .nil)
 case hlen=>intro vs oQ;obtain ⟨x,_,rfl⟩:=Zo.1 oQ;rfl
 case hps=>intro t ht;simp only [ZO,Zp,or_false] at ht;rcases ht with rfl;exact Zay rfl
 case kj=>
  intro y D hy;exact hy.elim
 case kn=>
  intro a D hq;rw [rM,Tp,Option.some.injEq] at hq;have BB:k8 r v o=if r.sr.any (fun x=>decide (x.nm=a)) then a else ⟨#[]⟩:=by rw [<- hq];rfl
  rw [BB];dsimp only [Zb,Za]
  (refine Jj<|Jt<|Jq<|Jr<|bP I I ae<|JL I df I<|ab (bD .nil (.o I .nil)) I ?_)
  with_reducible apply ai
  case hr=>exact ba
  case hd=>rfl
  case hc=>
   intro w' aA;have f2:w'.cell? ⟨b7,0,none⟩=some (.string a):=At.lit (by exact .here) I w' aA
   exact O7 (f:=228) (p:=fun x=>decide (x.nm=a)) (first:=[]) (cap:=[.p b7]) (h.keeps aA.keeps).sr
    (fun x hx w2 eM=>Ff x a (cE f2 I eM))
  cases r.sr.any (fun x=>decide (x.nm=a)) with
  | true =>
   (refine Jn<|cL (.of I)<|Jr<|JL I .here I<|Ja I<|Jn<|Ju ?_)
   with_reducible first|apply aR|apply aS
   case he=>exact dH I I
   case hR=>exact fun w' aA=>⟨I,aA.keeps⟩
  | false =>
   (refine Jn<|bE (.of I)<|Jk<|Jr<|Ja I<|Jn<|Je ?_)
   with_reducible first|apply aR|apply aS
   case he=>exact dH I I
   case hR=>exact fun w' aA=>⟨I,aA.keeps⟩
 case round=>
  intro l0 rc W fp k a0 vs hsz hk hq hB hF;obtain ⟨a,hit,rfl,C0⟩:=Ey hk;dsimp only [List.zip_cons_cons,List.zip_nil_right,mw,Zb,Za];refine Jg<|Ja I<|Jn ?_
  with_reducible apply mI
  case ht=>exact .here
  (refine J0<|Jg<|Jv I<|an (.of I) (.of I) (.there .here) I I (eL I) (bG I) ak<|Jx<|Jj ?_)
  apply l5 a
  case ht=>exact Take.there .here
  case hx=>exact hit
  case h2=>
   exact .h1 .nil
theorem qW {k k':ByteArray} {v:Value}:∀ {l:List (ByteArray×Value)},eA k' (mX k v l)=if k'=k then some v else eA k' l
 | []=>by simp [mX,eA]
 | (x, u) :: r => by
  simp only [mX];split
  ·rename_i e;subst e;simp only [eA];split <;> rfl
  ·rename_i e;simp only [eA];rw [qW];by_cases h:k'=x
   ·rw [if_pos h,if_pos h,if_neg (fun q=>e (q.symm.trans h))]
   ·rw [if_neg h,if_neg h]
theorem KH {α:Type} {l:List α} {key:α->ByteArray} {val:Nat->α->Value} {f:Nat->PM} (hs:∀ k (h:k<l.length),f (k+1)=mX (key l[k]) (val k l[k]) (f k)) (s:ByteArray) :
  (∀ k,k<=l.length->(∀ j (hj:j<l.length),j<k->key l[j]≠s)->eA s (f k)=eA s (f 0)) /\
  (∀ k,k<=l.length->∀ i (hi:i<l.length),i<k->key l[i]=s->(∀ j (hj:j<l.length),i<j->j<k->key l[j]≠s)->eA s (f k)=some (val i l[i])):=by
 constructor
 ·intro k
  induction k with
  | zero=>intro _ _;rfl
  | succ k ih =>
   intro hk hne;rw [hs k (by omega),qW,if_neg (fun e=>hne k (by omega) (by omega) e.symm)]
   exact ih (by omega) fun j hj h=>hne j hj (by omega)
 ·intro k
  induction k with
  | zero=>intro _ i _ h;omega
  | succ k ih =>
   intro hk i hi Xx he hne;rw [hs k (by omega),qW];by_cases e:i=k
   ·subst e;rw [if_pos he.symm]
   ·rw [if_neg (fun q=>hne k (by omega) (by omega) (by omega) q.symm)]
    exact ih (by omega) i hi (by omega) he fun j hj h h'=>hne j hj h (by omega)
theorem vP {α:Type} {l:List α} {key:α->ByteArray} {val:Nat->α->Value} {f:Nat->PM} (hs:∀ k (h:k<l.length),f (k+1)=mX (key l[k]) (val k l[k]) (f k)) (s:ByteArray) :
  (s ∉ l.map key->eA s (f l.length)=eA s (f 0))/\((l.map key).Nodup->∀ i (hi:i<l.length),key l[i]=s->eA s (f l.length)=some (val i l[i])):=by
 obtain ⟨h1,h2⟩:=KH hs s;constructor
 ·intro hn;exact h1 _ (Zz _) fun j hj _ e=>hn (Zo.2 ⟨_,Zj hj,e⟩)
 ·intro hd i hi he;refine h2 _ (Zz _) i hi hi he fun j hj xK _ e=>?_;have:=(Zaa.1 hd) i j (by rw [Zd];exact hi) (by rw [Zd];exact hj) xK;rw [Z0,Z0,he,e] at this;exact this I
structure DB (r:Ro):Prop where
 nd:(bW r).Nodup
theorem DB.parts (h:DB r):(cG r).Nodup/\(bU r).Nodup/\(cN r).Nodup/\(∀ s∈cG r,s ∉ bU r)/\(∀ s∈cG r,s ∉ cN r)/\(∀ s∈bU r,s ∉ cN r):=by
 have:=h.nd;unfold bW at this;rw [ZB] at this;obtain ⟨h1,h2,h3⟩:=this;rw [ZB] at h1;obtain ⟨h4,h5,h6⟩:=h1;exact ⟨h4,h5,h2,fun s hs hd=>h6 s hs s hd I,fun s hs ht=>h3 s (ZC _ hs) s ht I,fun s hs ht=>h3 s (ZT _ hs) s ht I⟩
theorem eE {l:List ByteArray} {s:ByteArray} (h:s∈l):0<=bA l s:=by
 have:=(not_congr (cg (l:=l) (s:=s))).2 (not_not_intro h);omega
theorem sZ {l:List ByteArray} {s:ByteArray} (hd:l.Nodup) {i:Nat} (h:i<l.length) (e:l[i]=s):bA l s=(i:Nat):=
 qL h e fun j hj q=>by
  have:=(Zaa.1 hd) j i (by omega) h hj;exact this (q.trans e.symm)
theorem ny (hd:DB r) (s:ByteArray):eA s (nw r)=if fv (bW r) s then some (ke (dI r s) (jO r s) (jP r s)) else none:=by
 obtain ⟨n1,n2,n3,d1,d2,d3⟩:=hd.parts;have hS:=vP (l:=r.sr) (key:=Sr.nm) (val:=fun _ x=>ke (-1) (-1) x.mx) (f:=xh r.sr) (fun k h=>Kf h) s
 have hD:=vP (l:=r.de) (key:=De.nm) (val:=fun k x=>ke (k:Nat) x.mx (-1)) (f:=DG (xh r.sr r.sr.length) r.de) (fun k h=>Kg h) s
 have hT:=vP (l:=r.ti) (key:=Ti.nm) (val:=fun k x=>ke ((r.de.length:Int)+(k:Nat)) x.fr x.to) (f:=MO (DG (xh r.sr r.sr.length) r.de r.de.length) r.de.length r.ti) (fun k h=>Ke h) s
 change (s ∉ cN r->eA s (nw r)=eA s (DG (xh r.sr r.sr.length) r.de r.de.length))/\((cN r).Nodup->_) at hT;change (s ∉ bU r->eA s (DG (xh r.sr r.sr.length) r.de r.de.length)=eA s (xh r.sr r.sr.length))/\((bU r).Nodup->_) at hD;change (s ∉ cG r->eA s (xh r.sr r.sr.length)=eA s [])/\((cG r).Nodup->_) at hS;have eR:fv (bW r) s=true↔(s∈cG r\/s∈bU r)\/s∈cN r:=by rw [dZ];unfold bW;rw [Zv,Zv]
 by_cases ht:s∈cN r
 ·rw [if_pos (eR.2 (.inr ht))];obtain ⟨i,hi,e⟩:=Zx ht;have we:i<r.ti.length:=by unfold cN at hi;rwa [Zd] at hi
  have e':(r.ti[i]).nm=s:=by simpa [cN] using e
  have hf:=sZ n3 hi e;have f1:bA (bU r) s<0:=cg.2 fun h=>d3 s h ht
  have f2:bA (cG r) s<0:=cg.2 fun h=>d2 s h ht
  refine (hT.2 n3 i we e').trans ?_;unfold dI jO jP;rw [if_neg (by omega),if_pos (by rw [hf];omega),if_neg (by omega),if_pos (by rw [hf];omega),if_neg (by omega),if_pos (by rw [hf];omega),hf,ZF,Zk,Zc we]
  rfl
 ·rw [hT.1 ht];have f3:bA (cN r) s<0:=cg.2 ht;by_cases xu:s∈bU r
  ·rw [if_pos (eR.2 (.inl (.inr xu)))];obtain ⟨i,hi,e⟩:=Zx xu;have we:i<r.de.length:=by unfold bU at hi;rwa [Zd] at hi
   have e':(r.de[i]).nm=s:=by simpa [bU] using e
   have hf:=sZ n2 hi e;have f2:bA (cG r) s<0:=cg.2 fun h=>d1 s h xu
   refine (hD.2 n2 i we e').trans ?_;unfold dI jO jP;rw [if_pos (by rw [hf];omega),if_pos (by rw [hf];omega),if_neg (by omega),if_neg (by omega),hf,ZF,Zk,Zc we]
   rfl
  ·rw [hD.1 xu];have f1:bA (bU r) s<0:=cg.2 xu;by_cases hs:s∈cG r
   ·rw [if_pos (eR.2 (.inl (.inl hs)))];obtain ⟨i,hi,e⟩:=Zx hs;have we:i<r.sr.length:=by unfold cG at hi;rwa [Zd] at hi
    have e':(r.sr[i]).nm=s:=by simpa [cG] using e
    have hf:=sZ n1 hi e;refine (hS.2 n1 i we e').trans ?_;unfold dI jO jP;rw [if_neg (by omega),if_neg (by omega),if_neg (by omega),if_neg (by omega),if_pos (by rw [hf];omega),hf,ZF,Zk,Zc we]
    rfl
   ·rw [hS.1 hs,if_neg (fun h=>by rcases eR.1 h with (h | h) | h <;> contradiction)]
    rfl
def kC (x y:Int):Int:=if x<y then -1 else if y<x then 1 else 0
def lT:List Int->List Int->Int
 | [],[]=>0
 | [],_::_=>-1
 | _::_,[]=>1
 | x::a,y::b=>if kC x y≠0 then kC x y else lT a b
theorem iG {x y:Int}:kC x y=0↔x=y:=by
 unfold kC;split
 ·constructor <;> intro h <;> omega
 ·split <;> constructor <;> intro h <;> omega
theorem L7:∀ b:List Int,lT [] b=if 0<b.length then -1 else 0
 | []=>rfl
 | _::_=>rfl
theorem HW {a b:List Int} (ha:k<a.length) (hb:k<b.length):lT (a.drop k) (b.drop k)=if kC a[k] b[k]≠0 then kC a[k] b[k] else lT (a.drop (k+1)) (b.drop (k+1)):=by
 rw [Zu ha,Zu hb];rfl
end Go.Proofs.A1
namespace Go.SL
open Go
def Er (l:List Oper) (m p:Nat):Bool:=
 l.all oJ&&ur l 0&&kM l.toArray (l.take m) 0&&(List.range' m (l.length-m)).all (fun k=>(List.range m).all fun i=>Nat.beq i p||((iW l []).getD k 0).testBit i)&&Nat.ble m l.length
def RG (l:List Oper) (m:Nat):Bool:=Er l m m
structure PU (l:List Oper) (m p:Nat):Prop where
 op:∀ o∈l,oJ o=true
 ac:ur l 0=true
 Cz:kM l.toArray (l.take m) 0=true
 tail:∀ k,m<=k->k<l.length->∀ i,i<m->i≠p->((iW l []).getD k 0).testBit i=true
 le:m<=l.length
theorem Cu {l:List Oper} {m p:Nat} (h:Er l m p=true):PU l m p:=by
 simp only [Er,Zl,Z6] at h;obtain ⟨⟨⟨⟨h1,h2⟩,h3⟩,h5⟩,h6⟩:=h;refine ⟨h1,h2,h3,fun k hk aN i hi hne=>?_,by simpa using h6⟩;have:=h5 k (ZaZ.2 ⟨hk,by omega⟩) i (ZP.2 hi);rw [ZQ] at this;exact this.resolve_left (by simpa using hne)
theorem rN {l:List Oper} {m p:Nat} (hc:PU l m p) {i j:Nat} {x y:Oper} (xK:i<j) (hj:j<m) (hx:l[i]? = some x) (hy:l[j]? = some y):qB l.toArray x y i=true:=by
 have:=nB hc.Cz (i:=i) (j:=j) xK (by rw [ZK,if_pos (by omega)];exact hx) (by rw [ZK,if_pos hj];exact hy);simpa using this
theorem Cv {l:List Oper} {m p:Nat} (hc:PU l m p) {listed:Array Bool} (hsz:listed.size=l.length) (xr:DC l (Ls listed)) {i:Nat} (hi:i∈Region.ready .any l.toArray listed) (hm:m<=i):∀ j,j<m->j≠p->Ls listed j:=by
 intro j hj hjp;obtain ⟨o,ho,hn,hd⟩:=(ek hsz).1 hi;have aN:i<l.length:=(Zm.1 ho).1;have EZ:DC l (fun k=>k=i\/Ls listed k):=by
  intro k ok hk hL e he hb;rcases hL with e' | hL
  ·subst e';rw [ho] at hk;cases hk;exact .inr (hd e he hb)
  ·exact .inr (xr k ok hk hL e he hb)
 rcases jq EZ hc.ac i aN (.inl rfl) j (hc.tail i hm aN j hj hjp) with h | h
 ·omega
 ·exact h
structure cT where
 F:(Nat->Value)->Value
 A:(Nat->Value)->List bd
def zu (β:Nat->Value) (i:Nat) (x:Value):Nat->Value:=fun k=>if k=i then x else β k
theorem ve (β:Nat->Value) (i:Nat):zu β i (β i)=β:=by
 funext k;unfold zu;split
 ·rename_i h;rw [h]
 ·rfl
theorem kq (β:Nat->Value) (i:Nat) (x:Value):zu β i x i=x:=by unfold zu;rw [if_pos I]
theorem zt {β:Nat->Value} {i k:Nat} {x:Value} (h:k≠i):zu β i x k=β k:=by unfold zu;rw [if_neg h]
def Bj (l:List Oper) (i k:Nat):Bool:=Nat.beq i k||((iW l []).getD i 0).testBit k
def eP (β:Nat->Value) (lst:Nat->Bool):List cT->Nat->List bd
 | [],_=>[]
 | s::S,i=>(if lst i then s.A β else [])++eP β lst S (i+1)
theorem jX {β β':Nat->Value} {lst nE:Nat->Bool}:∀ {S:List cT} {i:Nat},(∀ j s,S[j]? = some s->lst (i+j)=nE (i+j)/\(lst (i+j)=true->s.A β=s.A β'))->eP β lst S i=eP β' nE S i
 | [],_,_=>rfl
 | s :: S, i, h => by
  have h0:=h 0 s I;have ih:eP β lst S (i+1)=eP β' nE S (i+1):=jX fun j s' hj=>by have:=h (j+1) s' (by simpa using hj);rwa [show i+(j+1)=i+1+j from by omega] at this
  simp only [Zau] at h0;unfold eP;rw [ih,<- h0.1];by_cases hl:lst i=true
  ·rw [if_pos hl,if_pos hl,h0.2 hl]
  ·rw [if_neg hl,if_neg hl]
theorem vA {β:Nat->Value} {lst nE:Nat->Bool} {k:Nat} {s:cT}:∀ {S:List cT} {i:Nat},S[k]? = some s->lst (i+k)=false->nE (i+k)=true->(∀ j,j≠i+k->nE j=lst j) ->
  (s.A β++eP β lst S i).Perm (eP β nE S i)
 | [],_,h,_,_,_=>by simp at h
 | s0 :: S, i, h, h1, h2, h3 => by
  cases k with
  | zero =>
   simp at h;subst h;have e:eP β lst S (i+1)=eP β nE S (i+1):=jX fun j s' hj=>⟨(h3 (i+1+j) (by omega)).symm,fun _=>rfl⟩
   simp only [Zau] at h1 h2;unfold eP;rw [if_neg (by simp [h1]),if_pos h2,e];simp
  | succ k =>
   have ih:(s.A β++eP β lst S (i+1)).Perm (eP β nE S (i+1)):=by
    refine vA (k:=k) (by simpa using h) ?_ ?_ ?_
    all_goals rw [show i+1+k=i+(k+1) from by omega];assumption
   unfold eP;rw [h3 i (by omega)];refine List.Perm.trans ?_ (ih.append_left _);rw [<- Zh,<- Zh];exact List.perm_append_comm.append_right _
theorem vw {β:Nat->Value} {lst:Nat->Bool} {s:cT}:∀ {S:List cT} {i j:Nat},S[j]? = some s->lst (i+j)=true->(s.A β).Sublist (eP β lst S i)
 | [],_,j,h,_=>by simp at h
 | s0 :: S, i, 0, h, h1 => by
  simp at h;subst h;unfold eP;rw [Zau] at h1;rw [if_pos h1];exact Zbw _ _
 | s0 :: S, i, j + 1, h, h1 => by
  unfold eP;exact (vw (S:=S) (i:=i+1) (j:=j) (by simpa using h) (by rwa [show i+1+j=i+(j+1) from by omega])).trans (Zbr _ _)
theorem cC.sublist {h:Nat->Option Obj} {l1 l2:List bd} (hs:l1.Sublist l2):∀ {fp:List Nat},cC h l2 fp->∃ lS:List Nat,cC h l1 lS/\lS.Sublist fp:=by
 induction hs with
 | slnil=>intro fp hf;exact ⟨fp,hf,List.Sublist.refl _⟩
 | cons A _ ih =>
  rintro fp ⟨f1,f2,rfl,_,h2⟩;obtain ⟨g,hg,iO⟩:=ih h2;exact ⟨g,hg,iO.trans (Zbr _ _)⟩
 | cons_cons A _ ih =>
  rintro fp ⟨f1,f2,rfl,h1,h2⟩;obtain ⟨g,hg,iO⟩:=ih h2;exact ⟨f1++g,⟨f1,g,I,h1,hg⟩,(List.Sublist.refl f1).append iO⟩
theorem Mem.sublist {c:Cx} {l1 l2:List bd} {w:World} (h:Mem c l2 w) (hs:l1.Sublist l2):Mem c l1 w:=by
 obtain ⟨k,fp,hn,fV,hb⟩:=h;obtain ⟨g,hg,iO⟩:=fV.sublist hs;exact ⟨k,g,hn.sublist iO,hg,fun b dF=>hb b (iO.subset dF)⟩
def si (P:Program) (o:Oper) (a:Act) (w:World) (K:Value->World->Prop):Prop:=
 match (execOp a.eval o).run P w with
 | .ok (.value v) w'=>K v w'
 | .ok (.enter f args) w'=>w'=w/\Calls P f args w (fun e zq=>∃ v,e=.returned v/\K v zq)
 | _=>False
section
variable {P:Program} {c:Cx} {D:List Nat} {sl:aH} {hs:List bd} {Q:Exit->Act->World->Prop} {l:List Oper} {m:Nat}
def j6 (c:Cx) (hs:List bd) (S:List cT) (B:List Nat) (β:Nat->Value) (w:World):Prop:=∀ A:List bd,(A=[]\/∃ j,j∈B/\∃ s,S[j]? = some s/\A=s.A β)->Mem c (A++hs) w
variable {B:List Nat} {i:Nat} {o:Oper} {w:World} {β:Nat->Value}
theorem j6.mem {S:List cT} (h:j6 c hs S B β w):Mem c hs w:=h [] (.inl I)
theorem j6.at {S:List cT} (h:j6 c hs S B β w) (j:Nat) {s:cT} (hj:j∈B) (hs':S[j]? = some s):Mem c (s.A β++hs) w:=h _ (.inr ⟨j,hj,s,hs',I⟩)
def MF (i:Nat) (s:cT) (β:Nat->Value) (w:World) (v:Value) (w':World):Prop:=∃ x,v=s.F (zu β i x)/\aK [] w w'/\∃ fp:List Nat,fp.Nodup/\cC (hp w') (s.A (zu β i x)) fp/\∀ b∈fp,w.heap.size<=b
def nW {α:Type} (l:List Oper) (i:Nat) (F:(Nat->Value)->α):Prop:=∀ β β',(∀ k,Bj l i k=true->β k=β' k)->F β=F β'
structure Fm (P:Program) (c:Cx) (hs:List bd) (l:List Oper) (i:Nat) (o:Oper) (SL:(Nat->Value)->aH) (S:List cT) (s:cT):Prop where
 EJ:nW l i s.F
 EK:nW l i s.A
 run:∃ B:List Nat,(∀ j∈B,fD o j=true)/\∀ β a w,bZ (SL β) a->j6 c hs S B β w->if Region.wanted o (yielded l.toArray a.tmps)=true then si P o a w (MF i s β w) else MF i s β w undef w
def ml (l:List Oper) (o:Oper) (j:Nat):Bool:=fD o j||(List.range l.length).any fun k=>fD o k&&(match l[k]? with | some q=>fD q j | none=>false)
theorem GP {l:List Oper} {j:Nat} (h:fD o j=true):ml l o j=true:=by unfold ml;rw [h];rfl
structure Bo (P:Program) (c:Cx) (hs:List bd) (l:List Oper) (i:Nat) (o:Oper) (SL:(Nat->Value)->aH) (S:List cT) (s:cT):Prop where
 EJ:nW l i s.F
 EK:nW l i s.A
 run:∃ B:List Nat,(∀ j∈B,ml l o j=true)/\∀ β a w,bZ (SL β) a->j6 c hs S B β w->if Region.wanted o (yielded l.toArray a.tmps)=true then si P o a w (MF i s β w) else MF i s β w undef w
theorem Fm.toT {P:Program} {c:Cx} {hs:List bd} {l:List Oper} {SL:(Nat->Value)->aH} {S:List cT} {s:cT} (h:Fm P c hs l i o SL S s):Bo P c hs l i o SL S s:=⟨h.EJ,h.EK,let ⟨B,hB,r⟩:=h.run;⟨B,fun j hj=>GP (hB j hj),r⟩⟩
inductive wV (P:Program) (c:Cx) (hs:List bd) (l:List Oper):Nat->List Oper->((Nat->Value)->aH)->List cT->List cT->((Nat->Value)->aH)->Prop
 | nil {i:Nat} {SL:(Nat->Value)->aH} {S:List cT}:wV P c hs l i [] SL S S SL
 | step {i d:Nat} {o:Oper} {rest:List Oper} {SL qg:(Nat->Value)->aH} {S S':List cT} {s:cT} (hd:o.dst=some d) (fH:d<c.nt) (h:Bo P c hs l i o SL S s)
   (t:wV P c hs l (i+1) rest (fun β=>(d,s.F β)::SL β) (S++[s]) S' qg):wV P c hs l i (o::rest) SL S S' qg
def py (sl:aH) (pre:List Oper) (SL:(Nat->Value)->aH) (S:List cT):Prop:=
 ∀ β t v,cX (SL β) t=some v->(∃ (j:Nat) (oj:Oper) (s:cT),pre[j]? = some oj/\oj.dst=some t/\S[j]? = some s/\v=s.F β)\/((∀ oj∈pre,oj.dst≠some t)/\cX sl t=some v)
theorem py.step {pre:List Oper} {SL:(Nat->Value)->aH} {S:List cT} (h:py sl pre SL S) (hl:S.length=pre.length) {o:Oper} {d:Nat} {s:cT} (hd:o.dst=some d):py sl (pre++[o]) (fun β=>(d,s.F β)::SL β) (S++[s]):=by
 intro β t v hv;by_cases e:d=t
 ·subst e;rw [fL] at hv;cases hv;exact .inl ⟨pre.length,o,s,by simp,hd,by rw [<- hl];simp,I⟩
 ·rw [fK e] at hv;rcases h β t v hv with ⟨j,oj,s',h1,h2,h3,h4⟩ | ⟨h1,h2⟩
  ·refine .inl ⟨j,oj,s',?_,h2,?_,h4⟩
   ·rw [ZD (Zm.1 h1).1];exact h1
   ·rw [ZD (Zm.1 h3).1];exact h3
  ·refine .inr ⟨fun oj OV=>?_,h2⟩;rcases Zv.1 OV with OV | OV
   ·exact h1 oj OV
   ·rw [ZE.1 OV,hd];simp [e]
theorem wV.spec {rest:List Oper} {SL qg:(Nat->Value)->aH} {S S':List cT} (h:wV P c hs l i rest SL S S' qg):∀ pre:List Oper,pre.length=i->S.length=i->py sl pre SL S ->
  S'.length=i+rest.length/\S <+: S'/\py sl (pre++rest) qg S'/\∀ k o,i<=k->(pre++rest)[k]? = some o->∃ d MC s,o.dst=some d/\d<c.nt/\S'[k]? = some s/\py sl ((pre++rest).take k) MC (S'.take k)/\Bo P c hs l k o MC (S'.take k) s:=by
 induction h with
 | @nil i SL S =>
  intro pre hp hS mz;refine ⟨by simpa using hS,List.prefix_rfl,by simpa using mz,fun k o hk ho=>?_⟩;have:=(Zm.1 ho).1;simp at this;omega
 | @step i d o rest SL qg S S' s hd fH bh t ih =>
  intro pre hp hS mz;obtain ⟨h1,h2,h3,h4⟩:=ih (pre++[o]) (by simp [hp]) (by simp [hS]) (mz.step (by omega) hd);rw [Zh,List.singleton_append] at h3 h4;have K9:S <+: S':=(Zbl S [s]).trans h2;have tO:S'[i]? = some s:=by
   obtain ⟨r,rfl⟩:=h2;rw [Zh,ZJ (by omega),hS];simp
  have hSt:S'.take i=S:=by
   obtain ⟨r,rfl⟩:=K9;rw [<- hS];simp
  refine ⟨by rw [h1];simp;omega,K9,h3,fun k ok hk ho=>?_⟩;by_cases e:k=i
  ·subst e;have Gb:ok=o:=by
    rw [ZJ (by omega),hp] at ho;simpa using ho.symm
   subst Gb;have htk:(pre++ok::rest).take k=pre:=by rw [<- hp];simp
   rw [htk,hSt];exact ⟨d,SL,s,hd,fH,tO,mz,bh⟩
  ·exact h4 k ok (by omega) ho
structure W0 (c:Cx) (D:List Nat) (hs:List bd) (l:List Oper) (m:Nat) (S:List cT) (a0:Act) (fuel:Nat) (listed:Array Bool) (a:Act) (w:World):Prop where
 sz:listed.size=l.length
 dc:DC l (Ls listed)
 hi:∀ k,m<=k->¬ Ls listed k
 defers:a.defers=D.map mark
 size:a.tmps.size=c.nt
 FX:∀ t,(∀ (j:Nat) (o:Oper),l[j]? = some o->Ls listed j->o.dst≠some t)->a.tmps[t]? = a0.tmps[t]?
 left:∃ U:List Nat,U.Nodup/\(∀ i,i∈U↔i<l.length/\¬ Ls listed i)/\U.length=fuel
 own:∃ β:Nat->Value,Mem c (eP β (fun i=>listed.getD i false) S 0++(hs++nb D)) w/\∀ (j:Nat) (o:Oper) (d:Nat) (s:cT),l[j]? = some o->o.dst=some d->S[j]? = some s->Ls listed j->a.tmps[d]? = some (s.F β)
def qi (n m:Nat):Array Bool:=(List.replicate m true++List.replicate (n-m) false).toArray
theorem LL {P:Program} {dst:Option Tmp} {x:Operand} {k:Nat} {ty:TypeId} {pos:String} {af:Array Edge} {ρ:Operand->Value} {K:Value->World->Prop}
  (h:match (execOp ρ ⟨dst,.extract x k,ty,pos,af,none⟩).run P w with
   | .ok (.value v) w'=>K v w'
   | .ok (.enter f args) w'=>w'=w/\Calls P f args w (fun e zq=>∃ v,e=.returned v/\K v zq)
   | _=>False):∃ v,K v w/\∀ w2,(execOp ρ ⟨dst,.extract x k,ty,pos,af,none⟩).run P w2=.ok (.value v) w2:=by
 simp only [execOp] at h ⊢;generalize ρ x=u at h ⊢;cases u with
 | tuple vs =>
  simp only [Instr.extract] at h ⊢;cases hv:vs[k]? with
  | none=>simp [hv] at h
  | some v=>simp [hv] at h ⊢;exact h
 | _=>simp [Instr.extract] at h
def Fp (l:List Oper) (p:Nat):Prop:=∃ d x k ty pos af,l[p]? = some ⟨some d,.extract x k,ty,pos,af,none⟩/\Region.noSelect l.toArray=true/\Region.free .any l.toArray ((List.range l.length).map fun j=>((iW l []).getD p 0).testBit j).toArray p=true
theorem HQ {ops:Array Oper} {l1 l2:Array Bool} (h:Region.free .any ops l1 i=true) (hle:∀ j,j<ops.size->j≠i->l1.getD j true=true->l2.getD j true=true):Region.free .any ops l2 i=true:=by
 unfold Region.free at h ⊢;cases hi:ops[i]? with
 | none=>rw [hi] at h;cases h
 | some oi =>
  rw [hi] at h;simp only [Z6,ZP] at h ⊢;intro j hj;have h1:=h j hj;simp only [ZQ] at h1 ⊢;rcases h1 with (h1 | h1) | h1
  ·exact .inl (.inl h1)
  ·by_cases e:j=i
   ·exact .inl (.inl (by simp [e]))
   ·exact .inl (.inr (hle j hj e h1))
  ·exact .inr h1
theorem Hf {l:List Oper} (V8:ur l 0=true) {listed:Array Bool} (hsz:listed.size=l.length) (xr:DC l (Ls listed)) {i:Nat} (hi:i∈Region.ready .any l.toArray listed) {j:Nat} (aaH:((iW l []).getD i 0).testBit j=true):j=i\/Ls listed j:=by
 obtain ⟨o,ho,hn,hd⟩:=(ek hsz).1 hi;have aN:i<l.length:=(Zm.1 ho).1;have EZ:DC l (fun k=>k=i\/Ls listed k):=by
  intro k ok hk hL e he hb;rcases hL with e' | hL
  ·subst e';rw [ho] at hk;cases hk;exact .inr (hd e he hb)
  ·exact .inr (xr k ok hk hL e he hb)
 exact jq EZ V8 i aN (.inl I) j aaH
def pz (P:Program) (c:Cx) (D:List Nat) (hs:List bd) (l:List Oper) (Q:Exit->Act->World->Prop) (m i n:Nat) (rest:List Oper) (SL:(Nat->Value)->aH) (S:List cT):Prop:=
 ∃ S' qg,wV P c hs l i (rest.take n) SL S S' qg/\∀ β,Tr c D (qg β) (eP β (fun _=>true) S' 0++hs) (Left P l.toArray Q (l.length-m) (qi l.length m))
end
end Go.SL
