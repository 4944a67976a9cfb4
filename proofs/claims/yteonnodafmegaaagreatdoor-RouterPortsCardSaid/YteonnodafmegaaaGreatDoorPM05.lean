/- Parts of the proof: K5 K6 GkLook K7 K8 K9 K9q GkRegM. -/
import Derived.Test.YteonnodafmegaaaGreatDoorPM04
import Derived.Test.YteonnodafmegaaaGreatDoorPM03
import Derived.Test.YteonnodafmegaaaGreatDoorPM02
set_option linter.unusedSectionVars false
set_option linter.unusedVariables false
set_option linter.unusedSimpArgs false
namespace Go.Proofs.A1
open Go Go.SL
open Tryz
open Tryz renaming prog->T_
variable {X:Act->World->Prop} {bf:List ByteArray} {bv:Value} {cap:List Value} {f:FuncId} {first:List Value} {k:Nat} {lv:Value} {r:Ro} {w:World}
theorem G7 {c:Cx} {D:List Nat} {sl:aN} {hs hs':List bd} {E:TypeId} {g:Nat} {xs:List Value} (n sz:Nat) (ht:Take hs (bu g (.cells xs.toArray E (0,0))) hs') (hl:xs.length=n*sz) (hn:Nat.ble n 1000=true)
  (k:Tr c D sl (row E sz (.w g n n) n xs::hs') X):Tr c D sl hs X:=
 ct (cur:=[]) (by rw [ZK];exact ht) (Zv _) (by have:=ZaA hn;unfold maxLen;omega) (by rw [ZK];exact hl) hl k
theorem bP {c:Cx} {D:List Nat} {sl:aN} {hs hs':List bd} {E:TypeId} {g:Nat} {xs ys:List Value} (n sz:Nat) (ht:Take hs (bu g (.cells xs.toArray E (0,0))) hs') (he:xs=ys) (hl:ys.length=n*sz) (hn:Nat.ble n 1000=true)
  (k:Tr c D sl (row E sz (.w g n n) n ys::hs') X):Tr c D sl hs X:=by
 subst he;exact G7 n sz ht hl hn k
def eZ (l:List ByteArray) (x:ByteArray):Bool:=l.any fun y=>decide (x=y)
theorem fE {l:List ByteArray} {x:ByteArray}:eZ l x=true↔x∈l:=by
 unfold eZ;rw [ZR];constructor
 ·rintro ⟨y,hy,h⟩;rw [decide_eq_true_iff] at h;rw [h];exact hy
 ·intro h;exact ⟨x,h,by simp⟩
theorem Lu {l:List ByteArray} (x:ByteArray) {w:World} (h:Rd w lv 1 (fN l)) :
  an T_ 181 [lv,.string x] w (.q (iN (fun y=>decide (x=y)) l)):=by
 obtain ⟨a,cp,b,o,rfl,dC,ch,ha,hc⟩:=h;rw [bG] at *;unfold maxLen at ch;refine aj func181 I I ?_;refine Jr<|Ja I<|Jn<|Jq<|Jr<|Jv I<|JI I<|Jv I<|Jn<|J0 ?_;refine aV (fun k:Nat=>k<=l.length/\∀ i,i<k->(l[i]?.map fun y=>decide (x=y)).getD false=false) (fun k=>[(8,.int .i64 k),(7,.int .i64 l.length),(0,.slice a l.length cp),(1,.string x)]) (fun _=>[]) (fun k=>l.length-k) ?_ ?_
 ·apply aH 0 ⟨Zi _,fun i h=>by omega⟩
  case hs1=>exact bT
  case ht=>(try simp only [Ze,Zf,Za]);exact .nil
 rintro k ⟨hk,hf⟩;by_cases aL:k<l.length
 ·have cY:=ha (iU aL);have c0:w.cell? ⟨b,o+k*1,none⟩=some (.string l[k]):=(hc k _ (fH aL)).2 0 _ I;have hps:(l[k]?.map fun y=>decide (x=y)).getD false=decide (x=l[k]):=by simp [aL]
  (refine Jr<|JA I<|Jn<|Jq<|Jd I fun aA=>Jk<|Jq<|J0<|Jr<|Jv I<|Ja I<|Ji<|Jv I<|Jv I<|Jv I<|ab (gE cY aA) I<|ab (ag (.of I) (At.base c0 I)) I<|ab (dD (.of I) (.of I)) I<|Jn<|gL I (fun aA=>?_) fun aA=>?_;refine Jr<|Jv I<|Ja I<|Jn<|Je<|Jm<|Jh<|Jh<|Jm<|Jh<|JT ?_;rotate_left;refine Jw<|Jj<|Jt<|Jg<|JB I (by omega)<|Jv I<|Jn ?_;rotate_right)
  ·rw [gN hf aL (by simpa using aA)]
  ·apply aG (k+1) ⟨by omega,fun i hi=>by
    by_cases e:i=k
    ·rw [e,hps];simpa using aA
    ·exact hf i (by omega)⟩ (by omega)
   case hs1=>exact bT
   case ht=>(try simp only [Ze,Zf,Za]);exact .nil
 ·obtain rfl:k=l.length:=by omega
  refine Jr<|JA I<|Jn<|Jq<|Jc I fun aA=>Jp<|Jl<|Jo<|Jt<|Jr<|Ja I<|Jn<|Je<|JT ?_;rw [fO hf]
theorem pZ {l:List ByteArray} (x:ByteArray) {w:World} (h:Rd w lv 1 (fN l)) :
  an T_ 179 [lv,.string x] w (.bool (eZ l x)):=by
 have iZ:∀ w',aI [] w w'->an T_ 181 [lv,.string x] w' (.q (iN (fun y=>decide (x=y)) l)):=fun w' hk=>Lu x (h.keeps hk)
 have e:eZ l x=l.any fun y=>decide (x=y):=rfl
 rw [e,<- lb];refine aj func179 I I ?_
 (refine Jr<|Ja I<|Ji<|Jv I<|Jv I<|ah bn I (fun w' aB=>(iZ w' (Mem.keeps aB)))<|JG I<|Ja I<|Jn<|Je<|JT ?_)
 rfl
theorem Pk {l:List Int} (x:Int) {w:World} (h:Rd w lv 1 (ints l)) :
  an T_ 241 [lv,.q x] w (.q (iN (fun y=>decide (x=y)) l)):=by
 obtain ⟨a,cp,b,o,rfl,dC,ch,ha,hc⟩:=h;rw [dz] at *;unfold maxLen at ch;refine aj func241 I I ?_;refine Jr<|Ja I<|Jn<|Jq<|Jr<|Jv I<|JI I<|Jv I<|Jn<|J0 ?_;refine aV (fun k:Nat=>k<=l.length/\∀ i,i<k->(l[i]?.map fun y=>decide (x=y)).getD false=false) (fun k=>[(8,.int .i64 k),(7,.int .i64 l.length),(0,.slice a l.length cp),(1,.int .i64 x)]) (fun _=>[]) (fun k=>l.length-k) ?_ ?_
 ·apply aH 0 ⟨Zi _,fun i h=>by omega⟩
  case hs1=>exact bT
  case ht=>(try simp only [Ze,Zf,Za]);exact .nil
 rintro k ⟨hk,hf⟩;by_cases aL:k<l.length
 ·have cY:=ha (kc aL);have c0:w.cell? ⟨b,o+k*1,none⟩=some (.q l[k]):=(hc k _ (iV aL)).2 0 _ I;have hps:(l[k]?.map fun y=>decide (x=y)).getD false=decide (x=l[k]):=by simp [aL]
  (refine Jr<|JA I<|Jn<|Jq<|Jd I fun aA=>Jk<|Jq<|J0<|Jr<|Jv I<|Ja I<|Ji<|Jv I<|Jv I<|Jv I<|ab (gE cY aA) I<|ab (ag (.of I) (At.base c0 I)) I<|JC I<|Jn<|gL I (fun aA=>?_) fun aA=>?_;refine Jr<|Jv I<|Ja I<|Jn<|Je<|Jm<|Jh<|Jh<|Jm<|Jh<|JT ?_;rotate_left;refine Jw<|Jj<|Jt<|Jg<|JB I (by omega)<|Jv I<|Jn ?_;rotate_right)
  ·rw [gN hf aL (by simpa using aA)]
  ·apply aG (k+1) ⟨by omega,fun i hi=>by
    by_cases e:i=k
    ·rw [e,hps];simpa using aA
    ·exact hf i (by omega)⟩ (by omega)
   case hs1=>exact bT
   case ht=>(try simp only [Ze,Zf,Za]);exact .nil
 ·obtain rfl:k=l.length:=by omega
  refine Jr<|JA I<|Jn<|Jq<|Jc I fun aA=>Jp<|Jl<|Jo<|Jt<|Jr<|Ja I<|Jn<|Je<|JT ?_;rw [fO hf]
theorem mo {l:List Int} (x:Int) {w:World} (h:Rd w lv 1 (ints l)) :
  an T_ 154 [lv,.q x] w (.bool (l.contains x)):=by
 have iZ:∀ w',aI [] w w'->an T_ 241 [lv,.q x] w' (.q (iN (fun y=>decide (x=y)) l)):=fun w' hk=>Pk x (h.keeps hk)
 have e:l.contains x=l.any fun y=>decide (x=y):=by
  rw [List.contains_eq_any_beq];rfl
 rw [e,<- lb];refine aj func154 I I ?_
 (refine Jr<|Ja I<|Ji<|Jv I<|Jv I<|ah bn I (fun w' aB=>(iZ w' (Mem.keeps aB)))<|JG I<|Ja I<|Jn<|Je<|JT ?_)
 rfl
theorem xC {l:List ByteArray} (h:Rd w lv 1 (fN l)) (hl:l.length<=1000) :
  a8 T_ 234 [lv] w [] (fun _:Value=>True) id (fun v=>[row 9 1 v l.length (aR l)]):=by
 have h':=h;obtain ⟨a,cp,b,o,rfl,dC,ch,ha,hc⟩:=h;refine aS func234 I I ?_;cases a with
 | none =>
  have nX:l=[]:=by
   cases l with
   | nil=>rfl
   | cons x r=>exact absurd (ha (by simp [fN])) (by simp)
  subst nX
  (refine Jr<|Ja I<|Jn<|Jq<|Jr<|Jv I<|ab (iq (.of I) (.of I)) I<|Jn<|c5 (.of I)<|Jr<|Ja I<|Jn<|Ju ?_)
  refine aJ 9 1 ?_
  with_reducible first|apply aO|apply aP
  case he=>exact dN I I
  case hR=>
   intro w' aB;exact aC (.z) trivial (by exact .h1 .nil) aB I
 | some ad =>
  (refine Jr<|Ja I<|Jn<|Jq<|Jr<|Jv I<|ab (iq (.of I) (.of I)) I<|Jn<|cd (.of I)<|Jk<|Jr<|bh (aD .nil I I I I) I fun _ _=>Jv I ?_)
  rename_i bq mV;refine bP (g:=bq) (E:=9) (ys:=[]) 0 1 (by exact .here) I I I ?_
  with_reducible apply eX
  case hx=>exact Is.of I
  case hy=>exact Is.of I
  case ht=>exact .here
  case hsrc=>exact fun w' aB=>h'.keeps aB.keeps
  case h1=>exact u9 l
  case hz=>exact I
  case hsz=>exact I
  case hb0=>exact I
  case hb=>rw [bG];omega
  case hd=>rfl
  intro v';rw [bG,<- ph,ZF,Za];refine Ja I<|Jn<|Je ?_
  with_reducible first|apply aO|apply aP
  case he=>exact dN I I
  case hR=>
   intro w' aB;exact aC v' trivial (by exact .h1 .nil) aB I
theorem Oi (l:List Sr):il l=(vV l).flatten:=rfl
theorem H7 {l:List Sr} (h:Rd w lv 2 (vV l)) (hl:l.length<=1000) :
  a8 T_ 266 [lv] w [] (fun _:Value=>True) id (fun v=>[row 186 2 v l.length (il l)]):=by
 have h':=h;obtain ⟨a,cp,b,o,rfl,dC,ch,ha,hc⟩:=h;refine aS func266 I I ?_;cases a with
 | none =>
  have nX:l=[]:=by
   cases l with
   | nil=>rfl
   | cons x r=>exact absurd (ha (by simp [vV])) (by simp)
  subst nX
  (refine Jr<|Ja I<|Jn<|Jq<|Jr<|Jv I<|ab (iq (.of I) (.of I)) I<|Jn<|c5 (.of I)<|Jr<|Ja I<|Jn<|Ju ?_)
  refine aJ 186 2 ?_
  with_reducible first|apply aO|apply aP
  case he=>exact dN I I
  case hR=>
   intro w' aB;exact aC (.z) trivial (by exact .h1 .nil) aB I
 | some ad =>
  (refine Jr<|Ja I<|Jn<|Jq<|Jr<|Jv I<|ab (iq (.of I) (.of I)) I<|Jn<|cd (.of I)<|Jk<|Jr ?_)
  with_reducible apply bh
  case hr=>exact lF
  case hd=>rfl
  intro bq mV;refine Q8 I I ?_;refine bP (g:=bq) (E:=186) (ys:=[]) 0 2 (by exact .here) I I I ?_
  with_reducible apply eX
  case hx=>exact Is.of I
  case hy=>exact Is.of I
  case ht=>exact .here
  case hsrc=>exact fun w' aB=>h'.keeps aB.keeps
  case h1=>exact FV l
  case hz=>exact I
  case hsz=>exact I
  case hb0=>exact I
  case hb=>rw [cG];omega
  case hd=>rfl
  intro v';rw [cG,ZF,Za,<- Oi];refine Ja I<|Jn<|Je ?_
  with_reducible first|apply aO|apply aP
  case he=>exact dN I I
  case hR=>
   intro w' aB;exact aC v' trivial (by exact .h1 .nil) aB I
theorem Qh (l:List De):gm l=(vG l).flatten:=rfl
theorem H9 {l:List De} (h:Rd w lv 3 (vG l)) (hl:l.length<=1000) :
  a8 T_ 267 [lv] w [] (fun _:Value=>True) id (fun v=>[row 90 3 v l.length (gm l)]):=by
 have h':=h;obtain ⟨a,cp,b,o,rfl,dC,ch,ha,hc⟩:=h;refine aS func267 I I ?_;cases a with
 | none =>
  have nX:l=[]:=by
   cases l with
   | nil=>rfl
   | cons x r=>exact absurd (ha (by simp [vG])) (by simp)
  subst nX
  (refine Jr<|Ja I<|Jn<|Jq<|Jr<|Jv I<|ab (iq (.of I) (.of I)) I<|Jn<|c5 (.of I)<|Jr<|Ja I<|Jn<|Ju ?_)
  refine aJ 90 3 ?_
  with_reducible first|apply aO|apply aP
  case he=>exact dN I I
  case hR=>
   intro w' aB;exact aC (.z) trivial (by exact .h1 .nil) aB I
 | some ad =>
  (refine Jr<|Ja I<|Jn<|Jq<|Jr<|Jv I<|ab (iq (.of I) (.of I)) I<|Jn<|cd (.of I)<|Jk<|Jr ?_)
  with_reducible apply bh
  case hr=>exact lF
  case hd=>rfl
  intro bq mV;refine Q8 I I ?_;refine bP (g:=bq) (E:=90) (ys:=[]) 0 3 (by exact .here) I I I ?_
  with_reducible apply eX
  case hx=>exact Is.of I
  case hy=>exact Is.of I
  case ht=>exact .here
  case hsrc=>exact fun w' aB=>h'.keeps aB.keeps
  case h1=>exact GL l
  case hz=>exact I
  case hsz=>exact I
  case hb0=>exact I
  case hb=>rw [bY];omega
  case hd=>rfl
  intro v';rw [bY,ZF,Za,<- Qh];refine Ja I<|Jn<|Je ?_
  with_reducible first|apply aO|apply aP
  case he=>exact dN I I
  case hR=>
   intro w' aB;exact aC v' trivial (by exact .h1 .nil) aB I
theorem N3 (l:List Ti):iC l=(u7 l).flatten:=rfl
theorem H6 {l:List Ti} (h:Rd w lv 3 (u7 l)) (hl:l.length<=1000) :
  a8 T_ 268 [lv] w [] (fun _:Value=>True) id (fun v=>[row 187 3 v l.length (iC l)]):=by
 have h':=h;obtain ⟨a,cp,b,o,rfl,dC,ch,ha,hc⟩:=h;refine aS func268 I I ?_;cases a with
 | none =>
  have nX:l=[]:=by
   cases l with
   | nil=>rfl
   | cons x r=>exact absurd (ha (by simp [u7])) (by simp)
  subst nX
  (refine Jr<|Ja I<|Jn<|Jq<|Jr<|Jv I<|ab (iq (.of I) (.of I)) I<|Jn<|c5 (.of I)<|Jr<|Ja I<|Jn<|Ju ?_)
  refine aJ 187 3 ?_
  with_reducible first|apply aO|apply aP
  case he=>exact dN I I
  case hR=>
   intro w' aB;exact aC (.z) trivial (by exact .h1 .nil) aB I
 | some ad =>
  (refine Jr<|Ja I<|Jn<|Jq<|Jr<|Jv I<|ab (iq (.of I) (.of I)) I<|Jn<|cd (.of I)<|Jk<|Jr ?_)
  with_reducible apply bh
  case hr=>exact lF
  case hd=>rfl
  intro bq mV;refine Q8 I I ?_;refine bP (g:=bq) (E:=187) (ys:=[]) 0 3 (by exact .here) I I I ?_
  with_reducible apply eX
  case hx=>exact Is.of I
  case hy=>exact Is.of I
  case ht=>exact .here
  case hsrc=>exact fun w' aB=>h'.keeps aB.keeps
  case h1=>exact FQ l
  case hz=>exact I
  case hsz=>exact I
  case hb0=>exact I
  case hb=>rw [bS];omega
  case hd=>rfl
  intro v';rw [bS,ZF,Za,<- N3];refine Ja I<|Jn<|Je ?_
  with_reducible first|apply aO|apply aP
  case he=>exact dN I I
  case hR=>
   intro w' aB;exact aC v' trivial (by exact .h1 .nil) aB I
theorem AP (l:List Po):eF l=(uf l).flatten:=rfl
theorem O4 {l:List Sr} {g:Sr->ByteArray} [bN T_ f] {w:World} (h:Rd w lv 2 (vV l)) (hn:l.length<=1000000)
  (cV:∀ x∈l,∀ w',aI [] w w'->an T_ f (first++[.agg x.cells.toArray]++cap) w' (.string (g x))) :
  a8 T_ 140 [lv,.func (.func f) first.toArray cap.toArray] w [] (fun _:Value=>True) id (fun v=>[row 9 1 v l.length (aR (l.map g))]):=by
 obtain ⟨a,cp,b,o,rfl,dC,ch,ha,hc⟩:=h;rw [cG] at *;unfold maxLen at ch;refine aS func140 I I ?_;refine Jr<|Ja I<|Ji<|Ja I<|Jn<|Jq<|Jr<|Jv I<|JI I<|Jv I<|Jn<|J0 ?_;refine aJ 9 1 ?_;refine aV (ι:=Nat×Value) (fun x=>x.1<=l.length) (fun x=>[(10,.int .i64 x.1),(9,.int .i64 l.length),(8,.slice a l.length cp),(5,x.2),(1,.func (.func f) first.toArray cap.toArray)]) (fun x=>[row 9 1 x.2 x.1 (aR ((l.take x.1).map g))]) (fun x=>l.length-x.1) ?_ ?_
 ·apply aH (0,.z) (Zi _)
  case hs1=>exact bT
  case ht=>
   exact .h1 .nil
 rintro ⟨k,v⟩ hk;dsimp only at hk ⊢;by_cases aL:k<l.length
 ·have cY:=ha (iD aL);have aF:=(hc k _ (fW aL)).2;have iZ:=cV _ (Zj aL);have LB:aR ((l.take (k+1)).map g)=aR ((l.take k).map g)++[.string (g l[k])]:=by
   rw [Zm aL,Zy,eU];rfl
  generalize g l[k]=gk at iZ LB;unfold Sr.cells at aF iZ
  (refine Jr<|JA I<|Jn<|Jq<|Jd I fun aA=>Jk<|Jq<|J0<|Jr<|ab (gE cY aA) I<|ab (ja (fo.base aF I)) I<|Jz I I fun _ _=>ak (.of I) (.of I) .here I I (ix I I) (br I) ai<|Jn<|Jg<|Jv I<|Jv I<|ab (bU .here) I ?_)
  refine ah bJ I (fun w' aB=>(iZ w' (Mem.keeps aB))) ?_;refine bh (aD (.o I .nil) I I I I) I (fun _ _=>?_);refine bA (.of I) (.of I) bE .here ai (by rfl) (dE I) (by rfl) (by rfl) (by rfl) eC (by rfl) ?_;intro v';refine Ja I<|Jx<|Jj<|Jt<|Jg<|JB I (by omega)<|Jv I<|Jn ?_;apply aG (k+1,v') (by show k+1<=l.length;omega) (by show l.length-(k+1)<l.length-k;omega)
  case hs1=>exact bT
  case ht=>
   show bj _ [row 9 1 v' (k+1) (aR ((l.take (k+1)).map g))] _;rw [LB];exact .h1 .nil
 ·obtain rfl:k=l.length:=by omega
  rw [ZL];refine Jr<|JA I<|Jn<|Jq<|Jc I fun aA=>Jp<|Jl<|Jo<|Jt<|Jr<|Jv I<|Ja I<|Jn<|Je ?_
  with_reducible first|apply aO|apply aP
  case he=>exact dN I I
  case hR=>
   intro w' aB;exact aC v trivial (by exact .h1 .nil) aB I
theorem Gc {l:List De} {g:De->ByteArray} [bN T_ f] {w:World} (h:Rd w lv 3 (vG l)) (hn:l.length<=1000000)
  (cV:∀ x∈l,∀ w',aI [] w w'->an T_ f (first++[.agg x.cells.toArray]++cap) w' (.string (g x))) :
  a8 T_ 143 [lv,.func (.func f) first.toArray cap.toArray] w [] (fun _:Value=>True) id (fun v=>[row 9 1 v l.length (aR (l.map g))]):=by
 obtain ⟨a,cp,b,o,rfl,dC,ch,ha,hc⟩:=h;rw [bY] at *;unfold maxLen at ch;refine aS func143 I I ?_;refine Jr<|Ja I<|Ji<|Ja I<|Jn<|Jq<|Jr<|Jv I<|JI I<|Jv I<|Jn<|J0 ?_;refine aJ 9 1 ?_;refine aV (ι:=Nat×Value) (fun x=>x.1<=l.length) (fun x=>[(10,.int .i64 x.1),(9,.int .i64 l.length),(8,.slice a l.length cp),(5,x.2),(1,.func (.func f) first.toArray cap.toArray)]) (fun x=>[row 9 1 x.2 x.1 (aR ((l.take x.1).map g))]) (fun x=>l.length-x.1) ?_ ?_
 ·apply aH (0,.z) (Zi _)
  case hs1=>exact bT
  case ht=>
   exact .h1 .nil
 rintro ⟨k,v⟩ hk;dsimp only at hk ⊢;by_cases aL:k<l.length
 ·have cY:=ha (ij aL);have aF:=(hc k _ (fM aL)).2;have iZ:=cV _ (Zj aL);have LB:aR ((l.take (k+1)).map g)=aR ((l.take k).map g)++[.string (g l[k])]:=by
   rw [Zm aL,Zy,eU];rfl
  generalize g l[k]=gk at iZ LB;unfold De.cells at aF iZ
  (refine Jr<|JA I<|Jn<|Jq<|Jd I fun aA=>Jk<|Jq<|J0<|Jr<|ab (gE cY aA) I<|ab (ja (fo.base aF I)) I<|Jz I I fun _ _=>ak (.of I) (.of I) .here I I (fc I I I) (br I) ai<|Jn<|Jg<|Jv I<|Jv I<|ab (bU .here) I ?_)
  refine ah bJ I (fun w' aB=>(iZ w' (Mem.keeps aB))) ?_;refine bh (aD (.o I .nil) I I I I) I (fun _ _=>?_);refine bA (.of I) (.of I) bE .here ai (by rfl) (dE I) (by rfl) (by rfl) (by rfl) eC (by rfl) ?_;intro v';refine Ja I<|Jx<|Jj<|Jt<|Jg<|JB I (by omega)<|Jv I<|Jn ?_;apply aG (k+1,v') (by show k+1<=l.length;omega) (by show l.length-(k+1)<l.length-k;omega)
  case hs1=>exact bT
  case ht=>
   show bj _ [row 9 1 v' (k+1) (aR ((l.take (k+1)).map g))] _;rw [LB];exact .h1 .nil
 ·obtain rfl:k=l.length:=by omega
  rw [ZL];refine Jr<|JA I<|Jn<|Jq<|Jc I fun aA=>Jp<|Jl<|Jo<|Jt<|Jr<|Jv I<|Ja I<|Jn<|Je ?_
  with_reducible first|apply aO|apply aP
  case he=>exact dN I I
  case hR=>
   intro w' aB;exact aC v trivial (by exact .h1 .nil) aB I
theorem O3 {l:List Ti} {g:Ti->ByteArray} [bN T_ f] {w:World} (h:Rd w lv 3 (u7 l)) (hn:l.length<=1000000)
  (cV:∀ x∈l,∀ w',aI [] w w'->an T_ f (first++[.agg x.cells.toArray]++cap) w' (.string (g x))) :
  a8 T_ 178 [lv,.func (.func f) first.toArray cap.toArray] w [] (fun _:Value=>True) id (fun v=>[row 9 1 v l.length (aR (l.map g))]):=by
 obtain ⟨a,cp,b,o,rfl,dC,ch,ha,hc⟩:=h;rw [bS] at *;unfold maxLen at ch;refine aS func178 I I ?_;refine Jr<|Ja I<|Ji<|Ja I<|Jn<|Jq<|Jr<|Jv I<|JI I<|Jv I<|Jn<|J0 ?_;refine aJ 9 1 ?_;refine aV (ι:=Nat×Value) (fun x=>x.1<=l.length) (fun x=>[(10,.int .i64 x.1),(9,.int .i64 l.length),(8,.slice a l.length cp),(5,x.2),(1,.func (.func f) first.toArray cap.toArray)]) (fun x=>[row 9 1 x.2 x.1 (aR ((l.take x.1).map g))]) (fun x=>l.length-x.1) ?_ ?_
 ·apply aH (0,.z) (Zi _)
  case hs1=>exact bT
  case ht=>
   exact .h1 .nil
 rintro ⟨k,v⟩ hk;dsimp only at hk ⊢;by_cases aL:k<l.length
 ·have cY:=ha (fq aL);have aF:=(hc k _ (ep aL)).2;have iZ:=cV _ (Zj aL);have LB:aR ((l.take (k+1)).map g)=aR ((l.take k).map g)++[.string (g l[k])]:=by
   rw [Zm aL,Zy,eU];rfl
  generalize g l[k]=gk at iZ LB;unfold Ti.cells at aF iZ
  (refine Jr<|JA I<|Jn<|Jq<|Jd I fun aA=>Jk<|Jq<|J0<|Jr<|ab (gE cY aA) I<|ab (ja (fo.base aF I)) I<|Jz I I fun _ _=>ak (.of I) (.of I) .here I I (fc I I I) (br I) ai<|Jn<|Jg<|Jv I<|Jv I<|ab (bU .here) I ?_)
  refine ah bJ I (fun w' aB=>(iZ w' (Mem.keeps aB))) ?_;refine bh (aD (.o I .nil) I I I I) I (fun _ _=>?_);refine bA (.of I) (.of I) bE .here ai (by rfl) (dE I) (by rfl) (by rfl) (by rfl) eC (by rfl) ?_;intro v';refine Ja I<|Jx<|Jj<|Jt<|Jg<|JB I (by omega)<|Jv I<|Jn ?_;apply aG (k+1,v') (by show k+1<=l.length;omega) (by show l.length-(k+1)<l.length-k;omega)
  case hs1=>exact bT
  case ht=>
   show bj _ [row 9 1 v' (k+1) (aR ((l.take (k+1)).map g))] _;rw [LB];exact .h1 .nil
 ·obtain rfl:k=l.length:=by omega
  rw [ZL];refine Jr<|JA I<|Jn<|Jq<|Jc I fun aA=>Jp<|Jl<|Jo<|Jt<|Jr<|Jv I<|Ja I<|Jn<|Je ?_
  with_reducible first|apply aO|apply aP
  case he=>exact dN I I
  case hR=>
   intro w' aB;exact aC v trivial (by exact .h1 .nil) aB I
theorem P0 (n:Nat) (hn:n<=1000) (w:World):a8 T_ 235 [.z,.q (n:Int)] w [] (fun _:Value=>True) id (fun v=>[row 9 1 v 0 []]):=by
 refine aS func235 I I ?_
 (refine Jr<|Ja I<|Jn<|Jq<|Jr<|Jv I<|JA I<|Jn<|Jc I fun aA=>Jk<|Jq<|Jr<|Jv I<|Jv I<|ab (r5 (.of I)) I<|Jv I<|JI I<|JS I (by omega)<|JS I (by omega)<|Ja I<|Ji<|Jv I<|JE I<|Jn<|gL I (fun aA=>?_) fun aA=>?_;refine Jg<|Jv I<|Jv I<|ab (r5 (.of I)) I<|ab (hY (.of I) (.of I) (by omega) (by omega)) I<|Jv I ?_;rotate_left;refine Jk<|Jr<|Jv I<|Ja I<|Jn<|Je ?_;rotate_right)
 ·rw [show (n:Int)-(((0:Nat):Int)-((0:Nat):Int))=(n:Int) by omega]
  with_reducible apply Ea
  case hx=>exact Is.of I
  case hy=>exact Is.of I
  case h0=>omega
  case hz=>exact I
  case hsz=>exact I
  case hb0=>exact I
  case hb=>omega
  case hd=>rfl
  intro v';refine cm (E:=9) (sz:=1) (by exact .here) (by omega) fun g iv cur e oP Dd Da EU=>?_;subst e
  (refine Jv I<|JI I<|ab (hY (.of I) (.of I) (by omega) (by omega)) I<|Ja I<|Ji<|Jv I<|Ja I<|Jn<|Je ?_)
  rw [show Go.sliced (some ⟨g,0,none⟩) 0 (((0:Nat):Int)).toNat iv 1=.w g 0 iv from Cq g iv 1]
  skip
  generalize hA:_++cur=al at Da ⊢;refine ct (n:=0) (xs:=[]) (cur:=al) (cap:=iv) (g:=g) (E:=9) (sz:=1) (by rw [Za];exact .here) (Zi _) Dd Da I ?_
  with_reducible first|apply aO|apply aP
  case he=>exact dN I I
  case hR=>
   intro w' aB;exact aC (.w g 0 iv) trivial (by exact .h1 .nil) aB I
 ·refine aJ 9 1 ?_
  with_reducible first|apply aO|apply aP
  case he=>exact dN I I
  case hR=>
   intro w' aB;exact aC (.z) trivial (by exact .h1 .nil) aB I
theorem Oe (a b:List ByteArray):fN (a++b)=fN a++fN b:=by simp [fN]
theorem tj {α:Type} {l:List (List α)} (h:k<l.length):(l.take (k+1)).flatten=(l.take k).flatten++l[k]:=by
 rw [List.take_add_one,Zc h,Zag];simp
theorem GB {α:Type} (l:List (List α)) (k:Nat):(l.take k).flatten.length<=l.flatten.length:=by
 conv=>rhs;rw [<- ZX k l]
 rw [Zag,Zg];omega
theorem Cr {α:Type} {l:List α} (h:k<l.length):(l.map fun v=>[v])[k]? = some [l[k]]:=by simp [h]
theorem H4 {vs:List Value} {ess:List (List ByteArray)} (h:Rd w lv 1 (vs.map fun v=>[v])) (hl:vs.length=ess.length) (hr:∀ (i:Nat) (v:Value) (es:List ByteArray),vs[i]? = some v->ess[i]? = some es->Rd w v 1 (fN es)) (hn:ess.flatten.length<=1000) :
  a8 T_ 142 [lv] w [] (fun _:Value=>True) id (fun v=>[row 9 1 v ess.flatten.length (fN ess.flatten).flatten]):=by
 obtain ⟨a,cp,b,o,rfl,dC,ch,ha,hc⟩:=h;rw [Zd] at *;unfold maxLen at ch;refine aS func142 I I ?_;refine Jr<|Ja I<|Ji<|Ja I<|Jn<|Jq<|Jr<|Jv I<|JI I<|Jv I<|Jn<|J0 ?_;refine aV (ι:=Nat) (fun k=>k<=vs.length) (fun k=>[(11,.int .i64 k),(10,.int .i64 vs.length),(9,.slice a vs.length cp),(0,.slice a vs.length cp),(3,.int .i64 (((ess.take k).flatten.length:Nat):Int))]) (fun _=>[]) (fun k=>vs.length-k) ?_ ?_
 ·apply aH (0:Nat) (show (0:Nat)<=vs.length from Zi _)
  case hs1=>exact bT
  case ht=>(try simp only [Ze,Zf,Za]);exact .nil
 intro k hk;by_cases aL:k<vs.length
 ·have fT:k<ess.length:=by omega
  have cY:=ha (by intro e;have:=congrArg List.length e;simp at this;subst this;simp at aL);have Wx:=hr k _ _ (Zc aL) (Zc fT);obtain ⟨a1,ew,b1,o1,e1,_⟩:=Wx;rw [bG] at e1;have c0:w.cell? ⟨b,o+k*1,none⟩=some (.slice a1 ess[k].length ew):=by rw [<- e1];exact (hc k _ (Cr aL)).2 0 _ I
  have uz:=GB ess (k+1);have hs:((ess.take (k+1)).flatten.length:Int)=(ess.take k).flatten.length+ess[k].length:=by rw [tj fT,Zg];omega
  (refine Jr<|JA I<|Jn<|Jq<|Jd I fun aA=>Jk<|Jq<|J0<|Jr<|ab (gE cY aA) I<|ab (ag (.of I) (At.base c0 I)) I<|Ja I<|Ji<|Jv I<|Jv I<|JI I<|JB I (by omega)<|Ja I<|Ji<|Jv I<|JA I<|Jn<|Jc I fun aA=>Jw<|Jj<|Jt<|Jg<|JB I (by omega)<|Jv I<|Jn ?_)
  apply aG (k+1) (show k+1<=vs.length by omega) (show vs.length-(k+1)<vs.length-k by omega)
  case hs1=>
   rw [hs];exact .cons I (.cons I (.cons I (.cons I (.cons I .nil))))
  case ht=>exact .nil
 ·obtain rfl:k=vs.length:=by omega
  rw [show ess.take vs.length=ess by rw [hl,ZL]];refine Jr<|JA I<|Jn<|Jq<|Jc I fun aA=>Jp<|Jl<|Jo<|Jt<|Jr<|Jv I ?_;refine JN bn I (fun w1 aT=>P0 _ hn _) ?_;intro v0 _;dsimp only [id_eq,Zb,Za];refine Ja I<|Jn<|Jq<|Jr<|Jv I<|JI I<|Jv I<|Jn<|J0 ?_;refine aV (ι:=Nat×Value) (fun x=>x.1<=vs.length) (fun x=>[(27,.q x.1),(26,.q vs.length),(25,.slice a vs.length cp),(6,x.2)]) (fun x=>[row 9 1 x.2 (ess.take x.1).flatten.length (fN (ess.take x.1).flatten).flatten]) (fun x=>vs.length-x.1) ?_ ?_
  ·apply aH (0,v0) (Zi _)
   case hs1=>exact bT
   case ht=>
    exact .h1 .nil
  rintro ⟨k,v⟩ hk;dsimp only at hk ⊢;by_cases aL:k<vs.length
  ·have fT:k<ess.length:=by omega
   have cY:=ha (by intro e;have:=congrArg List.length e;simp at this;subst this;simp at aL);have Wx:=hr k _ _ (Zc aL) (Zc fT);have aaU:=Wx;obtain ⟨a1,ew,b1,o1,e1,_⟩:=aaU;rw [bG] at e1;rw [e1] at Wx;have c0:w.cell? ⟨b,o+k*1,none⟩=some (.slice a1 ess[k].length ew):=by rw [<- e1];exact (hc k _ (Cr aL)).2 0 _ I
   have uz:=GB ess (k+1);have hs:(ess.take (k+1)).flatten.length=(ess.take k).flatten.length+ess[k].length:=by rw [tj fT,Zg]
   (refine Jr<|JA I<|Jn<|Jq<|Jd I fun aA=>Jk<|Jq<|J0<|Jr<|ab (gE cY aA) I<|ab (ag (.of I) (At.base c0 I)) I<|Ja I<|Jn<|Jg<|Jv I<|Jv I ?_)
   with_reducible apply eX
   case hx=>exact Is.of I
   case hy=>exact Is.of I
   case ht=>exact .here
   case hsrc=>exact fun w' aB=>Wx.keeps aB.keeps
   case h1=>exact u9 _
   case hz=>exact I
   case hsz=>exact I
   case hb0=>exact I
   case hb=>rw [bG];omega
   case hd=>rfl
   intro v';rw [bG];refine Ja I<|Jx<|Jj<|Jt<|Jg<|JB I (by omega)<|Jv I<|Jn ?_;apply aG (k+1,v') (show k+1<=vs.length by omega) (show vs.length-(k+1)<vs.length-k by omega)
   case hs1=>exact bT
   case ht=>
    show bj _ [row 9 1 v' (ess.take (k+1)).flatten.length (fN (ess.take (k+1)).flatten).flatten] _;rw [hs,tj fT,Oe,Zag];exact .h1 .nil
  ·obtain rfl:k=vs.length:=by omega
   have xV:vs.length=ess.length:=hl;rw [xV,ZL];refine Jr<|JA I<|Jn<|Jq<|Jc I fun aA=>Jp<|Jl<|Jo<|Jt<|Jr<|Jv I<|Ja I<|Jn<|Je ?_
   with_reducible first|apply aO|apply aP
   case he=>exact dN I I
   case hR=>
    intro w' aB;exact aC v trivial (by exact .h1 .nil) aB I
theorem Rd.one {v:Value} {sz:Nat} {xs:List (List Value)} (h:Rd w v sz xs):v.oneCell'=true:=by
 obtain ⟨a,cap,b,o,rfl,_⟩:=h;rfl
def yk {α:Type} (bf:List ByteArray) (nm:α->ByteArray) (ck:α->Int) (l:List α) (k:Nat):Int:=(l[k]?.map fun x=>aY [bL (!jm (nm x)) 8,bL (eZ (bf++(l.take k).map nm) (nm x)) 9,ck x]).getD 0
def fJ {α:Type} (rj:Int) (bf:List ByteArray) (nm:α->ByteArray) (ck:α->Int) (l:List α):Int:=if rj<(l.length:Int) then 5 else kA (yk bf nm ck l) l.length
theorem RR.one {s d t p:Value} (h:RR w r s d t p):s.oneCell'=true/\d.oneCell'=true/\t.oneCell'=true/\p.oneCell'=true:=⟨Rd.one h.sr,Rd.one h.de,Rd.one h.ti,Rd.one h.po⟩
theorem pB {α:Type} {nm:α->ByteArray} {ck:α->Int} {l:List α} (h:k<l.length):yk bf nm ck l k=aY [bL (!jm (nm l[k])) 8,bL (eZ (bf++(l.take k).map nm) (nm l[k])) 9,ck l[k]]:=by
 unfold yk;rw [Zc h];rfl
def fL (r:Ro) (m:Int):Int:=bL (decide (m<0)||decide (r.ma<=m)) 10
theorem Gq {s d t p:Value} (m:Int) {w w1:World} (h:RR w1 r s d t p):an T_ 136 [RA r s d t p,.q m] w (.q (fL r m)):=by
 obtain ⟨h1,h2,h3,h4⟩:=h.one;unfold RA;refine aj func136 I I ?_
 (refine Jr<|Jy I I fun _ _=>Ja I<|Ji<|Jv I<|JA I<|Jv I<|jZ I I I I<|aM I I (fun hg bH=>(ar (.of I) ae)) I<|aM I I (fun hg bH=>(ag (.bW hg I) (At.lit .here I))) I<|aM I I (fun hg bH=>(AF (.bW hg I) (.bW hg I))) I<|ab (bV (.of I) I) I<|ah bn I (fun w' aB=>(ef _ 10 w'))<|Ja I<|Jn<|Je<|JT ?_)
 rfl
theorem K5 (x:Sr) (w:World):an T_ 139 [.agg x.cells.toArray] w (.string x.nm):=by
 unfold Sr.cells;refine aj func139 I I ?_
 (refine Jr<|Jy I I fun _ _=>Ja I<|Ji<|bD I I ae<|JL I .here I<|Ja I<|Jn<|Je<|JT ?_)
 rfl
theorem EF (x:De) (w:World):an T_ 124 [.agg x.cells.toArray] w (.string x.nm):=by
 unfold De.cells;refine aj func124 I I ?_
 (refine Jr<|Jy I I fun _ _=>Ja I<|Ji<|bD I I ae<|JL I .here I<|Ja I<|Jn<|Je<|JT ?_)
 rfl
theorem K4 (x:Ti) (w:World):an T_ 119 [.agg x.cells.toArray] w (.string x.nm):=by
 unfold Ti.cells;refine aj func119 I I ?_
 (refine Jr<|Jy I I fun _ _=>Ja I<|Ji<|bD I I ae<|JL I .here I<|Ja I<|Jn<|Je<|JT ?_)
 rfl
set_option maxHeartbeats 1000000 in
theorem DE {l:List Sr} (rj:Int) {ck:Sr->Int} {f1 f2:FuncId} {first2 cap:List Value} [bN T_ f1] [bN T_ f2] {w:World} (h:Rd w lv 2 (vV l)) (hb:Rd w bv 1 (fN bf)) (hn:bf.length+l.length<=1000)
  (xh:∀ x∈l,∀ w',aI [] w w'->an T_ f1 [.agg x.cells.toArray] w' (.string x.nm)) (xg:∀ x∈l,∀ w',aI [] w w'->an T_ f2 (first2++[.agg x.cells.toArray]++cap) w' (.q (ck x))) :
  an T_ 138 [lv,.q rj,bv,.func (.func f1) #[] #[],.func (.func f2) first2.toArray cap.toArray] w (.q (fJ rj bf Sr.nm ck l)):=by
 obtain ⟨a,cp,b,o,rfl,dC,ch,ha,hc⟩:=h;rw [cG] at *;unfold maxLen at ch;unfold fJ;refine aj func138 I I ?_
 (refine Jr<|Ja I<|Jn<|Jq<|Jr<|Jv I<|JI I<|Jv I<|JE I<|Jn<|gL I (fun aA=>?_) fun aA=>?_;refine Jr<|Ja I<|Jn<|Ju<|JT ?_;rotate_left;refine Jk<|Jr<|Jv I ?_;rotate_right)
 ·rw [if_pos (by omega)]
 rw [if_neg (by omega)];refine JN bJ I (fun w1 aT=>xC (hb.keeps aT.keeps) (by omega)) ?_;intro v0 _;dsimp only [id_eq,Zb,Za];refine Ja I<|Jn<|Jq<|Jr<|Jv I<|JI I<|Jv I<|Jn<|J0 ?_;refine aV (ι:=Nat×Value) (fun x=>x.1<=l.length/\∀ i,i<x.1->yk bf Sr.nm ck l i=0) (fun x=>[(24,.q x.1),(23,.q l.length),(22,.slice a l.length cp),(11,x.2),(3,.func (.func f1) #[] #[]),(4,.func (.func f2) first2.toArray cap.toArray)]) (fun x=>[row 9 1 x.2 (bf++(l.take x.1).map Sr.nm).length (aR (bf++(l.take x.1).map Sr.nm))]) (fun x=>l.length-x.1) ?_ ?_
 ·apply aH (0,v0) ⟨Zi _,fun i hi=>absurd hi (ZV _)⟩
  case hs1=>exact bT
  case ht=>
   rw [show bf++(l.take 0).map Sr.nm=bf by simp];exact .h1 .nil
 rintro ⟨k,v⟩ ⟨hk,hf⟩;dsimp only at hk hf ⊢;by_cases aL:k<l.length
 ·have cY:=ha (iD aL);have aF:=(hc k _ (fW aL)).2;have zx:=xh _ (Zj aL);have fP:=xg _ (Zj aL);have hE:=pB (bf:=bf) (nm:=Sr.nm) (ck:=ck) aL;have htk:bf++(l.take (k+1)).map Sr.nm=(bf++(l.take k).map Sr.nm)++[(l[k]).nm]:=by
   rw [Zm aL,Zy,Zh];rfl
  have hlen:(bf++(l.take k).map Sr.nm).length=bf.length+k:=by
   rw [Zg,Zd,Zs];omega
  have LX:∀ (w':World),Rd w' v 1 (fN (bf++(l.take k).map Sr.nm))->an T_ 179 [v,.string (l[k]).nm] w' (.bool (eZ (bf++(l.take k).map Sr.nm) (l[k]).nm)):=fun w' hr=>pZ _ hr
  generalize hB:bf++(l.take k).map Sr.nm=B at hE htk hlen LX ⊢;have vw:B.length=B.length:=rfl;generalize l[k]=x at aF zx fP hE htk LX;have bb:aR (B++[x.nm])=aR B++[.string x.nm]:=by rw [eU];rfl
  have LD:(B++[x.nm]).length=B.length+1:=by simp
  unfold Sr.cells at aF zx fP
  (refine Jr<|JA I<|Jn<|Jq<|Jd I fun aA=>Jk<|Jq<|J0<|Jr<|ab (gE cY aA) I<|ab (ja (fo.base aF I)) I<|Jz I I fun _ _=>ak (.of I) (.of I) .here I I (ix I I) (br I) ai<|Ji<|Jv I<|ab (bU .here) I<|ah bJ I (fun w' aB=>(zx w' (Mem.keeps aB)))<|Ja I<|Jn<|Jq<|Jq ?_)
  with_reducible refine db 12 (by kernel_rfl) ?_
  (refine az mw I<|aZ bJ I (fun w' aB=>(AY _ w'))<|az (fu (.of I)) I<|aZ bn I (fun w' aB=>(ef _ 8 w'))<|az mw I<|az mw I<|aZ bn I (fun w' aB=>(LX w' (ez aB (.there .here) vw)))<|aZ bn I (fun w' aB=>(ef _ 9 w'))<|az mw I<|az (bU .here) I<|aZ bJ I (fun w' aB=>(fP w' (Mem.keeps aB)))<|eM (aD (.o I (.o I (.o I .nil))) I I I I) I I ?_)
  with_reducible refine dI I fun bq mV=>?_
  (refine ah bJ I (fun w' aB=>(dV (Mem.dy aB .here I I) (cr.cons (cr.cons (cr.cons cr.nil)))))<|Ja I<|Ji<|Jv I<|JD I<|Jn<|gL I (fun aA=>?_) fun aA=>?_;refine Jr<|Jv I<|Ja I<|Jn<|Ju<|Jm<|Jh<|Jh<|Jm<|Jh<|JT ?_;rotate_left;refine Jk<|Jg<|Jv I<|Jv I<|bh (aD (.o I .nil) I I I I) I fun _ _=>?_;rotate_right)
  ·rw [<- hE] at aA ⊢;rw [fV hf aL aA]
  have hz:yk bf Sr.nm ck l k=0:=by rw [hE];exact Zq.1 aA
  refine bA (.of I) (.of I) cI .here ai (by rfl) (dE I) (by rfl) (by rfl) (by rfl) eC (by rfl) ?_;intro v';refine Ja I<|Jx<|Jj<|Jt<|Jg<|JB I (by omega)<|Jv I<|Jn ?_;apply aG (k+1,v') ⟨show k+1<=l.length by omega,fun i hi=>by
   by_cases e:i=k
   ·rw [e];exact hz
   ·exact hf i (by omega)⟩ (show l.length-(k+1)<l.length-k by omega)
  case hs1=>exact bT
  case ht=>
   show bj _ [row 9 1 v' (bf++(l.take (k+1)).map Sr.nm).length (aR (bf++(l.take (k+1)).map Sr.nm))] _;rw [htk,bb,LD];exact .h1 .nil
 ·obtain rfl:k=l.length:=by omega
  refine Jr<|JA I<|Jn<|Jq<|Jc I fun aA=>Jp<|Jl<|Jo<|Jt<|Jr<|Ja I<|Jn<|Je<|JT ?_;rw [eK.2 hf]
set_option maxHeartbeats 1000000 in
theorem DF {l:List De} (rj:Int) {ck:De->Int} {f1 f2:FuncId} {first2 cap:List Value} [bN T_ f1] [bN T_ f2] {w:World} (h:Rd w lv 3 (vG l)) (hb:Rd w bv 1 (fN bf)) (hn:bf.length+l.length<=1000)
  (xh:∀ x∈l,∀ w',aI [] w w'->an T_ f1 [.agg x.cells.toArray] w' (.string x.nm)) (xg:∀ x∈l,∀ w',aI [] w w'->an T_ f2 (first2++[.agg x.cells.toArray]++cap) w' (.q (ck x))) :
  an T_ 141 [lv,.q rj,bv,.func (.func f1) #[] #[],.func (.func f2) first2.toArray cap.toArray] w (.q (fJ rj bf De.nm ck l)):=by
 obtain ⟨a,cp,b,o,rfl,dC,ch,ha,hc⟩:=h;rw [bY] at *;unfold maxLen at ch;unfold fJ;refine aj func141 I I ?_
 (refine Jr<|Ja I<|Jn<|Jq<|Jr<|Jv I<|JI I<|Jv I<|JE I<|Jn<|gL I (fun aA=>?_) fun aA=>?_;refine Jr<|Ja I<|Jn<|Ju<|JT ?_;rotate_left;refine Jk<|Jr<|Jv I ?_;rotate_right)
 ·rw [if_pos (by omega)]
 rw [if_neg (by omega)];refine JN bJ I (fun w1 aT=>xC (hb.keeps aT.keeps) (by omega)) ?_;intro v0 _;dsimp only [id_eq,Zb,Za];refine Ja I<|Jn<|Jq<|Jr<|Jv I<|JI I<|Jv I<|Jn<|J0 ?_;refine aV (ι:=Nat×Value) (fun x=>x.1<=l.length/\∀ i,i<x.1->yk bf De.nm ck l i=0) (fun x=>[(24,.q x.1),(23,.q l.length),(22,.slice a l.length cp),(11,x.2),(3,.func (.func f1) #[] #[]),(4,.func (.func f2) first2.toArray cap.toArray)]) (fun x=>[row 9 1 x.2 (bf++(l.take x.1).map De.nm).length (aR (bf++(l.take x.1).map De.nm))]) (fun x=>l.length-x.1) ?_ ?_
 ·apply aH (0,v0) ⟨Zi _,fun i hi=>absurd hi (ZV _)⟩
  case hs1=>exact bT
  case ht=>
   rw [show bf++(l.take 0).map De.nm=bf by simp];exact .h1 .nil
 rintro ⟨k,v⟩ ⟨hk,hf⟩;dsimp only at hk hf ⊢;by_cases aL:k<l.length
 ·have cY:=ha (ij aL);have aF:=(hc k _ (fM aL)).2;have zx:=xh _ (Zj aL);have fP:=xg _ (Zj aL);have hE:=pB (bf:=bf) (nm:=De.nm) (ck:=ck) aL;have htk:bf++(l.take (k+1)).map De.nm=(bf++(l.take k).map De.nm)++[(l[k]).nm]:=by
   rw [Zm aL,Zy,Zh];rfl
  have hlen:(bf++(l.take k).map De.nm).length=bf.length+k:=by
   rw [Zg,Zd,Zs];omega
  have LX:∀ (w':World),Rd w' v 1 (fN (bf++(l.take k).map De.nm))->an T_ 179 [v,.string (l[k]).nm] w' (.bool (eZ (bf++(l.take k).map De.nm) (l[k]).nm)):=fun w' hr=>pZ _ hr
  generalize hB:bf++(l.take k).map De.nm=B at hE htk hlen LX ⊢;have vw:B.length=B.length:=rfl;generalize l[k]=x at aF zx fP hE htk LX;have bb:aR (B++[x.nm])=aR B++[.string x.nm]:=by rw [eU];rfl
  have LD:(B++[x.nm]).length=B.length+1:=by simp
  unfold De.cells at aF zx fP
  (refine Jr<|JA I<|Jn<|Jq<|Jd I fun aA=>Jk<|Jq<|J0<|Jr<|ab (gE cY aA) I<|ab (ja (fo.base aF I)) I<|Jz I I fun _ _=>ak (.of I) (.of I) .here I I (fc I I I) (br I) ai<|Ji<|Jv I<|ab (bU .here) I<|ah bJ I (fun w' aB=>(zx w' (Mem.keeps aB)))<|Ja I<|Jn<|Jq<|Jq ?_)
  with_reducible refine db 12 (by kernel_rfl) ?_
  (refine az mw I<|aZ bJ I (fun w' aB=>(AY _ w'))<|az (fu (.of I)) I<|aZ bn I (fun w' aB=>(ef _ 8 w'))<|az mw I<|az mw I<|aZ bn I (fun w' aB=>(LX w' (ez aB (.there .here) vw)))<|aZ bn I (fun w' aB=>(ef _ 9 w'))<|az mw I<|az (bU .here) I<|aZ bJ I (fun w' aB=>(fP w' (Mem.keeps aB)))<|eM (aD (.o I (.o I (.o I .nil))) I I I I) I I ?_)
  with_reducible refine dI I fun bq mV=>?_
  (refine ah bJ I (fun w' aB=>(dV (Mem.dy aB .here I I) (cr.cons (cr.cons (cr.cons cr.nil)))))<|Ja I<|Ji<|Jv I<|JD I<|Jn<|gL I (fun aA=>?_) fun aA=>?_;refine Jr<|Jv I<|Ja I<|Jn<|Ju<|Jm<|Jh<|Jh<|Jm<|Jh<|JT ?_;rotate_left;refine Jk<|Jg<|Jv I<|Jv I<|bh (aD (.o I .nil) I I I I) I fun _ _=>?_;rotate_right)
  ·rw [<- hE] at aA ⊢;rw [fV hf aL aA]
  have hz:yk bf De.nm ck l k=0:=by rw [hE];exact Zq.1 aA
  refine bA (.of I) (.of I) cI .here ai (by rfl) (dE I) (by rfl) (by rfl) (by rfl) eC (by rfl) ?_;intro v';refine Ja I<|Jx<|Jj<|Jt<|Jg<|JB I (by omega)<|Jv I<|Jn ?_;apply aG (k+1,v') ⟨show k+1<=l.length by omega,fun i hi=>by
   by_cases e:i=k
   ·rw [e];exact hz
   ·exact hf i (by omega)⟩ (show l.length-(k+1)<l.length-k by omega)
  case hs1=>exact bT
  case ht=>
   show bj _ [row 9 1 v' (bf++(l.take (k+1)).map De.nm).length (aR (bf++(l.take (k+1)).map De.nm))] _;rw [htk,bb,LD];exact .h1 .nil
 ·obtain rfl:k=l.length:=by omega
  refine Jr<|JA I<|Jn<|Jq<|Jc I fun aA=>Jp<|Jl<|Jo<|Jt<|Jr<|Ja I<|Jn<|Je<|JT ?_;rw [eK.2 hf]
set_option maxHeartbeats 1000000 in
theorem DD {l:List Ti} (rj:Int) {ck:Ti->Int} {f1 f2:FuncId} {first2 cap:List Value} [bN T_ f1] [bN T_ f2] {w:World} (h:Rd w lv 3 (u7 l)) (hb:Rd w bv 1 (fN bf)) (hn:bf.length+l.length<=1000)
  (xh:∀ x∈l,∀ w',aI [] w w'->an T_ f1 [.agg x.cells.toArray] w' (.string x.nm)) (xg:∀ x∈l,∀ w',aI [] w w'->an T_ f2 (first2++[.agg x.cells.toArray]++cap) w' (.q (ck x))) :
  an T_ 144 [lv,.q rj,bv,.func (.func f1) #[] #[],.func (.func f2) first2.toArray cap.toArray] w (.q (fJ rj bf Ti.nm ck l)):=by
 obtain ⟨a,cp,b,o,rfl,dC,ch,ha,hc⟩:=h;rw [bS] at *;unfold maxLen at ch;unfold fJ;refine aj func144 I I ?_
 (refine Jr<|Ja I<|Jn<|Jq<|Jr<|Jv I<|JI I<|Jv I<|JE I<|Jn<|gL I (fun aA=>?_) fun aA=>?_;refine Jr<|Ja I<|Jn<|Ju<|JT ?_;rotate_left;refine Jk<|Jr<|Jv I ?_;rotate_right)
 ·rw [if_pos (by omega)]
 rw [if_neg (by omega)];refine JN bJ I (fun w1 aT=>xC (hb.keeps aT.keeps) (by omega)) ?_;intro v0 _;dsimp only [id_eq,Zb,Za];refine Ja I<|Jn<|Jq<|Jr<|Jv I<|JI I<|Jv I<|Jn<|J0 ?_;refine aV (ι:=Nat×Value) (fun x=>x.1<=l.length/\∀ i,i<x.1->yk bf Ti.nm ck l i=0) (fun x=>[(24,.q x.1),(23,.q l.length),(22,.slice a l.length cp),(11,x.2),(3,.func (.func f1) #[] #[]),(4,.func (.func f2) first2.toArray cap.toArray)]) (fun x=>[row 9 1 x.2 (bf++(l.take x.1).map Ti.nm).length (aR (bf++(l.take x.1).map Ti.nm))]) (fun x=>l.length-x.1) ?_ ?_
 ·apply aH (0,v0) ⟨Zi _,fun i hi=>absurd hi (ZV _)⟩
  case hs1=>exact bT
  case ht=>
   rw [show bf++(l.take 0).map Ti.nm=bf by simp];exact .h1 .nil
 rintro ⟨k,v⟩ ⟨hk,hf⟩;dsimp only at hk hf ⊢;by_cases aL:k<l.length
 ·have cY:=ha (fq aL);have aF:=(hc k _ (ep aL)).2;have zx:=xh _ (Zj aL);have fP:=xg _ (Zj aL);have hE:=pB (bf:=bf) (nm:=Ti.nm) (ck:=ck) aL;have htk:bf++(l.take (k+1)).map Ti.nm=(bf++(l.take k).map Ti.nm)++[(l[k]).nm]:=by
   rw [Zm aL,Zy,Zh];rfl
  have hlen:(bf++(l.take k).map Ti.nm).length=bf.length+k:=by
   rw [Zg,Zd,Zs];omega
  have LX:∀ (w':World),Rd w' v 1 (fN (bf++(l.take k).map Ti.nm))->an T_ 179 [v,.string (l[k]).nm] w' (.bool (eZ (bf++(l.take k).map Ti.nm) (l[k]).nm)):=fun w' hr=>pZ _ hr
  generalize hB:bf++(l.take k).map Ti.nm=B at hE htk hlen LX ⊢;have vw:B.length=B.length:=rfl;generalize l[k]=x at aF zx fP hE htk LX;have bb:aR (B++[x.nm])=aR B++[.string x.nm]:=by rw [eU];rfl
  have LD:(B++[x.nm]).length=B.length+1:=by simp
  unfold Ti.cells at aF zx fP
  (refine Jr<|JA I<|Jn<|Jq<|Jd I fun aA=>Jk<|Jq<|J0<|Jr<|ab (gE cY aA) I<|ab (ja (fo.base aF I)) I<|Jz I I fun _ _=>ak (.of I) (.of I) .here I I (fc I I I) (br I) ai<|Ji<|Jv I<|ab (bU .here) I<|ah bJ I (fun w' aB=>(zx w' (Mem.keeps aB)))<|Ja I<|Jn<|Jq<|Jq ?_)
  with_reducible refine db 12 (by kernel_rfl) ?_
  (refine az mw I<|aZ bJ I (fun w' aB=>(AY _ w'))<|az (fu (.of I)) I<|aZ bn I (fun w' aB=>(ef _ 8 w'))<|az mw I<|az mw I<|aZ bn I (fun w' aB=>(LX w' (ez aB (.there .here) vw)))<|aZ bn I (fun w' aB=>(ef _ 9 w'))<|az mw I<|az (bU .here) I<|aZ bJ I (fun w' aB=>(fP w' (Mem.keeps aB)))<|eM (aD (.o I (.o I (.o I .nil))) I I I I) I I ?_)
  with_reducible refine dI I fun bq mV=>?_
  (refine ah bJ I (fun w' aB=>(dV (Mem.dy aB .here I I) (cr.cons (cr.cons (cr.cons cr.nil)))))<|Ja I<|Ji<|Jv I<|JD I<|Jn<|gL I (fun aA=>?_) fun aA=>?_;refine Jr<|Jv I<|Ja I<|Jn<|Ju<|Jm<|Jh<|Jh<|Jm<|Jh<|JT ?_;rotate_left;refine Jk<|Jg<|Jv I<|Jv I<|bh (aD (.o I .nil) I I I I) I fun _ _=>?_;rotate_right)
  ·rw [<- hE] at aA ⊢;rw [fV hf aL aA]
  have hz:yk bf Ti.nm ck l k=0:=by rw [hE];exact Zq.1 aA
  refine bA (.of I) (.of I) cI .here ai (by rfl) (dE I) (by rfl) (by rfl) (by rfl) eC (by rfl) ?_;intro v';refine Ja I<|Jx<|Jj<|Jt<|Jg<|JB I (by omega)<|Jv I<|Jn ?_;apply aG (k+1,v') ⟨show k+1<=l.length by omega,fun i hi=>by
   by_cases e:i=k
   ·rw [e];exact hz
   ·exact hf i (by omega)⟩ (show l.length-(k+1)<l.length-k by omega)
  case hs1=>exact bT
  case ht=>
   show bj _ [row 9 1 v' (bf++(l.take (k+1)).map Ti.nm).length (aR (bf++(l.take (k+1)).map Ti.nm))] _;rw [htk,bb,LD];exact .h1 .nil
 ·obtain rfl:k=l.length:=by omega
  refine Jr<|JA I<|Jn<|Jq<|Jc I fun aA=>Jp<|Jl<|Jo<|Jt<|Jr<|Ja I<|Jn<|Je<|JT ?_;rw [eK.2 hf]
end Go.Proofs.A1
namespace Go.SL
open Go
section
variable {P:Program} {c:Cx} {sl:aN} {hs:List bd} {dst:Option Tmp} {ty:TypeId} {pos:String} {af:Array Edge} {g:Option (Nat×Bool)}
variable {κ:Type} [DecidableEq κ] {kv:κ->Value} {kind:TypeDesc}
theorem Ep {t kt et:TypeId} {x y:Operand} {b:Nat} {k:κ} {l:List (κ×Value)} {z:Value} [hu:iI P t (.map kt et)] [HO:iI P kt kind] [hz:mA P et z] (hk:KeyLaw kind kv) (hx:Is sl x (.map (some b))) (hy:Is sl y (kv k)) (hl:Looks c hs b kv l) :
  du P c sl hs ⟨dst,.lookup t x y true,ty,pos,af,g⟩ (.tuple #[(eS k l).getD z,.bool (eS k l).isSome]):=
 ⟨by
   simp,fun a w ha hm=>by
  obtain ⟨es,ck,h1,h2⟩:=hl w hm;have hg:(getObj b).run P w=.ok (.map es ck) w:=by simp [getObj,Sem.run,h1]
  have BY:=hk.flat P kt es.isEmpty w k HO.eq;rcases findNow_spec hk k es.toList l 0 h2.eq with ⟨a1,a2⟩ | ⟨j,v,a1,a2,_⟩
  ·have:(Instr.findKey kt (kv k) es.toList).run P w=.ok none w:=by
    simp [Instr.findKey,aX HO.eq,a2]
   simp [execOp,hx a ha,hy a ha,Instr.lookup,aX hu.eq,hg,BY,this,a1,jf (t:=et) (v:=z)]
  ·have:(Instr.findKey kt (kv k) es.toList).run P w=.ok (some (0+j,v)) w:=by
    simp [Instr.findKey,aX HO.eq,a2]
   simp [execOp,hx a ha,hy a ha,Instr.lookup,aX hu.eq,hg,BY,this,a1]⟩
end
end Go.SL
namespace Go.Proofs.A1
open Go Go.SL
open Tryz
open Tryz renaming prog->T_
def kZ (a b c:Int):Value:=.agg #[.q a,.q b,.q c]
abbrev PM:=List (ByteArray×Value)
def xT (l:List Sr):Nat->PM
 | 0=>[]
 | k + 1 => match l[k]? with
  | some x=>nO x.nm (kZ (-1) (-1) x.mx) (xT l k)
  | none=>xT l k
def DW (m:PM) (l:List De):Nat->PM
 | 0=>m
 | k + 1 => match l[k]? with
  | some x=>nO x.nm (kZ (k:Nat) x.mx (-1)) (DW m l k)
  | none=>DW m l k
def Nn (m:PM) (n:Nat) (l:List Ti):Nat->PM
 | 0=>m
 | k + 1 => match l[k]? with
  | some x=>nO x.nm (kZ ((n:Int)+(k:Nat)) x.fr x.to) (Nn m n l k)
  | none=>Nn m n l k
def om (r:Ro):PM:=Nn (DW (xT r.sr r.sr.length) r.de r.de.length) r.de.length r.ti r.ti.length
variable {K:Nat} {d:Value} {k:Nat} {o:ByteArray} {p:Value} {po:List Po} {r:Ro} {s t:Value} {v:Int} {w w':World}
theorem KN {l:List Sr} (h:k<l.length):xT l (k+1)=nO (l[k]).nm (kZ (-1) (-1) (l[k]).mx) (xT l k):=by rw [xT,Zc h]
theorem KO {m:PM} {l:List De} (h:k<l.length):DW m l (k+1)=nO (l[k]).nm (kZ (k:Nat) (l[k]).mx (-1)) (DW m l k):=by rw [DW,Zc h]
theorem KM {m:PM} {n:Nat} {l:List Ti} (h:k<l.length):Nn m n l (k+1)=nO (l[k]).nm (kZ ((n:Int)+(k:Nat)) (l[k]).fr (l[k]).to) (Nn m n l k):=by rw [Nn,Zc h]
set_option maxHeartbeats 1000000 in
theorem AN (h:RR w r s d t p) (c6:r.de.length+r.ti.length<=1000000):a8 T_ 186 [RA r s d t p] w [] (fun _:Nat=>True) (fun b=>.map (some b)) (fun b=>[mp (fun s:ByteArray=>Value.string s) b (om r)]):=by
 obtain ⟨h1,h2,h3,h4⟩:=h.one;have hs:=h.sr;have hd:=h.de;have yq:=h.ti;obtain ⟨a1,ew,II,Iz,rfl,oO,iu,mz,kT⟩:=hs;obtain ⟨a2,c8,IH,Iy,rfl,jS,eV,jU,kg⟩:=hd;obtain ⟨a3,dX,GP,F6,rfl,mU,gB,rP,pb⟩:=yq;rw [cG] at *;rw [bY] at *;rw [bS] at *;unfold maxLen at iu eV gB;unfold RA;refine aS func186 I I ?_;refine Jr<|Jy I I fun _ _=>Ja I<|Ji ?_;rename_i b1 tJ;refine Cf I ?_;intro bm YT
 (refine Ja I<|Jn<|Jq<|Jr<|bD I I ae<|JL I (.there .here) I<|JI I<|Jv I<|Jn<|J0 ?_)
 refine aV (fun k:Nat=>k<=r.sr.length) (fun k=>[(14,.q k),(13,.q r.sr.length),(12,.slice a1 r.sr.length ew),(3,.map (some bm)),(1,.p b1)]) (fun k=>[mp (fun s:ByteArray=>Value.string s) bm (xT r.sr k),JP b1 r (.slice a1 r.sr.length ew) (.slice a2 r.de.length c8) (.slice a3 r.ti.length dX) p]) (fun k=>r.sr.length-k) ?_ ?_
 ·apply aH 0 (show 0<=r.sr.length from Zi _)
  case hs1=>exact bT
  case ht=>
   exact .h2 .nil
 intro k hk;by_cases aL:k<r.sr.length
 ·have cY:=mz (iD aL);have aF:=(kT k _ (fW aL)).2;have gS:xT r.sr (k+1)=_:=KN aL;unfold Sr.cells at aF;unfold kZ at gS;generalize r.sr[k]=x at aF gS
  (refine Jr<|JA I<|Jn<|Jq<|Jd I fun aA=>Jk<|Jq<|J0<|Jr<|ab (gE cY aA) I<|ab (ja (fo.base aF I)) I<|Jz I I fun _ _=>ak (.of I) (.of I) .here I I (ix I I) (br I) ai<|Jn<|Jg<|Jv I<|bD I I ae<|JL I .here I<|bD I I ae<|JL I .here I<|ab (aU (.o I (.o I (.o I .nil))) ai) I ?_)
  refine nY Lk (.of I) (.of I) (.of I) (.there .here) ?_;refine Jx<|Jj<|Jt<|Jg<|JB I (by omega)<|Jv I<|Jn ?_;apply aG (k+1) (show k+1<=r.sr.length by omega) (show r.sr.length-(k+1)<r.sr.length-k by omega)
  case hs1=>exact bT
  case ht=>
   show bj _ [mp (fun s:ByteArray=>Value.string s) bm (xT r.sr (k+1)),JP b1 r (.slice a1 r.sr.length ew) (.slice a2 r.de.length c8) (.slice a3 r.ti.length dX) p] _
   rw [gS];exact .h1 (.cons (.there .here) .nil)
 obtain rfl:k=r.sr.length:=by omega
 (refine Jr<|JA I<|Jn<|Jq<|Jc I fun aA=>Jp<|Jl<|Jo<|Jt<|Jq<|Jr<|bD I I ae<|JL I (.there .here) I<|JI I<|Jv I<|Jn<|J0 ?_)
 refine aV (fun k:Nat=>k<=r.de.length) (fun k=>[(28,.q k),(27,.q r.de.length),(26,.slice a2 r.de.length c8),(3,.map (some bm)),(1,.p b1)]) (fun k=>[mp (fun s:ByteArray=>Value.string s) bm (DW (xT r.sr r.sr.length) r.de k),JP b1 r (.slice a1 r.sr.length ew) (.slice a2 r.de.length c8) (.slice a3 r.ti.length dX) p]) (fun k=>r.de.length-k) ?_ ?_
 ·apply aH 0 (show 0<=r.de.length from Zi _)
  case hs1=>exact bT
  case ht=>
   exact .h2 .nil
 intro k hk;by_cases aL:k<r.de.length
 ·have cY:=jU (ij aL);have aF:=(kg k _ (fM aL)).2;have gS:DW (xT r.sr r.sr.length) r.de (k+1)=_:=KO aL;unfold De.cells at aF;unfold kZ at gS;generalize r.de[k]=x at aF gS
  (refine Jr<|JA I<|Jn<|Jq<|Jd I fun aA=>Jk<|Jq<|J0<|Jr<|Jv I<|ab (gE cY aA) I<|ab (ja (fo.base aF I)) I<|Jz I I fun _ _=>Ja I<|ak (.of I) (.of I) .here I I (fc I I I) (br I) ai<|Jn<|Jg<|Jv I<|bD I I ae<|JL I .here I<|Jv I<|bD I I ae<|JL I .here I<|ab (aU (.o I (.o I (.o I .nil))) ai) I ?_)
  refine nY Lk (.of I) (.of I) (.of I) (.there .here) ?_;refine Jx<|Jj<|Jt<|Jg<|JB I (by omega)<|Jv I<|Jn ?_;apply aG (k+1) (show k+1<=r.de.length by omega) (show r.de.length-(k+1)<r.de.length-k by omega)
  case hs1=>exact bT
  case ht=>
   show bj _ [mp (fun s:ByteArray=>Value.string s) bm (DW (xT r.sr r.sr.length) r.de (k+1)),JP b1 r (.slice a1 r.sr.length ew) (.slice a2 r.de.length c8) (.slice a3 r.ti.length dX) p] _
   rw [gS];exact .h1 (.cons (.there .here) .nil)
 obtain rfl:k=r.de.length:=by omega
 (refine Jr<|JA I<|Jn<|Jq<|Jc I fun aA=>Jp<|Jl<|Jo<|Jt<|Jq<|Jr<|bD I I ae<|JL I (.there .here) I<|JI I<|Jv I<|Jn<|J0 ?_)
 refine aV (fun k:Nat=>k<=r.ti.length) (fun k=>[(44,.q k),(43,.q r.ti.length),(42,.slice a3 r.ti.length dX),(3,.map (some bm)),(1,.p b1)]) (fun k=>[mp (fun s:ByteArray=>Value.string s) bm (Nn (DW (xT r.sr r.sr.length) r.de r.de.length) r.de.length r.ti k),JP b1 r (.slice a1 r.sr.length ew) (.slice a2 r.de.length c8) (.slice a3 r.ti.length dX) p]) (fun k=>r.ti.length-k) ?_ ?_
 ·apply aH 0 (show 0<=r.ti.length from Zi _)
  case hs1=>exact bT
  case ht=>
   exact .h2 .nil
 intro k hk;by_cases aL:k<r.ti.length
 ·have cY:=rP (fq aL);have aF:=(pb k _ (ep aL)).2;have gS:Nn (DW (xT r.sr r.sr.length) r.de r.de.length) r.de.length r.ti (k+1)=_:=KM aL;unfold Ti.cells at aF;unfold kZ at gS;generalize r.ti[k]=x at aF gS
  (refine Jr<|JA I<|Jn<|Jq<|Jd I fun aA=>Jk<|Jq<|J0<|Jr<|Jv I<|ab (gE cY aA) I<|ab (ja (fo.base aF I)) I<|Jz I I fun _ _=>Ja I<|ak (.of I) (.of I) .here I I (fc I I I) (br I) ai<|Jn<|Jg<|Jv I<|bD I I ae<|JL I .here I<|bD I I ae<|JL I bE I<|JI I<|Jv I<|JB I (by omega)<|bD I I ae<|JL I .here I<|bD I I ae<|JL I .here I<|ab (aU (.o I (.o I (.o I .nil))) ai) I ?_)
  refine nY Lk (.of I) (.of I) (.of I) (.there .here) ?_;refine Jx<|Jj<|Jt<|Jg<|JB I (by omega)<|Jv I<|Jn ?_;apply aG (k+1) (show k+1<=r.ti.length by omega) (show r.ti.length-(k+1)<r.ti.length-k by omega)
  case hs1=>exact bT
  case ht=>
   show bj _ [mp (fun s:ByteArray=>Value.string s) bm (Nn (DW (xT r.sr r.sr.length) r.de r.de.length) r.de.length r.ti (k+1)),JP b1 r (.slice a1 r.sr.length ew) (.slice a2 r.de.length c8) (.slice a3 r.ti.length dX) p] _
   rw [gS];exact .h1 (.cons (.there .here) .nil)
 obtain rfl:k=r.ti.length:=by omega
 refine Jr<|JA I<|Jn<|Jq<|Jc I fun aA=>Jp<|Jl<|Jo<|Jt<|Jr<|Jv I<|Ja I<|Jn<|Je ?_
 with_reducible first|apply aO|apply aP
 case he=>exact dN I I
 case hR=>
  intro w' aB;exact aC bm trivial (show bj _ [mp (fun s:ByteArray=>Value.string s) bm (om r)] _ from by unfold om;exact .h1 .nil) aB I
theorem cK {a:Addr} {v:Value} (h:w.cell? a=some v) (hs:a.spot=none) (hk:aI [] w w'):w'.cell? a=some v:=by
 have hb:=World.block_lt_of_cell? w a h;obtain ⟨b,o,s⟩:=a;subst hs;have:=hk.block b hb (by simp);rw [<- h];simp [World.cell?,this]
theorem fQ {P:Program} {c:Cx} {sl:aN} {hs:List bd} {dst:Option Tmp} {ty:TypeId} {pos:String} {af:Array Edge} {g:Option (Nat×Bool)} {x y z:Operand} {q:Bool} {v u V:Value} (hx:Is sl x (.bool q)) (hy:Is sl y v) (hz:Is sl z u) (e:(bif q then v else u)=V):du P c sl hs ⟨dst,.pick x y z,ty,pos,af,g⟩ V:=e ▸ vf hx hy hz
theorem qA {α:Type} (p:α->Bool) (l:List α):(iN p l = -1/\l.find? p=none)\/∃ i,∃ h:i<l.length,iN p l=(i:Nat)/\l.find? p=some l[i]:=by
 cases hf:l.find? p with
 | none =>
  rw [ZaM] at hf;refine .inl ⟨fO fun i hi=>?_,I⟩;simpa [hi] using hf l[i] (Zj hi)
 | some x =>
  obtain ⟨hp,i,hi,rfl,hb⟩:=ZaD.1 hf;refine .inr ⟨i,hi,gN (fun j hj=>?_) hi hp,I⟩;have:=hb j hj;simpa [show j<l.length by omega] using this
theorem Ts (x:Po) {b1 b2:Nat} {v:Int} {o:ByteArray} {w:World} (f1:w.cell? ⟨b1,0,none⟩=some (.q v)) (f2:w.cell? ⟨b2,0,none⟩=some (.string o)) :
  an T_ 298 [.agg x.cells.toArray,.p b1,.p b2] w (.bool (Fj v o x)):=by
 unfold Po.cells;refine aj func298 I I ?_
 (refine Jr<|Jy I I fun _ _=>Ja I<|Ji<|ab (bU .here) I<|ab (ag (.of I) (At.base f1 I)) I<|ab (ag (.of I) (At.base f2 I)) I<|bD I I ae<|JL I .here I<|ab (aU (.o I (.o I (.o I .nil))) ai) I<|ab (vi (.of I) (.of I) (kQ (fS (fS mQ))) I) I<|Ja I<|Jn<|Je<|JT ?_)
 simp [Fj]
theorem Sk (x:Po) {b1 b2:Nat} {v:Int} {o:ByteArray} {w:World} (f1:w.cell? ⟨b1,0,none⟩=some (.q v)) (f2:w.cell? ⟨b2,0,none⟩=some (.string o)) :
  an T_ 302 [.agg x.cells.toArray,.p b1,.p b2] w (.bool (yp v o x)):=by
 unfold Po.cells;refine aj func302 I I ?_
 (refine Jr<|Jy I I fun _ _=>Ja I<|Ji<|ab (bU .here) I<|ab (ag (.of I) (At.base f1 I)) I<|bD I I ae<|JL I .here I<|ab (ag (.of I) (At.base f2 I)) I<|ab (aU (.o I (.o I (.o I .nil))) ai) I<|ab (vi (.of I) (.of I) (kQ (fS (fS mQ))) I) I<|Ja I<|Jn<|Je<|JT ?_)
 simp [yp]
theorem A5 (v:Int) (o:ByteArray) {w:World} (h:RR w r s d t p):an T_ 223 [RA r s d t p,.q v,.string o] w (.tuple #[.string ((eD r.po v o).getD ⟨#[]⟩),.bool (eD r.po v o).isSome]):=by
 have h1:=Rd.one h.sr;have h2:=Rd.one h.de;have h3:=Rd.one h.ti;have hp:=h.po;obtain ⟨a,cp,b,o',rfl,dC,ch,ha,hc⟩:=hp;rw [cT] at *;unfold maxLen at ch;unfold RA;refine aj func223 I I ?_
 (refine Jr<|Jy I I fun _ _=>Jy I I fun _ _=>Jy I I fun _ _=>Ja I<|Ja I<|Ji<|bD I I ae<|JL I bE I<|ab (bC .nil (.o I (.o I .nil))) I ?_)
 rename_i b3 rz b4 sH b5 HS
 with_reducible apply ah
 case hr=>exact bn
 case hd=>rfl
 case hc=>
  intro w' aB;have f1:w'.cell? ⟨b4,0,none⟩=some (.q v):=At.lit (by exact Take.there .here) I w' aB;have f2:w'.cell? ⟨b5,0,none⟩=some (.string o):=At.lit (by exact .here) I w' aB
  exact A6 (f:=298) (p:=Fj v o) (first:=[]) (cap:=[.p b4,.p b5]) (h.po.keeps aB.keeps)
   (fun x hx w2 fg=>Ts x (cK f1 I fg) (cK f2 I fg))
 have mT:eD r.po v o=(r.po.find? (Fj v o)).map Po.ip:=rfl;rcases qA (Fj v o) r.po with ⟨e1,e2⟩ | ⟨i,hi,e1,e2⟩
 ·rw [e1];rw [e2] at mT;rw [mT];refine Ja I<|Jn<|Jq<|Jr<|Jv I<|JA I<|Jn<|Jd I fun aA=>Jr<|Ja I<|Ja I<|Jn<|Ju<|qk I (gD I I I) ?_
  rfl
 ·rw [e1];rw [e2] at mT;rw [mT];have cY:=ha (j8 hi);have aF:=(hc i _ (ia hi)).2;unfold Po.cells at aF;have kg:=aF 2 _ I
  (refine Ja I<|Jn<|Jq<|Jr<|Jv I<|JA I<|Jn<|Jc I fun aA=>Jk<|Jr<|bD I I ae<|JL I bE I<|Jv I<|ab (ao (.of I) (.of I) cY (by omega) (by omega) aW) I<|bD I I ae<|ab (ag (.of I) (At.base kg I)) I<|Ja I<|Ja I<|Jn<|Je<|qk I (gD I I I) ?_)
  rfl
theorem I7 (v:Int) (o:ByteArray) {w:World} (h:RR w r s d t p):an T_ 239 [RA r s d t p,.q v,.string o] w (.bool (nr r.po v o)):=by
 obtain ⟨h1,h2,h3,h4⟩:=h.one;unfold RA;refine aj func239 I I ?_
 (refine Jr<|Jy I I fun _ _=>Jy I I fun _ _=>Jy I I fun _ _=>Ja I<|Ji<|bD I I ae<|JL I bE I<|ab (bC .nil (.o I (.o I .nil))) I ?_)
 rename_i b3 rz b4 sH b5 HS
 with_reducible apply ah
 case hr=>exact bn
 case hd=>rfl
 case hc=>
  intro w' aB;have f1:w'.cell? ⟨b4,0,none⟩=some (.q v):=At.lit (by exact Take.there .here) I w' aB;have f2:w'.cell? ⟨b5,0,none⟩=some (.string o):=At.lit (by exact .here) I w' aB
  exact PW (f:=302) (p:=yp v o) (first:=[]) (cap:=[.p b4,.p b5]) (h.po.keeps aB.keeps)
   (fun x hx w2 fg=>Sk x (cK f1 I fg) (cK f2 I fg))
 refine Ja I<|Jn<|Je<|JT ?_
 rfl
theorem wC (v:Int) (o:ByteArray) {w w1:World} (h:RR w1 r s d t p) :
  a8 T_ 116 [RA r s d t p,.q v,.string o] w [] (fun _:Nat×Nat×Nat=>True) (fun x=>.func (.func 222) #[] #[.pointer (some ⟨x.1,0,none⟩),.pointer (some ⟨x.2.1,0,none⟩),.pointer (some ⟨x.2.2,0,none⟩)])
   (fun x=>[bu x.1 (.cells #[.string o] 9 (0,0)),JP x.2.1 r s d t p,bu x.2.2 (.cells #[.q v] 3 (0,0))]):=by
 obtain ⟨h1,h2,h3,h4⟩:=h.one;unfold RA;refine aS func116 I I ?_
 (refine Jr<|Jy I I fun _ _=>Jy I I fun _ _=>Jy I I fun _ _=>Ja I<|Ji<|ab (bC .nil (.o I (.o I (.o I .nil)))) I<|Ja I<|Jn<|Je ?_)
 rename_i b3 rz b4 sH b5 HS
 with_reducible first|apply aO|apply aP
 case he=>exact dN I I
 case hR=>
  intro w' aB;exact aC (b5,b3,b4) trivial (by exact .h1 (.cons (.there .here) (.h1 .nil))) aB I
structure RO (md:List Nat) (r:Ro) (s d t p:Value):Prop where
 sr:Out md s (vV r.sr)
 de:Out md d (vG r.de)
 ti:Out md t (u7 r.ti)
 po:Out md p (uf r.po)
theorem RO.nil {r:Ro} {s d t p:Value}:RO [] r s d t p:=⟨Out.nil _ _,Out.nil _ _,Out.nil _ _,Out.nil _ _⟩
theorem RR.kb {md:List Nat} (h:RR w r s d t p) (hn:RO md r s d t p) (hk:aI md w w'):RR w' r s d t p:=⟨h.sr.kb hn.sr hk,h.de.kb hn.de hk,h.ti.kb hn.ti hk,h.po.kb hn.po hk⟩
theorem RR.out {md fp:List Nat} {w0:World} (h:RR w0 r s d t p) (hn:RO md r s d t p) (hF:∀ b∈fp,b∈md\/w0.heap.size<=b):RO fp r s d t p:=⟨h.sr.out (by omega) hn.sr hF,h.de.out (by omega) hn.de hF,h.ti.out (by omega) hn.ti hF,h.po.out (by omega) hn.po hF⟩
def ym (po:List Po) (v:Int) (k:Nat) (o:ByteArray):List (List Value):=(fF po v k o).map fun x=>[.string x]
theorem si (po:List Po) (v:Int) (k:Nat) (o:ByteArray):(ym po v k o).length=(fF po v k o).length:=by simp [ym]
theorem wZ {o a:ByteArray} (h:mR po v k o=some a):mR po v (k+1) o=eD po v a:=by
 rw [kR,h];show (eD po v a).bind (mR po v 0)=_;cases eD po v a <;> rfl
theorem GO {o a:ByteArray} (h:mR po v k o=some a) (hk:k<=K) (hn:eD po v a=none\/k=K):(fF po v K o).length=k:=by
 have hl:=kU po v K o;have h1:k<=(fF po v K o).length:=by
  cases k with
  | zero=>exact Zi _
  | succ k =>
   have:=oJ (po:=po) (v:=v) (o:=o) (show k<K by omega);rw [h] at this;exact (Zl.1 this).1
 rcases hn with hn | rfl
 ·by_cases e:k=K
  ·omega
  ·have:=oJ (po:=po) (v:=v) (o:=o) (show k<K by omega);rw [wZ h,hn,List.getElem?_eq_none_iff] at this;omega
 ·omega
theorem OS {o a i:ByteArray} (h:mR po v k o=some a) (hk:k<K) (hi:eD po v a=some i):(ym po v K o)[k]? = some [.string i]:=by
 unfold ym;rw [ZG,oJ hk,wZ h,hi];rfl
set_option maxHeartbeats 1000000 in
theorem EB {b1 b2 b3:Nat} (v:Int) (o:ByteArray) {w0 w:World} {md:List Nat} (h:RR w0 r s d t p) (hn:RO md r s d t p) (c6:r.ti.length<=1000000) :
  Iter T_ 222 [] [.p b1,.p b2,.p b3] [bu b1 (.cells #[.string o] 9 (0,0)),JP b2 r s d t p,bu b3 (.cells #[.q v] 3 (0,0))] (ym r.po v (r.ti.length+1) o) w0 md w:=by
 intro l fp J E hB hF iB hs hy;have hR:=h.kb hn hB;have hO:=h.out hn hF;rw [si];have h1:=Rd.one hR.sr;have h2:=Rd.one hR.de;have h4:=Rd.one hR.po;have hti:=hR.ti;obtain ⟨a,cp,b,o',rfl,dC,ch,ha,hc⟩:=hti;rw [bS] at *;unfold maxLen at ch;refine dT func222 I I iB hs ?_
 (refine Jr<|JL I (.there .here) I<|Ja I<|Ji<|bD I I ae<|JL I bE I<|JI I<|JB I (by omega)<|Jv I<|Jn<|J0 ?_)
 refine aV (ι:=Nat×ByteArray) (fun x=>x.1<=r.ti.length+1/\mR r.po v x.1 o=some x.2) (fun x=>[(13,.q (x.1:Nat)),(12,.q ((r.ti.length:Int)+1)),(5,.string x.2),(0,.func (.yield l) #[] #[]),(2,.p b2),(3,.p b3)])
  (fun x=>[J x.1,bu b1 (.cells #[.string o] 9 (0,0)),JP b2 r s d (.slice a r.ti.length cp) p,bu b3 (.cells #[.q v] 3 (0,0))]) (fun x=>r.ti.length+1-x.1) ?_ ?_
 ·apply aH (0,o) ⟨Zi _,I⟩
  case hs1=>exact bT
  case ht=>(try simp only [Ze,Zf,Za]);exact .h4 .nil
 rintro ⟨k,at_⟩ ⟨hk,hit⟩;dsimp only at hk hit ⊢;by_cases aL:k<r.ti.length+1
 ·have WY:∀ w',aI fp w w'->an T_ 223 [.agg #[.q r.lv,.q r.ma,s,d,.slice a r.ti.length cp,p],.q v,.string at_] w' (.tuple #[.string ((eD r.po v at_).getD ⟨#[]⟩),.bool (eD r.po v at_).isSome]):=fun w' hk=>A5 v at_ (hR.kb hO hk)
  cases hi:eD r.po v at_ with
  | none =>
   have mT:∀ w',aI fp w w'->an T_ 223 [.agg #[.q r.lv,.q r.ma,s,d,.slice a r.ti.length cp,p],.q v,.string at_] w' (.tuple #[.string ⟨#[]⟩,.bool false]):=fun w' hk=>by
    have:=WY w' hk;rwa [hi] at this
   have bb:=GO hit hk (.inl hi)
   (refine Jr<|JA I<|Jn<|Jq<|Jd I fun aA=>Jk<|Jq<|J0<|Jr<|ab (bU bE) I<|JL I cI I<|Jv I<|ah dU I (fun w' aB=>(mT w' (Mem.keeps aB)))<|Jv I<|JJ I I<|JJ I I<|Ja I<|Ja I<|Jn<|Jq<|Jr<|Jv I<|JH I<|Jv I<|jZ I I I I<|jZ I I I I<|eG I I I I<|aM I I (fun hg bH=>(fu (.bW bH I))) I<|ab (bV (.of I) I) I<|Jn<|c5 (.of I)<|Ju<|Jm<|Jh<|Jh<|Jm ?_)
   with_reducible first|apply aO|apply aP
   case he=>exact oQ I
   case hR=>
    intro w' aB;exact aC true trivial (show bj _ [J (fF r.po v (r.ti.length+1) o).length,_,_,_] _ by rw [bb];exact .h4 .nil) aB I
  | some nx =>
   have mT:∀ w',aI fp w w'->an T_ 223 [.agg #[.q r.lv,.q r.ma,s,d,.slice a r.ti.length cp,p],.q v,.string at_] w' (.tuple #[.string nx,.bool true]):=fun w' hk=>by
    have:=WY w' hk;rwa [hi] at this
   have Wh:=hy k _ (OS hit aL hi);have abt:mR r.po v (k+1) o=some nx:=by rw [wZ hit,hi]
   (refine Jr<|JA I<|Jn<|Jq<|Jd I fun aA=>Jk<|Jq<|J0<|Jr<|ab (bU bE) I<|JL I cI I<|Jv I<|ah dU I (fun w' aB=>(mT w' (Mem.keeps aB)))<|Jv I<|JJ I I<|JJ I I<|Ja I<|Ja I<|Jn<|Jq<|Jr<|Jv I<|JH I<|Jv I<|JK I I<|Jv I<|JK I I<|Jv I<|JK I I ?_)
   with_reducible apply yS hB hF Wh
   case hx=>exact Is.of I
   case ha=>exact .o I .nil
   case hd=>rfl
   case ht=>exact .here
   intro q;cases q with
   | false =>
    simp only [cond_false]
    (refine JK I I<|JH I<|ab (fQ (.of I) (.of I) (.of I) I) I<|Jn<|c5 (.of I)<|Ju<|Jm<|Jh<|Jh<|Jm ?_)
    with_reducible first|apply aO|apply aP
    case he=>exact oQ I
    case hR=>
     intro w' aB;exact aC false trivial (by exact .h4 .nil) aB I
   | true =>
    simp only [cond_true]
    (refine JK I I<|JH I<|ab (fQ (.of I) (.of I) (.of I) I) I<|Jn<|cd (.of I)<|Jk<|Jg<|Jv I<|Ja I<|Jx<|Jj<|Jt<|Jg<|JB I (by omega)<|Jv I<|Jn ?_)
    apply aG (k+1,nx) ⟨show k+1<=r.ti.length+1 by omega,abt⟩ (show r.ti.length+1-(k+1)<r.ti.length+1-k by omega)
    case hs1=>exact bT
    case ht=>(try simp only [Ze,Zf,Za]);exact .h4 .nil
 ·obtain rfl:k=r.ti.length+1:=by omega
  have bb:=GO hit hk (.inr I);refine Jr<|JA I<|Jn<|Jq<|Jc I fun aA=>Jp<|Jl<|Jo ?_
  with_reducible first|apply aO|apply aP
  case he=>exact oQ I
  case hR=>
   intro w' aB;exact aC true trivial (show bj _ [J (fF r.po v (r.ti.length+1) o).length,_,_,_] _ by rw [bb];exact .h4 .nil) aB I
def RC (r:Ro) (s d t p:Value):List Value:=[.q r.lv,.q r.ma,s,d,t,p]
def BR (w:World) (b:Nat) (cs:List Value):Prop:=∀ (j:Nat) (u:Value),cs[j]? = some u->w.cell? ⟨b,0+j,none⟩=some u
theorem BR.keeps {b:Nat} {cs:List Value} (h:BR w b cs) (hk:aI [] w w'):BR w' b cs:=fun j u hu=>cK (h j u hu) I hk
theorem BR.of {c:Cx} {hs hs':List bd} (hm:Mem c hs w) {b:Nat} {cs:List Value} {E:TypeId} {fz:Nat×Nat} (ht:Take hs (bu b (.cells cs.toArray E fz)) hs'):BR w b cs:=fun j u hu=>by
 rw [ZF];exact At.kB ht hu w hm
theorem CI {P:Program} {c:Cx} {sl:aN} {hs:List bd} {dst:Option Tmp} {ty:TypeId} {pos:String} {af:Array Edge} {g:Option (Nat×Bool)} {t u:TypeId} {x y:Operand} {a b:Bool} [hu:iI P t .bool] (hx:Is sl x (.bool a)) (hy:Is sl y (.bool b)) :
  du P c sl hs ⟨dst,.binOp .neq t x y u,ty,pos,af,g⟩ (.bool (a != b)):=
 jr hx hy fun w=>by
  have:(Op.equal t (.bool a) (.bool b)).run P w=.ok (a==b) w:=by
   exact Gd (d:=9999) (by rw [hu.eq];rfl) (fun k h=>by rw [hu.eq] at h;cases h) (fun h=>by rw [hu.eq] at h;cases h) (fun _=>⟨a,I⟩) I
  simp [By,binOp,this,bne]
def K0 (r:Ro) (v:Int) (x:Ti):Bool:=gI r.po v x.nm != nr r.po v x.nm
def NA (r:Ro) (v:Int) (x:Ti):Bool:=eZ (fF r.po v (r.ti.length+1) x.nm) x.nm
theorem OX (v:Int) (x:Ti) {b1 b2:Nat} {w:World} (h:RR w r s d t p) (hA:BR w b1 (RC r s d t p)) (f2:w.cell? ⟨b2,0,none⟩=some (.q v)) :
  an T_ 238 [.agg x.cells.toArray,.p b1,.p b2] w (.bool (K0 r v x)):=by
 obtain ⟨h1,h2,h3,h4⟩:=h.one;have lg:∀ (j:Nat) (u:Value),[Value.int .i64 r.lv,.int .i64 r.ma,s,d,t,p][j]? = some u->w.cell? ⟨b1,0+j,none⟩=some u:=hA;unfold Ti.cells;refine aj func238 I I ?_
 (refine Jr<|Jy I I fun _ _=>Ja I<|Ji<|ab (ja (fo.base lg I)) I<|ab (ag (.of I) (At.base f2 I)) I<|bD I I ae<|JL I .here I ?_)
 refine ah dU I (fun w' aB=>A5 (s:=s) (d:=d) (t:=t) (p:=p) v x.nm (h.keeps aB.keeps)) ?_
 (refine Jv I<|JJ I I<|JJ I I<|Ja I<|Ja I<|Ji<|Jv I<|ab (ja (fo.base lg I)) I<|ab (ag (.of I) (At.base f2 I)) I<|bD I I ae<|JL I .here I ?_)
 refine ah dU I (fun w' aB=>I7 (s:=s) (d:=d) (t:=t) (p:=p) v x.nm (h.keeps aB.keeps)) ?_
 skip
 refine ab (CI (.of I) (.of I)) I ?_;refine Ja I<|Jn<|Je<|JT ?_
 rfl
theorem S9 (v:Int) {w:World} (h:RR w r s d t p):an T_ 150 [RA r s d t p,.q v] w (.bool (r.ti.any (K0 r v))):=by
 obtain ⟨h1,h2,h3,h4⟩:=h.one;unfold RA;refine aj func150 I I ?_
 (refine Jr<|Jy I I fun _ _=>Jy I I fun _ _=>Ja I<|Ji<|bD I I ae<|JL I (.there .here) I<|ab (bC .nil (.o I (.o I .nil))) I ?_)
 rename_i b3 rz b4 sH
 with_reducible apply ah
 case hr=>exact bn
 case hd=>rfl
 case hc=>
  intro w' aB;have hA:BR w' b3 [.q r.lv,.q r.ma,s,d,t,p]:=BR.of aB (by exact Take.there .here);have f2:w'.cell? ⟨b4,0,none⟩=some (.q v):=At.lit (by exact .here) I w' aB;have hR:=h.keeps aB.keeps
  exact Bn (f:=238) (p:=K0 r v) (first:=[]) (cap:=[.p b3,.p b4]) hR.ti
   (fun x hx w2 fg=>OX v x (hR.keeps fg) (hA.keeps fg) (cK f2 I fg))
 refine Ja I<|Jn<|Je<|JT ?_
 rfl
theorem R5 {q:Int->Bool} {f:FuncId} {first cap:List Value} [bN T_ f] {w w1:World} (h:RR w1 r s d t p) (tb:r.lv<=1000000)
  (cV:∀ v:Int,0<=v->v<r.lv->∀ w',aI [] w w'->an T_ f (first++[.q v]++cap) w' (.bool (q v))) :
  an T_ 148 [RA r s d t p,.func (.func f) first.toArray cap.toArray] w (.bool ((List.range r.lv.toNat).any fun i=>q (i:Nat))):=by
 obtain ⟨h1,h2,h3,h4⟩:=h.one;unfold RA;refine aj func148 I I ?_
 (refine Jr<|Jy I I fun _ _=>Ja I<|Jn<|Jq<|Jr<|bD I I ae<|JL I .here I<|Jv I<|Jn<|J0 ?_)
 refine aV (ι:=Nat) (fun k=>k<=r.lv.toNat/\∀ i,i<k->q (i:Nat)=false) (fun k=>[(8,.q (k:Nat)),(7,.q r.lv),(1,.func (.func f) first.toArray cap.toArray)]) (fun k=>[]) (fun k=>r.lv.toNat-k) ?_ ?_
 ·apply aH 0 ⟨Zi _,fun i h=>by omega⟩
  case hs1=>exact bT
  case ht=>(try simp only [Ze,Zf,Za]);exact .nil
 rintro k ⟨hk,hz⟩;by_cases aL:k<r.lv.toNat
 ·have ET:((k:Nat):Int)<r.lv:=by omega
  refine Jr<|JA I<|Jn<|Jq<|Jd I fun aA=>Jk<|Jq<|J0<|Jr<|Jv I<|Ja I<|Ji<|Jv I<|Jv I ?_;refine ah bJ I (fun w' aB=>cV (k:Nat) (by omega) ET w' aB.keeps) ?_;cases hq:q (k:Nat) with
  | true =>
   have e:(List.range r.lv.toNat).any (fun i=>q (i:Nat))=true:=ZR.2 ⟨k,ZU.2 aL,hq⟩
   rw [e]
   (refine Jn<|c5 (.of I)<|Jr<|Ja I<|Jn<|Je<|Jm<|Jh<|Jh<|Jm<|Jh<|JT ?_)
   rfl
  | false =>
   (refine Jn<|cd (.of I)<|Jw<|Jj<|Jt<|Jg<|JB I (by omega)<|Jv I<|Jn ?_)
   have Ly:∀ i,i<k+1->q (i:Nat)=false:=fun i hi=>by
    by_cases e:i=k
    ·rw [e];exact hq
    ·exact hz i (by omega)
   apply aG (k+1) ⟨show k+1<=r.lv.toNat by omega,Ly⟩ (show r.lv.toNat-(k+1)<r.lv.toNat-k by omega)
   case hs1=>exact bT
   case ht=>(try simp only [Ze,Zf,Za]);exact .nil
 ·have e:(List.range r.lv.toNat).any (fun i=>q (i:Nat))=false:=by
   rw [Zaw];intro i hi;simp [hz i (by have:=ZU.1 hi;omega)]
  rw [e];refine Jr<|JA I<|Jn<|Jq<|Jc I fun aA=>Jp<|Jl<|Jo<|Jt<|Jr<|Ja I<|Jn<|Je<|JT ?_
  rfl
theorem Uy :mR po v (fF po v K o).length o=some (iF po v K o):=by
 unfold iF;rcases Nat.eq_zero_or_pos (fF po v K o).length with h | h
 ·rw [Zav.1 h];rfl
 ·obtain ⟨k,hk⟩:∃ k,(fF po v K o).length=k+1:=⟨(fF po v K o).length-1,by omega⟩;have hl:=kU po v K o;have:=oJ (po:=po) (v:=v) (o:=o) (show k<K by omega);rw [hk,<- this,List.getLast?_eq_getElem?,hk,Zay,Zc (by omega)];rfl
theorem EA {vs:List Value} (h:(ym po v K o)[k]? = some vs):∃ a,mR po v (k+1) o=some a/\vs=[.string a]/\(fF po v K o)[k]? = some a:=by
 unfold ym at h;rw [ZG,Zam] at h;obtain ⟨a,ha,rfl⟩:=h;have hl:=kU po v K o;have hk:=(Zl.1 ha).1;exact ⟨a,by rw [<- oJ (k:=K) (by omega)];exact ha,I,ha⟩
theorem Mr (v:Int) (x:Ti) {b1 b2:Nat} {w:World} (h:RR w r s d t p) (c6:r.ti.length<=1000000) (hA:BR w b1 (RC r s d t p)) (f2:w.cell? ⟨b2,0,none⟩=some (.q v)) :
  an T_ 237 [.agg x.cells.toArray,.p b1,.p b2] w (.bool (NA r v x)):=by
 obtain ⟨h1,h2,h3,h4⟩:=h.one;have lg:∀ (j:Nat) (u:Value),[Value.int .i64 r.lv,.int .i64 r.ma,s,d,t,p][j]? = some u->w.cell? ⟨b1,0+j,none⟩=some u:=hA;unfold Ti.cells;refine aj func237 I I ?_
 (refine Jr<|Jy I I fun _ _=>Jz I I fun _ _=>Jn<|Jq<|Jr<|ab (ja (fo.base lg I)) I<|ab (ag (.of I) (At.base f2 I)) I<|bD I I ae<|JL I (.there .here) I ?_)
 rename_i b3 rz b4 sH;refine JN dU I (fun w1 aT=>wC v x.nm (h.keeps aT.keeps)) ?_;intro y _;dsimp only [id_eq,Zb,Za];refine Jn<|J0 ?_
 refine jO (ps:=[11]) (f:=222) (first:=[]) (cap:=[.pointer (some ⟨y.1,0,none⟩),.pointer (some ⟨y.2.1,0,none⟩),.pointer (some ⟨y.2.2,0,none⟩)]) (ι:=Unit) (κ:=Unit) (rst:=[]) ?hg
  [bu y.1 (.cells #[.string x.nm] 9 (0,0)),JP y.2.1 r s d t p,bu y.2.2 (.cells #[.q v] 3 (0,0))] (ym r.po v (r.ti.length+1) x.nm) ?hit
  (fun k _=>eZ ((fF r.po v (r.ti.length+1) x.nm).take k) x.nm=false) (fun _=>[bu b4 (.cells #[.bool false] 4 (0,0)),bu b3 (.cells #[.string x.nm,.q x.fr,.q x.to] 187 (0,0))])
  (fun _=>NA r v x=true) (fun _=>[bu b4 (.cells #[.bool true] 4 (0,0)),bu b3 (.cells #[.string x.nm,.q x.fr,.q x.to] 187 (0,0))]) (fun _=>.ret) () (by rw [Ze];rfl) ?ht ?hlen ?hps ?round ?kn ?kj
 case hg=>exact Is.of I
 case hit=>intro w' aB;exact EB v x.nm h RO.nil c6
 case ht=>
  dsimp only [Zb,Za];exact .cons cI (.cons cI (.h3 .nil))
 case hlen=>intro vs pK;obtain ⟨x,_,rfl⟩:=Zw.1 pK;rfl
 case hps=>intro t ht;simp only [ZQ,Zo,or_false] at ht;rcases ht with rfl;exact ZaA rfl
 case kj=>
  intro y D hy;rw [hy];dsimp only [Zb,Za];refine Je<|Jm<|Jh ?_
  with_reducible first|apply aO|apply aP
  case he=>exact GI I inferInstance I (At.lit .here I)
  case hR=>exact fun w' aB=>⟨I,aB.keeps⟩
 case kn=>
  intro _ D hq;rw [si,ZL] at hq;have ux:NA r v x=false:=hq;rw [ux];dsimp only [Zb,Za]
  (refine Jj<|Jt<|Jr<|ak (.of I) (.of I) .here I I (dE I) (br I) ai<|Jn<|Je ?_)
  with_reducible first|apply aO|apply aP
  case he=>exact GI I inferInstance I (At.lit .here I)
  case hR=>exact fun w' aB=>⟨I,aB.keeps⟩
 case round=>
  intro l0 rc W fp k u vs hsz hk hq hB hF;obtain ⟨a,hit,rfl,Dk⟩:=EA hk;obtain ⟨aL,LS⟩:=Zl.1 Dk;have htk:(fF r.po v (r.ti.length+1) x.nm).take (k+1)=(fF r.po v (r.ti.length+1) x.nm).take k++[a]:=by rw [Zm aL,LS]
  dsimp only [List.zip_cons_cons,List.zip_nil_right,nj,Zb,Za];refine Jg<|Ja I<|Jn ?_
  with_reducible apply nA
  case ht=>exact .here
  (refine J0<|Jr<|Jv I<|bD I I ae<|JL I bE I<|ab (dD (.of I) (.of I)) I<|Jn<|gL I (fun aA=>?_) fun aA=>?_;refine Jr<|ak (.of I) (.of I) (.there .here) I I (dE I) (br I) ai<|Jn<|Je<|Jm ?_;rotate_left;refine Jw<|Jj ?_;rotate_right)
  ·apply NY () I
   case ht=>exact Take.there .here
   case hy=>
    refine fE.2 ?_;have:=Z2 Dk;rwa [aA] at this
   case h2=>exact .h2 .nil
  ·apply mL ()
   case ht=>exact .here
   case hx=>
    show eZ ((fF r.po v (r.ti.length+1) x.nm).take (k+1)) x.nm=false;rw [htk];unfold eZ at hq ⊢;rw [List.any_append,hq];simp;exact fun e=>aA e.symm
   case h2=>exact .h2 .nil
theorem Fe (x:Sr) (o:ByteArray) {b2:Nat} {w:World} (f2:w.cell? ⟨b2,0,none⟩=some (.string o)) :
  an T_ 228 [.agg x.cells.toArray,.p b2] w (.bool (decide (x.nm=o))):=by
 unfold Sr.cells;refine aj func228 I I ?_
 (refine Jr<|Jy I I fun _ _=>Ja I<|Ji<|bD I I ae<|JL I .here I<|ab (ag (.of I) (At.base f2 I)) I<|ab (dD (.of I) (.of I)) I<|Ja I<|Jn<|Je<|JT ?_)
 rfl
theorem Ql (v:Int) {w:World} (h:RR w r s d t p) (c6:r.ti.length<=1000000):an T_ 149 [RA r s d t p,.q v] w (.bool (r.ti.any (NA r v))):=by
 obtain ⟨h1,h2,h3,h4⟩:=h.one;unfold RA;refine aj func149 I I ?_
 (refine Jr<|Jy I I fun _ _=>Jy I I fun _ _=>Ja I<|Ji<|bD I I ae<|JL I (.there .here) I<|ab (bC .nil (.o I (.o I .nil))) I ?_)
 rename_i b3 rz b4 sH
 with_reducible apply ah
 case hr=>exact bn
 case hd=>rfl
 case hc=>
  intro w' aB;have hA:BR w' b3 [.q r.lv,.q r.ma,s,d,t,p]:=BR.of aB (by exact Take.there .here);have f2:w'.cell? ⟨b4,0,none⟩=some (.q v):=At.lit (by exact .here) I w' aB;have hR:=h.keeps aB.keeps
  exact Bn (f:=237) (p:=NA r v) (first:=[]) (cap:=[.p b3,.p b4]) hR.ti
   (fun x hx w2 fg=>Mr v x (hR.keeps fg) c6 (hA.keeps fg) (cK f2 I fg))
 refine Ja I<|Jn<|Je<|JT ?_
 rfl
def jY (r:Ro) (v:Int) (o:ByteArray):ByteArray:=if r.sr.any (fun x=>decide (x.nm=iF r.po v (r.ti.length+1) o)) then iF r.po v (r.ti.length+1) o else ⟨#[]⟩
theorem qJ (v:Int) (o:ByteArray) {w:World} (h:RR w r s d t p) (c6:r.ti.length<=1000000):an T_ 126 [RA r s d t p,.q v,.string o] w (.string (jY r v o)):=by
 obtain ⟨h1,h2,h3,h4⟩:=h.one;unfold RA;refine aj func126 I I ?_
 (refine Jr<|Jy I I fun _ _=>Ja I<|Ji<|Jv I<|Jz I I fun _ _=>ak (.of I) (.of I) .here I I (dE I) (br I) ai<|Jn<|Jq<|Jr<|ab (bU (.there .here)) I<|Jv I<|Jv I ?_)
 rename_i b3 rz b7 Ud;refine JN dU I (fun w1 aT=>wC v o (h.keeps aT.keeps)) ?_;intro y _;dsimp only [id_eq,Zb,Za];refine Jn<|J0 ?_
 refine jO (ps:=[14]) (f:=222) (first:=[]) (cap:=[.pointer (some ⟨y.1,0,none⟩),.pointer (some ⟨y.2.1,0,none⟩),.pointer (some ⟨y.2.2,0,none⟩)]) (ι:=ByteArray) (κ:=Empty) (rst:=[JP b3 r s d t p]) ?hg
  [bu y.1 (.cells #[.string o] 9 (0,0)),JP y.2.1 r s d t p,bu y.2.2 (.cells #[.q v] 3 (0,0))] (ym r.po v (r.ti.length+1) o) ?hit
  (fun k a=>mR r.po v k o=some a) (fun a=>[bu b7 (.cells #[.string a] 9 (0,0))])
  (fun _=>False) (fun _=>[]) (fun _=>.ret) o I ?ht ?hlen ?hps ?round ?kn ?kj
 case hg=>exact Is.of I
 case hit=>intro w' aB;exact EB v o h RO.nil c6
 case ht=>
  dsimp only [Zb,Za];exact .cons cI (.h3 .nil)
 case hlen=>intro vs pK;obtain ⟨x,_,rfl⟩:=Zw.1 pK;rfl
 case hps=>intro t ht;simp only [ZQ,Zo,or_false] at ht;rcases ht with rfl;exact ZaA rfl
 case kj=>
  intro y D hy;exact hy.elim
 case kn=>
  intro a D hq;rw [si,Uy,Option.some.injEq] at hq;have te:jY r v o=if r.sr.any (fun x=>decide (x.nm=a)) then a else ⟨#[]⟩:=by rw [<- hq];rfl
  rw [te];dsimp only [Zb,Za]
  (refine Jj<|Jt<|Jq<|Jr<|bD I I ae<|JL I c7 I<|ab (bC .nil (.o I .nil)) I ?_)
  with_reducible apply ah
  case hr=>exact bn
  case hd=>rfl
  case hc=>
   intro w' aB;have f2:w'.cell? ⟨b7,0,none⟩=some (.string a):=At.lit (by exact .here) I w' aB
   exact PV (f:=228) (p:=fun x=>decide (x.nm=a)) (first:=[]) (cap:=[.p b7]) (h.keeps aB.keeps).sr
    (fun x hx w2 fg=>Fe x a (cK f2 I fg))
  cases r.sr.any (fun x=>decide (x.nm=a)) with
  | true =>
   (refine Jn<|c5 (.of I)<|Jr<|JL I .here I<|Ja I<|Jn<|Ju ?_)
   with_reducible first|apply aO|apply aP
   case he=>exact dN I I
   case hR=>exact fun w' aB=>⟨I,aB.keeps⟩
  | false =>
   (refine Jn<|cd (.of I)<|Jk<|Jr<|Ja I<|Jn<|Je ?_)
   with_reducible first|apply aO|apply aP
   case he=>exact dN I I
   case hR=>exact fun w' aB=>⟨I,aB.keeps⟩
 case round=>
  intro l0 rc W fp k a0 vs hsz hk hq hB hF;obtain ⟨a,hit,rfl,Dk⟩:=EA hk;dsimp only [List.zip_cons_cons,List.zip_nil_right,nj,Zb,Za];refine Jg<|Ja I<|Jn ?_
  with_reducible apply nA
  case ht=>exact .here
  (refine J0<|Jg<|Jv I<|ak (.of I) (.of I) (.there .here) I I (dE I) (br I) ai<|Jx<|Jj ?_)
  apply mL a
  case ht=>exact Take.there .here
  case hx=>exact hit
  case h2=>
   exact .h1 .nil
theorem rK {k k':ByteArray} {v:Value}:∀ {l:List (ByteArray×Value)},eS k' (nO k v l)=if k'=k then some v else eS k' l
 | []=>by simp [nO,eS]
 | (x, u) :: r => by
  simp only [nO];split
  ·rename_i e;subst e;simp only [eS];split <;> rfl
  ·rename_i e;simp only [eS];rw [rK];by_cases h:k'=x
   ·rw [if_pos h,if_pos h,if_neg (fun q=>e (q.symm.trans h))]
   ·rw [if_neg h,if_neg h]
theorem Le {α:Type} {l:List α} {key:α->ByteArray} {val:Nat->α->Value} {f:Nat->PM} (hs:∀ k (h:k<l.length),f (k+1)=nO (key l[k]) (val k l[k]) (f k)) (s:ByteArray) :
  (∀ k,k<=l.length->(∀ j (hj:j<l.length),j<k->key l[j]≠s)->eS s (f k)=eS s (f 0)) /\
  (∀ k,k<=l.length->∀ i (hi:i<l.length),i<k->key l[i]=s->(∀ j (hj:j<l.length),i<j->j<k->key l[j]≠s)->eS s (f k)=some (val i l[i])):=by
 constructor
 ·intro k
  induction k with
  | zero=>intro _ _;rfl
  | succ k ih =>
   intro hk hne;rw [hs k (by omega),rK,if_neg (fun e=>hne k (by omega) (by omega) e.symm)]
   exact ih (by omega) fun j hj h=>hne j hj (by omega)
 ·intro k
  induction k with
  | zero=>intro _ i _ h;omega
  | succ k ih =>
   intro hk i hi YO he hne;rw [hs k (by omega),rK];by_cases e:i=k
   ·subst e;rw [if_pos he.symm]
   ·rw [if_neg (fun q=>hne k (by omega) (by omega) (by omega) q.symm)]
    exact ih (by omega) i hi (by omega) he fun j hj h h'=>hne j hj h (by omega)
theorem wO {α:Type} {l:List α} {key:α->ByteArray} {val:Nat->α->Value} {f:Nat->PM} (hs:∀ k (h:k<l.length),f (k+1)=nO (key l[k]) (val k l[k]) (f k)) (s:ByteArray) :
  (s ∉ l.map key->eS s (f l.length)=eS s (f 0))/\((l.map key).Nodup->∀ i (hi:i<l.length),key l[i]=s->eS s (f l.length)=some (val i l[i])):=by
 obtain ⟨h1,h2⟩:=Le hs s;constructor
 ·intro hn;exact h1 _ (Zv _) fun j hj _ e=>hn (Zw.2 ⟨_,Zj hj,e⟩)
 ·intro hd i hi he;refine h2 _ (Zv _) i hi hi he fun j hj zB _ e=>?_;have:=(Zab.1 hd) i j (by rw [Zd];exact hi) (by rw [Zd];exact hj) zB;rw [Z1,Z1,he,e] at this;exact this I
structure DT (r:Ro):Prop where
 nd:(dh r).Nodup
theorem DT.parts (h:DT r):(cN r).Nodup/\(cu r).Nodup/\(cQ r).Nodup/\(∀ s∈cN r,s ∉ cu r)/\(∀ s∈cN r,s ∉ cQ r)/\(∀ s∈cu r,s ∉ cQ r):=by
 have:=h.nd;unfold dh at this;rw [ZI] at this;obtain ⟨h1,h2,h3⟩:=this;rw [ZI] at h1;obtain ⟨h4,h5,h6⟩:=h1;exact ⟨h4,h5,h2,fun s hs hd=>h6 s hs s hd I,fun s hs ht=>h3 s (ZH _ hs) s ht I,fun s hs ht=>h3 s (ZT _ hs) s ht I⟩
theorem dK {l:List ByteArray} {s:ByteArray} (h:s∈l):0<=bB l s:=by
 have:=(not_congr (cJ (l:=l) (s:=s))).2 (not_not_intro h);omega
theorem tL {l:List ByteArray} {s:ByteArray} (hd:l.Nodup) {i:Nat} (h:i<l.length) (e:l[i]=s):bB l s=(i:Nat):=
 rC h e fun j hj q=>by
  have:=(Zab.1 hd) j i (by omega) h hj;exact this (q.trans e.symm)
theorem oo (hd:DT r) (s:ByteArray):eS s (om r)=if eZ (dh r) s then some (kZ (eE r s) (k6 r s) (kD r s)) else none:=by
 obtain ⟨n1,n2,n3,d1,d2,d3⟩:=hd.parts;have hS:=wO (l:=r.sr) (key:=Sr.nm) (val:=fun _ x=>kZ (-1) (-1) x.mx) (f:=xT r.sr) (fun k h=>KN h) s
 have hD:=wO (l:=r.de) (key:=De.nm) (val:=fun k x=>kZ (k:Nat) x.mx (-1)) (f:=DW (xT r.sr r.sr.length) r.de) (fun k h=>KO h) s
 have hT:=wO (l:=r.ti) (key:=Ti.nm) (val:=fun k x=>kZ ((r.de.length:Int)+(k:Nat)) x.fr x.to) (f:=Nn (DW (xT r.sr r.sr.length) r.de r.de.length) r.de.length r.ti) (fun k h=>KM h) s
 change (s ∉ cQ r->eS s (om r)=eS s (DW (xT r.sr r.sr.length) r.de r.de.length))/\((cQ r).Nodup->_) at hT;change (s ∉ cu r->eS s (DW (xT r.sr r.sr.length) r.de r.de.length)=eS s (xT r.sr r.sr.length))/\((cu r).Nodup->_) at hD;change (s ∉ cN r->eS s (xT r.sr r.sr.length)=eS s [])/\((cN r).Nodup->_) at hS;have fj:eZ (dh r) s=true↔(s∈cN r\/s∈cu r)\/s∈cQ r:=by rw [fE];unfold dh;rw [Zz,Zz]
 by_cases ht:s∈cQ r
 ·rw [if_pos (fj.2 (.inr ht))];obtain ⟨i,hi,e⟩:=ZA ht;have yu:i<r.ti.length:=by unfold cQ at hi;rwa [Zd] at hi
  have e':(r.ti[i]).nm=s:=by simpa [cQ] using e
  have hf:=tL n3 hi e;have f1:bB (cu r) s<0:=cJ.2 fun h=>d3 s h ht
  have f2:bB (cN r) s<0:=cJ.2 fun h=>d2 s h ht
  refine (hT.2 n3 i yu e').trans ?_;unfold eE k6 kD;rw [if_neg (by omega),if_pos (by rw [hf];omega),if_neg (by omega),if_pos (by rw [hf];omega),if_neg (by omega),if_pos (by rw [hf];omega),hf,ZE,Zk,Zc yu]
  rfl
 ·rw [hT.1 ht];have f3:bB (cQ r) s<0:=cJ.2 ht;by_cases Bk:s∈cu r
  ·rw [if_pos (fj.2 (.inl (.inr Bk)))];obtain ⟨i,hi,e⟩:=ZA Bk;have yu:i<r.de.length:=by unfold cu at hi;rwa [Zd] at hi
   have e':(r.de[i]).nm=s:=by simpa [cu] using e
   have hf:=tL n2 hi e;have f2:bB (cN r) s<0:=cJ.2 fun h=>d1 s h Bk
   refine (hD.2 n2 i yu e').trans ?_;unfold eE k6 kD;rw [if_pos (by rw [hf];omega),if_pos (by rw [hf];omega),if_neg (by omega),if_neg (by omega),hf,ZE,Zk,Zc yu]
   rfl
  ·rw [hD.1 Bk];have f1:bB (cu r) s<0:=cJ.2 Bk;by_cases hs:s∈cN r
   ·rw [if_pos (fj.2 (.inl (.inl hs)))];obtain ⟨i,hi,e⟩:=ZA hs;have yu:i<r.sr.length:=by unfold cN at hi;rwa [Zd] at hi
    have e':(r.sr[i]).nm=s:=by simpa [cN] using e
    have hf:=tL n1 hi e;refine (hS.2 n1 i yu e').trans ?_;unfold eE k6 kD;rw [if_neg (by omega),if_neg (by omega),if_neg (by omega),if_neg (by omega),if_pos (by rw [hf];omega),hf,ZE,Zk,Zc yu]
    rfl
   ·rw [hS.1 hs,if_neg (fun h=>by rcases fj.1 h with (h | h) | h <;> contradiction)]
    rfl
def lx (x y:Int):Int:=if x<y then -1 else if y<x then 1 else 0
def mG:List Int->List Int->Int
 | [],[]=>0
 | [],_::_=>-1
 | _::_,[]=>1
 | x::a,y::b=>if lx x y≠0 then lx x y else mG a b
theorem ji {x y:Int}:lx x y=0↔x=y:=by
 unfold lx;split
 ·constructor <;> intro h <;> omega
 ·split <;> constructor <;> intro h <;> omega
theorem Mz:∀ b:List Int,mG [] b=if 0<b.length then -1 else 0
 | []=>rfl
 | _::_=>rfl
theorem H5 {a b:List Int} (ha:k<a.length) (hb:k<b.length):mG (a.drop k) (b.drop k)=if lx a[k] b[k]≠0 then lx a[k] b[k] else mG (a.drop (k+1)) (b.drop (k+1)):=by
 rw [Zt ha,Zt hb];rfl
end Go.Proofs.A1
namespace Go.SL
open Go
def Eu (l:List Oper) (m p:Nat):Bool:=
 l.all pD&&uU l 0&&lH l.toArray (l.take m) 0&&(List.range' m (l.length-m)).all (fun k=>(List.range m).all fun i=>Nat.beq i p||((jD l []).getD k 0).testBit i)&&Nat.ble m l.length
def SP (l:List Oper) (m:Nat):Bool:=Eu l m m
structure QG (l:List Oper) (m p:Nat):Prop where
 op:∀ o∈l,pD o=true
 ac:uU l 0=true
 CS:lH l.toArray (l.take m) 0=true
 tail:∀ k,m<=k->k<l.length->∀ i,i<m->i≠p->((jD l []).getD k 0).testBit i=true
 le:m<=l.length
theorem CN {l:List Oper} {m p:Nat} (h:Eu l m p=true):QG l m p:=by
 simp only [Eu,Zn,Zaj] at h;obtain ⟨⟨⟨⟨h1,h2⟩,h3⟩,h5⟩,h6⟩:=h;refine ⟨h1,h2,h3,fun k hk aL i hi hne=>?_,by simpa using h6⟩;have:=h5 k (Zbb.2 ⟨hk,by omega⟩) i (ZU.2 hi);rw [ZS] at this;exact this.resolve_left (by simpa using hne)
theorem sn {l:List Oper} {m p:Nat} (hc:QG l m p) {i j:Nat} {x y:Oper} (zB:i<j) (hj:j<m) (hx:l[i]? = some x) (hy:l[j]? = some y):rf l.toArray x y i=true:=by
 have:=oy hc.CS (i:=i) (j:=j) zB (by rw [ZN,if_pos (by omega)];exact hx) (by rw [ZN,if_pos hj];exact hy);simpa using this
theorem CO {l:List Oper} {m p:Nat} (hc:QG l m p) {listed:Array Bool} (hsz:listed.size=l.length) (Bj:DC l (Ls listed)) {i:Nat} (hi:i∈Region.ready .any l.toArray listed) (hm:m<=i):∀ j,j<m->j≠p->Ls listed j:=by
 intro j hj hjp;obtain ⟨o,ho,hn,hd⟩:=(eI hsz).1 hi;have aL:i<l.length:=(Zl.1 ho).1;have EX:DC l (fun k=>k=i\/Ls listed k):=by
  intro k ok hk hL e he hb;rcases hL with e' | hL
  ·subst e';rw [ho] at hk;cases hk;exact .inr (hd e he hb)
  ·exact .inr (Bj k ok hk hL e he hb)
 rcases jR EX hc.ac i aL (.inl rfl) j (hc.tail i hm aL j hj hjp) with h | h
 ·omega
 ·exact h
structure dd where
 F:(Nat->Value)->Value
 A:(Nat->Value)->List bd
def Af (β:Nat->Value) (i:Nat) (x:Value):Nat->Value:=fun k=>if k=i then x else β k
theorem vN (β:Nat->Value) (i:Nat):Af β i (β i)=β:=by
 funext k;unfold Af;split
 ·rename_i h;rw [h]
 ·rfl
theorem jo (β:Nat->Value) (i:Nat) (x:Value):Af β i x i=x:=by unfold Af;rw [if_pos I]
theorem Ae {β:Nat->Value} {i k:Nat} {x:Value} (h:k≠i):Af β i x k=β k:=by unfold Af;rw [if_neg h]
def BL (l:List Oper) (i k:Nat):Bool:=Nat.beq i k||((jD l []).getD i 0).testBit k
def fh (β:Nat->Value) (lst:Nat->Bool):List dd->Nat->List bd
 | [],_=>[]
 | s::S,i=>(if lst i then s.A β else [])++fh β lst S (i+1)
theorem kG {β β':Nat->Value} {lst oC:Nat->Bool}:∀ {S:List dd} {i:Nat},(∀ j s,S[j]? = some s->lst (i+j)=oC (i+j)/\(lst (i+j)=true->s.A β=s.A β'))->fh β lst S i=fh β' oC S i
 | [],_,_=>rfl
 | s :: S, i, h => by
  have h0:=h 0 s I;have ih:fh β lst S (i+1)=fh β' oC S (i+1):=kG fun j s' hj=>by have:=h (j+1) s' (by simpa using hj);rwa [show i+(j+1)=i+1+j from by omega] at this
  simp only [Zas] at h0;unfold fh;rw [ih,<- h0.1];by_cases hl:lst i=true
  ·rw [if_pos hl,if_pos hl,h0.2 hl]
  ·rw [if_neg hl,if_neg hl]
theorem wu {β:Nat->Value} {lst oC:Nat->Bool} {k:Nat} {s:dd}:∀ {S:List dd} {i:Nat},S[k]? = some s->lst (i+k)=false->oC (i+k)=true->(∀ j,j≠i+k->oC j=lst j) ->
  (s.A β++fh β lst S i).Perm (fh β oC S i)
 | [],_,h,_,_,_=>by simp at h
 | s0 :: S, i, h, h1, h2, h3 => by
  cases k with
  | zero =>
   simp at h;subst h;have e:fh β lst S (i+1)=fh β oC S (i+1):=kG fun j s' hj=>⟨(h3 (i+1+j) (by omega)).symm,fun _=>rfl⟩
   simp only [Zas] at h1 h2;unfold fh;rw [if_neg (by simp [h1]),if_pos h2,e];simp
  | succ k =>
   have ih:(s.A β++fh β lst S (i+1)).Perm (fh β oC S (i+1)):=by
    refine wu (k:=k) (by simpa using h) ?_ ?_ ?_
    all_goals rw [show i+1+k=i+(k+1) from by omega];assumption
   unfold fh;rw [h3 i (by omega)];refine List.Perm.trans ?_ (ih.append_left _);rw [<- Zh,<- Zh];exact List.perm_append_comm.append_right _
theorem wj {β:Nat->Value} {lst:Nat->Bool} {s:dd}:∀ {S:List dd} {i j:Nat},S[j]? = some s->lst (i+j)=true->(s.A β).Sublist (fh β lst S i)
 | [],_,j,h,_=>by simp at h
 | s0 :: S, i, 0, h, h1 => by
  simp at h;subst h;unfold fh;rw [Zas] at h1;rw [if_pos h1];exact Zbs _ _
 | s0 :: S, i, j + 1, h, h1 => by
  unfold fh;exact (wj (S:=S) (i:=i+1) (j:=j) (by simpa using h) (by rwa [show i+1+j=i+(j+1) from by omega])).trans (Zbo _ _)
theorem cy.sublist {h:Nat->Option Obj} {l1 l2:List bd} (hs:l1.Sublist l2):∀ {fp:List Nat},cy h l2 fp->∃ mE:List Nat,cy h l1 mE/\mE.Sublist fp:=by
 induction hs with
 | slnil=>intro fp hf;exact ⟨fp,hf,List.Sublist.refl _⟩
 | cons A _ ih =>
  rintro fp ⟨f1,f2,rfl,_,h2⟩;obtain ⟨g,hg,js⟩:=ih h2;exact ⟨g,hg,js.trans (Zbo _ _)⟩
 | cons_cons A _ ih =>
  rintro fp ⟨f1,f2,rfl,h1,h2⟩;obtain ⟨g,hg,js⟩:=ih h2;exact ⟨f1++g,⟨f1,g,I,h1,hg⟩,(List.Sublist.refl f1).append js⟩
theorem Mem.sublist {c:Cx} {l1 l2:List bd} {w:World} (h:Mem c l2 w) (hs:l1.Sublist l2):Mem c l1 w:=by
 obtain ⟨k,fp,hn,gi,hb⟩:=h;obtain ⟨g,hg,js⟩:=gi.sublist hs;exact ⟨k,g,hn.sublist js,hg,fun b dQ=>hb b (js.subset dQ)⟩
def qT (P:Program) (o:Oper) (a:Act) (w:World) (K:Value->World->Prop):Prop:=
 match (execOp a.eval o).run P w with
 | .ok (.value v) w'=>K v w'
 | .ok (.enter f args) w'=>w'=w/\Calls P f args w (fun e z8=>∃ v,e=.returned v/\K v z8)
 | _=>False
section
variable {P:Program} {c:Cx} {D:List Nat} {sl:aN} {hs:List bd} {Q:Exit->Act->World->Prop} {l:List Oper} {m:Nat}
def kq (c:Cx) (hs:List bd) (S:List dd) (B:List Nat) (β:Nat->Value) (w:World):Prop:=∀ A:List bd,(A=[]\/∃ j,j∈B/\∃ s,S[j]? = some s/\A=s.A β)->Mem c (A++hs) w
variable {B:List Nat} {i:Nat} {o:Oper} {w:World} {β:Nat->Value}
theorem kq.mem {S:List dd} (h:kq c hs S B β w):Mem c hs w:=h [] (.inl I)
theorem kq.at {S:List dd} (h:kq c hs S B β w) (j:Nat) {s:dd} (hj:j∈B) (hs':S[j]? = some s):Mem c (s.A β++hs) w:=h _ (.inr ⟨j,hj,s,hs',I⟩)
def Na (i:Nat) (s:dd) (β:Nat->Value) (w:World) (v:Value) (w':World):Prop:=∃ x,v=s.F (Af β i x)/\aI [] w w'/\∃ fp:List Nat,fp.Nodup/\cy (hp w') (s.A (Af β i x)) fp/\∀ b∈fp,w.heap.size<=b
def oT {α:Type} (l:List Oper) (i:Nat) (F:(Nat->Value)->α):Prop:=∀ β β',(∀ k,BL l i k=true->β k=β' k)->F β=F β'
structure Fo (P:Program) (c:Cx) (hs:List bd) (l:List Oper) (i:Nat) (o:Oper) (SL:(Nat->Value)->aN) (S:List dd) (s:dd):Prop where
 EK:oT l i s.F
 EL:oT l i s.A
 run:∃ B:List Nat,(∀ j∈B,fG o j=true)/\∀ β a w,bZ (SL β) a->kq c hs S B β w->if Region.wanted o (yielded l.toArray a.tmps)=true then qT P o a w (Na i s β w) else Na i s β w undef w
def lX (l:List Oper) (o:Oper) (j:Nat):Bool:=fG o j||(List.range l.length).any fun k=>fG o k&&(match l[k]? with | some q=>fG q j | none=>false)
theorem GZ {l:List Oper} {j:Nat} (h:fG o j=true):lX l o j=true:=by unfold lX;rw [h];rfl
structure BQ (P:Program) (c:Cx) (hs:List bd) (l:List Oper) (i:Nat) (o:Oper) (SL:(Nat->Value)->aN) (S:List dd) (s:dd):Prop where
 EK:oT l i s.F
 EL:oT l i s.A
 run:∃ B:List Nat,(∀ j∈B,lX l o j=true)/\∀ β a w,bZ (SL β) a->kq c hs S B β w->if Region.wanted o (yielded l.toArray a.tmps)=true then qT P o a w (Na i s β w) else Na i s β w undef w
theorem Fo.toT {P:Program} {c:Cx} {hs:List bd} {l:List Oper} {SL:(Nat->Value)->aN} {S:List dd} {s:dd} (h:Fo P c hs l i o SL S s):BQ P c hs l i o SL S s:=⟨h.EK,h.EL,let ⟨B,hB,r⟩:=h.run;⟨B,fun j hj=>GZ (hB j hj),r⟩⟩
inductive xL (P:Program) (c:Cx) (hs:List bd) (l:List Oper):Nat->List Oper->((Nat->Value)->aN)->List dd->List dd->((Nat->Value)->aN)->Prop
 | nil {i:Nat} {SL:(Nat->Value)->aN} {S:List dd}:xL P c hs l i [] SL S S SL
 | step {i d:Nat} {o:Oper} {rest:List Oper} {SL qQ:(Nat->Value)->aN} {S S':List dd} {s:dd} (hd:o.dst=some d) (gl:d<c.nt) (h:BQ P c hs l i o SL S s)
   (t:xL P c hs l (i+1) rest (fun β=>(d,s.F β)::SL β) (S++[s]) S' qQ):xL P c hs l i (o::rest) SL S S' qQ
def qh (sl:aN) (pre:List Oper) (SL:(Nat->Value)->aN) (S:List dd):Prop:=
 ∀ β t v,dj (SL β) t=some v->(∃ (j:Nat) (oj:Oper) (s:dd),pre[j]? = some oj/\oj.dst=some t/\S[j]? = some s/\v=s.F β)\/((∀ oj∈pre,oj.dst≠some t)/\dj sl t=some v)
theorem qh.step {pre:List Oper} {SL:(Nat->Value)->aN} {S:List dd} (h:qh sl pre SL S) (hl:S.length=pre.length) {o:Oper} {d:Nat} {s:dd} (hd:o.dst=some d):qh sl (pre++[o]) (fun β=>(d,s.F β)::SL β) (S++[s]):=by
 intro β t v hv;by_cases e:d=t
 ·subst e;rw [gr] at hv;cases hv;exact .inl ⟨pre.length,o,s,by simp,hd,by rw [<- hl];simp,I⟩
 ·rw [gq e] at hv;rcases h β t v hv with ⟨j,oj,s',h1,h2,h3,h4⟩ | ⟨h1,h2⟩
  ·refine .inl ⟨j,oj,s',?_,h2,?_,h4⟩
   ·rw [Zx (Zl.1 h1).1];exact h1
   ·rw [Zx (Zl.1 h3).1];exact h3
  ·refine .inr ⟨fun oj PG=>?_,h2⟩;rcases Zz.1 PG with PG | PG
   ·exact h1 oj PG
   ·rw [ZD.1 PG,hd];simp [e]
theorem xL.spec {rest:List Oper} {SL qQ:(Nat->Value)->aN} {S S':List dd} (h:xL P c hs l i rest SL S S' qQ):∀ pre:List Oper,pre.length=i->S.length=i->qh sl pre SL S ->
  S'.length=i+rest.length/\S <+: S'/\qh sl (pre++rest) qQ S'/\∀ k o,i<=k->(pre++rest)[k]? = some o->∃ d M7 s,o.dst=some d/\d<c.nt/\S'[k]? = some s/\qh sl ((pre++rest).take k) M7 (S'.take k)/\BQ P c hs l k o M7 (S'.take k) s:=by
 induction h with
 | @nil i SL S =>
  intro pre hp hS nn;refine ⟨by simpa using hS,List.prefix_rfl,by simpa using nn,fun k o hk ho=>?_⟩;have:=(Zl.1 ho).1;simp at this;omega
 | @step i d o rest SL qQ S S' s hd gl bb t ih =>
  intro pre hp hS nn;obtain ⟨h1,h2,h3,h4⟩:=ih (pre++[o]) (by simp [hp]) (by simp [hS]) (nn.step (by omega) hd);rw [Zh,List.singleton_append] at h3 h4;have LG:S <+: S':=(ZaW S [s]).trans h2;have uC:S'[i]? = some s:=by
   obtain ⟨r,rfl⟩:=h2;rw [Zh,ZC (by omega),hS];simp
  have hSt:S'.take i=S:=by
   obtain ⟨r,rfl⟩:=LG;rw [<- hS];simp
  refine ⟨by rw [h1];simp;omega,LG,h3,fun k ok hk ho=>?_⟩;by_cases e:k=i
  ·subst e;have Gn:ok=o:=by
    rw [ZC (by omega),hp] at ho;simpa using ho.symm
   subst Gn;have htk:(pre++ok::rest).take k=pre:=by rw [<- hp];simp
   rw [htk,hSt];exact ⟨d,SL,s,hd,gl,uC,nn,bb⟩
  ·exact h4 k ok (by omega) ho
structure Yc (c:Cx) (D:List Nat) (hs:List bd) (l:List Oper) (m:Nat) (S:List dd) (a0:Act) (fuel:Nat) (listed:Array Bool) (a:Act) (w:World):Prop where
 sz:listed.size=l.length
 dc:DC l (Ls listed)
 hi:∀ k,m<=k->¬ Ls listed k
 defers:a.defers=D.map mark
 size:a.tmps.size=c.nt
 F9:∀ t,(∀ (j:Nat) (o:Oper),l[j]? = some o->Ls listed j->o.dst≠some t)->a.tmps[t]? = a0.tmps[t]?
 left:∃ U:List Nat,U.Nodup/\(∀ i,i∈U↔i<l.length/\¬ Ls listed i)/\U.length=fuel
 own:∃ β:Nat->Value,Mem c (fh β (fun i=>listed.getD i false) S 0++(hs++nF D)) w/\∀ (j:Nat) (o:Oper) (d:Nat) (s:dd),l[j]? = some o->o.dst=some d->S[j]? = some s->Ls listed j->a.tmps[d]? = some (s.F β)
def qU (n m:Nat):Array Bool:=(List.replicate m true++List.replicate (n-m) false).toArray
theorem Mi {P:Program} {dst:Option Tmp} {x:Operand} {k:Nat} {ty:TypeId} {pos:String} {af:Array Edge} {ρ:Operand->Value} {K:Value->World->Prop}
  (h:match (execOp ρ ⟨dst,.extract x k,ty,pos,af,none⟩).run P w with
   | .ok (.value v) w'=>K v w'
   | .ok (.enter f args) w'=>w'=w/\Calls P f args w (fun e z8=>∃ v,e=.returned v/\K v z8)
   | _=>False):∃ v,K v w/\∀ w2,(execOp ρ ⟨dst,.extract x k,ty,pos,af,none⟩).run P w2=.ok (.value v) w2:=by
 simp only [execOp] at h ⊢;generalize ρ x=u at h ⊢;cases u with
 | tuple vs =>
  simp only [Instr.extract] at h ⊢;cases hv:vs[k]? with
  | none=>simp [hv] at h
  | some v=>simp [hv] at h ⊢;exact h
 | _=>simp [Instr.extract] at h
def Fs (l:List Oper) (p:Nat):Prop:=∃ d x k ty pos af,l[p]? = some ⟨some d,.extract x k,ty,pos,af,none⟩/\Region.noSelect l.toArray=true/\Region.free .any l.toArray ((List.range l.length).map fun j=>((jD l []).getD p 0).testBit j).toArray p=true
theorem HX {ops:Array Oper} {l1 l2:Array Bool} (h:Region.free .any ops l1 i=true) (hle:∀ j,j<ops.size->j≠i->l1.getD j true=true->l2.getD j true=true):Region.free .any ops l2 i=true:=by
 unfold Region.free at h ⊢;cases hi:ops[i]? with
 | none=>rw [hi] at h;cases h
 | some oi =>
  rw [hi] at h;simp only [Zaj,ZU] at h ⊢;intro j hj;have h1:=h j hj;simp only [ZS] at h1 ⊢;rcases h1 with (h1 | h1) | h1
  ·exact .inl (.inl h1)
  ·by_cases e:j=i
   ·exact .inl (.inl (by simp [e]))
   ·exact .inl (.inr (hle j hj e h1))
  ·exact .inr h1
theorem Hp {l:List Oper} (Xl:uU l 0=true) {listed:Array Bool} (hsz:listed.size=l.length) (Bj:DC l (Ls listed)) {i:Nat} (hi:i∈Region.ready .any l.toArray listed) {j:Nat} (abR:((jD l []).getD i 0).testBit j=true):j=i\/Ls listed j:=by
 obtain ⟨o,ho,hn,hd⟩:=(eI hsz).1 hi;have aL:i<l.length:=(Zl.1 ho).1;have EX:DC l (fun k=>k=i\/Ls listed k):=by
  intro k ok hk hL e he hb;rcases hL with e' | hL
  ·subst e';rw [ho] at hk;cases hk;exact .inr (hd e he hb)
  ·exact .inr (Bj k ok hk hL e he hb)
 exact jR EX Xl i aL (.inl I) j abR
def qi (P:Program) (c:Cx) (D:List Nat) (hs:List bd) (l:List Oper) (Q:Exit->Act->World->Prop) (m i n:Nat) (rest:List Oper) (SL:(Nat->Value)->aN) (S:List dd):Prop:=
 ∃ S' qQ,xL P c hs l i (rest.take n) SL S S' qQ/\∀ β,Tr c D (qQ β) (fh β (fun _=>true) S' 0++hs) (Left P l.toArray Q (l.length-m) (qU l.length m))
end
end Go.SL
