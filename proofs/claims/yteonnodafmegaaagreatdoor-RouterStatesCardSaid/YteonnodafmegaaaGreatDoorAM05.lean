/- Parts of the proof: K5 K6 GkLook K7 K8 K9 K9q. -/
import Derived.Test.YteonnodafmegaaaGreatDoorAM04
import Derived.Test.YteonnodafmegaaaGreatDoorAM03
import Derived.Test.YteonnodafmegaaaGreatDoorAM01
set_option linter.unusedSectionVars false
set_option linter.unusedVariables false
set_option linter.unusedSimpArgs false
namespace Go.Proofs.A1
open Go Go.SL
theorem EU {c:Cx} {D:List Nat} {sl:aG} {hs hs':List ba} {X:Act→World→Prop} {E:TypeId} {g:Nat} {xs:List Value} (n sz:Nat) (ht:Take hs (bD g (.cells xs.toArray E (0,0))) hs') (hl:xs.length=n*sz) (hn:Nat.ble n 1000=true)
  (k:Tr c D sl (row E sz (.slice (some ⟨g,0,none⟩) n n) n xs::hs') X):Tr c D sl hs X:=
 c8 (cur:=[]) (by rw [List.append_nil];exact ht) (Nat.le_refl _) (by have:=Nat.le_of_ble_eq_true hn;unfold maxLen;omega) (by rw [List.append_nil];exact hl) hl k
theorem bQ {c:Cx} {D:List Nat} {sl:aG} {hs hs':List ba} {X:Act→World→Prop} {E:TypeId} {g:Nat} {xs ys:List Value} (n sz:Nat) (ht:Take hs (bD g (.cells xs.toArray E (0,0))) hs') (he:xs=ys) (hl:ys.length=n*sz) (hn:Nat.ble n 1000=true)
  (k:Tr c D sl (row E sz (.slice (some ⟨g,0,none⟩) n n) n ys::hs') X):Tr c D sl hs X:=by
 subst he
 exact EU n sz ht hl hn k
def iF (l:List ByteArray) (x:ByteArray):Bool:=l.any fun y=>decide (x=y)
theorem eX {l:List ByteArray} {x:ByteArray}:iF l x=true↔x∈l:=by
 unfold iF;rw [List.any_eq_true]
 constructor
 ·rintro ⟨y,hy,h⟩
  rw [decide_eq_true_iff] at h;rw [h];exact hy
 ·intro h;exact ⟨x,h,by simp⟩
theorem HJ {lv:Value} {l:List ByteArray} (x:ByteArray) {w:World} (h:Rd w lv 1 (fg l)) :
  aj Tryz.prog 181 [lv,.string x] w (.int .i64 (gA (fun y=>decide (x=y)) l)):=by
 obtain ⟨a,cp,b,o,rfl,df,bO,ha,hc⟩:=h
 rw [bV] at *
 unfold maxLen at bO
 refine ah Tryz.func181 rfl rfl ?_
 refine Jr<|Ja rfl<|Jn<|Jq<|Jr<|Jv rfl<|JI rfl<|Jv rfl<|Jn<|J0 ?_
 refine aX (fun k:Nat=>k≤l.length∧∀ i,i<k→(l[i]?.map fun y=>decide (x=y)).getD false=false) (fun k=>[(8,.int .i64 k),(7,.int .i64 l.length),(0,.slice a l.length cp),(1,.string x)]) (fun _=>[]) (fun k=>l.length-k) ?_ ?_
 ·apply aK 0 ⟨Nat.zero_le _,fun i h=>by omega⟩
  case hs1=>exact cn
  case ht=>(try simp only [List.take_zero,List.map_nil,List.nil_append]);exact .nil
 rintro k ⟨hk,hf⟩
 by_cases aN:k<l.length
 ·have cM:=ha (mw aN)
  have c0:w.cell? ⟨b,o+k*1,none⟩=some (.string l[k]):=(hc k _ (jz aN)).2 0 _ rfl
  have hps:(l[k]?.map fun y=>decide (x=y)).getD false=decide (x=l[k]):=by simp [aN]
  (refine Jr<|JA rfl<|Jn<|Jq<|Jd rfl fun aq=>Jk<|Jq<|J0<|Jr<|Jv rfl<|Ja rfl<|Ji<|Jv rfl<|Jv rfl<|Jv rfl<|ab (fM cM aq) rfl ?_;refine ab (ai (.of rfl) (At.base c0 rfl)) rfl ?_;refine ab (ee (.of rfl) (.of rfl)) rfl ?_;refine Jn<|fY rfl (fun aq=>?_) fun aq=>?_;refine Jr<|Jv rfl<|Ja rfl<|Jn<|Je<|Jm<|Jh<|Jh<|Jm<|Jh<|JT ?_;rotate_left;refine Jw<|Jj<|Jt<|Jg<|JB rfl (by omega)<|Jv rfl<|Jn ?_;rotate_right)
  ·rw [fT hf aN (by simpa using aq)]
  ·apply aL (k+1) ⟨by omega,fun i hi=>by
    by_cases e:i=k
    ·rw [e,hps];simpa using aq
    ·exact hf i (by omega)⟩ (by omega)
   case hs1=>exact cn
   case ht=>(try simp only [List.take_zero,List.map_nil,List.nil_append]);exact .nil
 ·obtain rfl:k=l.length:=by omega
  refine Jr<|JA rfl<|Jn<|Jq<|Jc rfl fun aq=>Jp<|Jl<|Jo<|Jt<|Jr<|Ja rfl<|Jn<|Je<|JT ?_
  rw [fm hf]
theorem n9 {lv:Value} {l:List ByteArray} (x:ByteArray) {w:World} (h:Rd w lv 1 (fg l)) :
  aj Tryz.prog 179 [lv,.string x] w (.bool (iF l x)):=by
 have ix:∀ w',aF [] w w'→aj Tryz.prog 181 [lv,.string x] w' (.int .i64 (gA (fun y=>decide (x=y)) l)):=fun w' hk=>HJ x (h.keeps hk)
 have e:iF l x=l.any fun y=>decide (x=y):=rfl
 rw [e,← jF]
 refine ah Tryz.func179 rfl rfl ?_
 (refine Jr<|Ja rfl<|Ji<|Jv rfl<|Jv rfl<|ag aZ rfl (fun w' az=>(ix w' (Mem.keeps az))) ?_;refine JG rfl<|Ja rfl<|Jn<|Je<|JT ?_)
 rfl
theorem LL {lv:Value} {l:List Int} (x:Int) {w:World} (h:Rd w lv 1 (ints l)) :
  aj Tryz.prog 241 [lv,.int .i64 x] w (.int .i64 (gA (fun y=>decide (x=y)) l)):=by
 obtain ⟨a,cp,b,o,rfl,df,bO,ha,hc⟩:=h
 rw [cZ] at *
 unfold maxLen at bO
 refine ah Tryz.func241 rfl rfl ?_
 refine Jr<|Ja rfl<|Jn<|Jq<|Jr<|Jv rfl<|JI rfl<|Jv rfl<|Jn<|J0 ?_
 refine aX (fun k:Nat=>k≤l.length∧∀ i,i<k→(l[i]?.map fun y=>decide (x=y)).getD false=false) (fun k=>[(8,.int .i64 k),(7,.int .i64 l.length),(0,.slice a l.length cp),(1,.int .i64 x)]) (fun _=>[]) (fun k=>l.length-k) ?_ ?_
 ·apply aK 0 ⟨Nat.zero_le _,fun i h=>by omega⟩
  case hs1=>exact cn
  case ht=>(try simp only [List.take_zero,List.map_nil,List.nil_append]);exact .nil
 rintro k ⟨hk,hf⟩
 by_cases aN:k<l.length
 ·have cM:=ha (jc aN)
  have c0:w.cell? ⟨b,o+k*1,none⟩=some (.int .i64 l[k]):=(hc k _ (gM aN)).2 0 _ rfl
  have hps:(l[k]?.map fun y=>decide (x=y)).getD false=decide (x=l[k]):=by simp [aN]
  (refine Jr<|JA rfl<|Jn<|Jq<|Jd rfl fun aq=>Jk<|Jq<|J0<|Jr<|Jv rfl<|Ja rfl<|Ji<|Jv rfl<|Jv rfl<|Jv rfl<|ab (fM cM aq) rfl ?_;refine ab (ai (.of rfl) (At.base c0 rfl)) rfl ?_;refine JC rfl<|Jn<|fY rfl (fun aq=>?_) fun aq=>?_;refine Jr<|Jv rfl<|Ja rfl<|Jn<|Je<|Jm<|Jh<|Jh<|Jm<|Jh<|JT ?_;rotate_left;refine Jw<|Jj<|Jt<|Jg<|JB rfl (by omega)<|Jv rfl<|Jn ?_;rotate_right)
  ·rw [fT hf aN (by simpa using aq)]
  ·apply aL (k+1) ⟨by omega,fun i hi=>by
    by_cases e:i=k
    ·rw [e,hps];simpa using aq
    ·exact hf i (by omega)⟩ (by omega)
   case hs1=>exact cn
   case ht=>(try simp only [List.take_zero,List.map_nil,List.nil_append]);exact .nil
 ·obtain rfl:k=l.length:=by omega
  refine Jr<|JA rfl<|Jn<|Jq<|Jc rfl fun aq=>Jp<|Jl<|Jo<|Jt<|Jr<|Ja rfl<|Jn<|Je<|JT ?_
  rw [fm hf]
theorem kM {lv:Value} {l:List Int} (x:Int) {w:World} (h:Rd w lv 1 (ints l)) :
  aj Tryz.prog 154 [lv,.int .i64 x] w (.bool (l.contains x)):=by
 have ix:∀ w',aF [] w w'→aj Tryz.prog 241 [lv,.int .i64 x] w' (.int .i64 (gA (fun y=>decide (x=y)) l)):=fun w' hk=>LL x (h.keeps hk)
 have e:l.contains x=l.any fun y=>decide (x=y):=by
  rw [List.contains_eq_any_beq];rfl
 rw [e,← jF]
 refine ah Tryz.func154 rfl rfl ?_
 (refine Jr<|Ja rfl<|Ji<|Jv rfl<|Jv rfl<|ag aZ rfl (fun w' az=>(ix w' (Mem.keeps az))) ?_;refine JG rfl<|Ja rfl<|Jn<|Je<|JT ?_)
 rfl
theorem vb {lv:Value} {l:List ByteArray} {w:World} (h:Rd w lv 1 (fg l)) (hl:l.length≤1000) :
  bd Tryz.prog 234 [lv] w [] (fun _:Value=>True) id (fun v=>[row 9 1 v l.length (aM l)]):=by
 have h':=h
 obtain ⟨a,cp,b,o,rfl,df,bO,ha,hc⟩:=h
 refine aR Tryz.func234 rfl rfl ?_
 cases a with
 | none =>
  have pK:l=[]:=by
   cases l with
   | nil=>rfl
   | cons x r=>exact absurd (ha (by simp [fg])) (by simp)
  subst pK
  (refine Jr<|Ja rfl<|Jn<|Jq<|Jr<|Jv rfl<|ab (fV (.of rfl) (.of rfl)) rfl ?_;refine Jn<|cR (.of rfl) ?_;refine Jr<|Ja rfl<|Jn<|Ju ?_)
  refine aQ 9 1 ?_
  first | with_reducible apply aO | with_reducible apply aP
  case he=>exact dj rfl rfl
  case hR=>
   intro w' az
   exact aB (.slice none 0 0) trivial (by exact .cons .here .nil) az rfl
 | some ad =>
  (refine Jr<|Ja rfl<|Jn<|Jq<|Jr<|Jv rfl<|ab (fV (.of rfl) (.of rfl)) rfl ?_;refine Jn<|bR (.of rfl) ?_;refine Jk<|Jr<|bb (aA .nil rfl rfl rfl rfl) rfl fun _ _=>?_;refine Jv rfl ?_)
  rename_i bq mT
  refine bQ (g:=bq) (E:=9) (ys:=[]) 0 1 (by exact .here) rfl rfl rfl ?_
  with_reducible apply gF
  case hx=>exact Is.of rfl
  case hy=>exact Is.of rfl
  case ht=>exact .here
  case hsrc=>exact fun w' az=>h'.keeps az.keeps
  case h1=>exact yw l
  case hz=>exact rfl
  case hsz=>exact rfl
  case hb0=>exact rfl
  case hb=>rw [bV];omega
  case hd=>rfl
  intro v'
  rw [bV,← qm,Nat.zero_add,List.nil_append]
  refine Ja rfl<|Jn<|Je ?_
  first | with_reducible apply aO | with_reducible apply aP
  case he=>exact dj rfl rfl
  case hR=>
   intro w' az
   exact aB v' trivial (by exact .cons .here .nil) az rfl
theorem KW (l:List Sr):nw l=(vt l).flatten:=rfl
theorem FP {lv:Value} {l:List Sr} {w:World} (h:Rd w lv 2 (vt l)) (hl:l.length≤1000) :
  bd Tryz.prog 266 [lv] w [] (fun _:Value=>True) id (fun v=>[row 186 2 v l.length (nw l)]):=by
 have h':=h
 obtain ⟨a,cp,b,o,rfl,df,bO,ha,hc⟩:=h
 refine aR Tryz.func266 rfl rfl ?_
 cases a with
 | none =>
  have pK:l=[]:=by
   cases l with
   | nil=>rfl
   | cons x r=>exact absurd (ha (by simp [vt])) (by simp)
  subst pK
  (refine Jr<|Ja rfl<|Jn<|Jq<|Jr<|Jv rfl<|ab (fV (.of rfl) (.of rfl)) rfl ?_;refine Jn<|cR (.of rfl) ?_;refine Jr<|Ja rfl<|Jn<|Ju ?_)
  refine aQ 186 2 ?_
  first | with_reducible apply aO | with_reducible apply aP
  case he=>exact dj rfl rfl
  case hR=>
   intro w' az
   exact aB (.slice none 0 0) trivial (by exact .cons .here .nil) az rfl
 | some ad =>
  (refine Jr<|Ja rfl<|Jn<|Jq<|Jr<|Jv rfl<|ab (fV (.of rfl) (.of rfl)) rfl ?_;refine Jn<|bR (.of rfl) ?_;refine Jk<|Jr ?_)
  with_reducible apply bb
  case hr=>exact j7
  case hd=>rfl
  intro bq mT
  refine Na rfl rfl ?_
  refine bQ (g:=bq) (E:=186) (ys:=[]) 0 2 (by exact .here) rfl rfl rfl ?_
  with_reducible apply gF
  case hx=>exact Is.of rfl
  case hy=>exact Is.of rfl
  case ht=>exact .here
  case hsrc=>exact fun w' az=>h'.keeps az.keeps
  case h1=>exact KY l
  case hz=>exact rfl
  case hsz=>exact rfl
  case hb0=>exact rfl
  case hb=>rw [cC];omega
  case hd=>rfl
  intro v'
  rw [cC,Nat.zero_add,List.nil_append,← KW]
  refine Ja rfl<|Jn<|Je ?_
  first | with_reducible apply aO | with_reducible apply aP
  case he=>exact dj rfl rfl
  case hR=>
   intro w' az
   exact aB v' trivial (by exact .cons .here .nil) az rfl
theorem Mw (l:List De):lq l=(u3 l).flatten:=rfl
theorem FT {lv:Value} {l:List De} {w:World} (h:Rd w lv 3 (u3 l)) (hl:l.length≤1000) :
  bd Tryz.prog 267 [lv] w [] (fun _:Value=>True) id (fun v=>[row 90 3 v l.length (lq l)]):=by
 have h':=h
 obtain ⟨a,cp,b,o,rfl,df,bO,ha,hc⟩:=h
 refine aR Tryz.func267 rfl rfl ?_
 cases a with
 | none =>
  have pK:l=[]:=by
   cases l with
   | nil=>rfl
   | cons x r=>exact absurd (ha (by simp [u3])) (by simp)
  subst pK
  (refine Jr<|Ja rfl<|Jn<|Jq<|Jr<|Jv rfl<|ab (fV (.of rfl) (.of rfl)) rfl ?_;refine Jn<|cR (.of rfl) ?_;refine Jr<|Ja rfl<|Jn<|Ju ?_)
  refine aQ 90 3 ?_
  first | with_reducible apply aO | with_reducible apply aP
  case he=>exact dj rfl rfl
  case hR=>
   intro w' az
   exact aB (.slice none 0 0) trivial (by exact .cons .here .nil) az rfl
 | some ad =>
  (refine Jr<|Ja rfl<|Jn<|Jq<|Jr<|Jv rfl<|ab (fV (.of rfl) (.of rfl)) rfl ?_;refine Jn<|bR (.of rfl) ?_;refine Jk<|Jr ?_)
  with_reducible apply bb
  case hr=>exact j7
  case hd=>rfl
  intro bq mT
  refine Na rfl rfl ?_
  refine bQ (g:=bq) (E:=90) (ys:=[]) 0 3 (by exact .here) rfl rfl rfl ?_
  with_reducible apply gF
  case hx=>exact Is.of rfl
  case hy=>exact Is.of rfl
  case ht=>exact .here
  case hsrc=>exact fun w' az=>h'.keeps az.keeps
  case h1=>exact My l
  case hz=>exact rfl
  case hsz=>exact rfl
  case hb0=>exact rfl
  case hb=>rw [bX];omega
  case hd=>rfl
  intro v'
  rw [bX,Nat.zero_add,List.nil_append,← Mw]
  refine Ja rfl<|Jn<|Je ?_
  first | with_reducible apply aO | with_reducible apply aP
  case he=>exact dj rfl rfl
  case hR=>
   intro w' az
   exact aB v' trivial (by exact .cons .here .nil) az rfl
theorem KJ (l:List Ti):pz l=(tW l).flatten:=rfl
theorem FO {lv:Value} {l:List Ti} {w:World} (h:Rd w lv 3 (tW l)) (hl:l.length≤1000) :
  bd Tryz.prog 268 [lv] w [] (fun _:Value=>True) id (fun v=>[row 187 3 v l.length (pz l)]):=by
 have h':=h
 obtain ⟨a,cp,b,o,rfl,df,bO,ha,hc⟩:=h
 refine aR Tryz.func268 rfl rfl ?_
 cases a with
 | none =>
  have pK:l=[]:=by
   cases l with
   | nil=>rfl
   | cons x r=>exact absurd (ha (by simp [tW])) (by simp)
  subst pK
  (refine Jr<|Ja rfl<|Jn<|Jq<|Jr<|Jv rfl<|ab (fV (.of rfl) (.of rfl)) rfl ?_;refine Jn<|cR (.of rfl) ?_;refine Jr<|Ja rfl<|Jn<|Ju ?_)
  refine aQ 187 3 ?_
  first | with_reducible apply aO | with_reducible apply aP
  case he=>exact dj rfl rfl
  case hR=>
   intro w' az
   exact aB (.slice none 0 0) trivial (by exact .cons .here .nil) az rfl
 | some ad =>
  (refine Jr<|Ja rfl<|Jn<|Jq<|Jr<|Jv rfl<|ab (fV (.of rfl) (.of rfl)) rfl ?_;refine Jn<|bR (.of rfl) ?_;refine Jk<|Jr ?_)
  with_reducible apply bb
  case hr=>exact j7
  case hd=>rfl
  intro bq mT
  refine Na rfl rfl ?_
  refine bQ (g:=bq) (E:=187) (ys:=[]) 0 3 (by exact .here) rfl rfl rfl ?_
  with_reducible apply gF
  case hx=>exact Is.of rfl
  case hy=>exact Is.of rfl
  case ht=>exact .here
  case hsrc=>exact fun w' az=>h'.keeps az.keeps
  case h1=>exact KL l
  case hz=>exact rfl
  case hsz=>exact rfl
  case hb0=>exact rfl
  case hb=>rw [bN];omega
  case hd=>rfl
  intro v'
  rw [bN,Nat.zero_add,List.nil_append,← KJ]
  refine Ja rfl<|Jn<|Je ?_
  first | with_reducible apply aO | with_reducible apply aP
  case he=>exact dj rfl rfl
  case hR=>
   intro w' az
   exact aB v' trivial (by exact .cons .here .nil) az rfl
theorem yP (l:List Po):iW l=(sN l).flatten:=rfl
theorem LC {lv:Value} {l:List Sr} {g:Sr→ByteArray} {f:FuncId} {first cap:List Value} [bP Tryz.prog f] {w:World} (h:Rd w lv 2 (vt l)) (hn:l.length≤1000000)
  (ch:∀ x∈l,∀ w',aF [] w w'→aj Tryz.prog f (first++[.agg x.cells.toArray]++cap) w' (.string (g x))) :
  bd Tryz.prog 140 [lv,.func (.func f) first.toArray cap.toArray] w [] (fun _:Value=>True) id (fun v=>[row 9 1 v l.length (aM (l.map g))]):=by
 obtain ⟨a,cp,b,o,rfl,df,bO,ha,hc⟩:=h
 rw [cC] at *
 unfold maxLen at bO
 refine aR Tryz.func140 rfl rfl ?_
 refine Jr<|Ja rfl<|Ji<|Ja rfl<|Jn<|Jq<|Jr<|Jv rfl<|JI rfl<|Jv rfl<|Jn<|J0 ?_
 refine aQ 9 1 ?_
 refine aX (ι:=Nat×Value) (fun x=>x.1≤l.length) (fun x=>[(10,.int .i64 x.1),(9,.int .i64 l.length),(8,.slice a l.length cp),(5,x.2),(1,.func (.func f) first.toArray cap.toArray)]) (fun x=>[row 9 1 x.2 x.1 (aM ((l.take x.1).map g))]) (fun x=>l.length-x.1) ?_ ?_
 ·apply aK (0,.slice none 0 0) (Nat.zero_le _)
  case hs1=>exact cn
  case ht=>
   exact .cons .here .nil
 rintro ⟨k,v⟩ hk
 dsimp only at hk ⊢
 by_cases aN:k<l.length
 ·have cM:=ha (im aN)
  have aD:=(hc k _ (fD aN)).2
  have ix:=ch _ (List.getElem_mem aN)
  have HQ:aM ((l.take (k+1)).map g)=aM ((l.take k).map g)++[.string (g l[k])]:=by
   rw [List.take_succ_eq_append_getElem aN,List.map_append,dO];rfl
  generalize g l[k]=gk at ix HQ
  unfold Sr.cells at aD ix
  (refine Jr<|JA rfl<|Jn<|Jq<|Jd rfl fun aq=>Jk<|Jq<|J0<|Jr<|ab (fM cM aq) rfl ?_;refine ab (iz (eG.base aD rfl)) rfl ?_;refine Jz rfl rfl fun _ _=>ao (.of rfl) (.of rfl) .here rfl rfl (gn rfl rfl) (bE rfl) ak ?_;refine Jn<|Jg<|Jv rfl<|Jv rfl<|ab (cr .here) rfl ?_)
  refine ag bC rfl (fun w' az=>(ix w' (Mem.keeps az))) ?_
  refine bb (aA (.cons (.of rfl) .nil) rfl rfl rfl rfl) rfl (fun _ _=>?_)
  refine bz (.of rfl) (.of rfl) bI .here ak (by rfl) (dZ rfl) (by rfl) (by rfl) (by rfl) ep (by rfl) ?_
  intro v'
  refine Ja rfl<|Jx<|Jj<|Jt<|Jg<|JB rfl (by omega)<|Jv rfl<|Jn ?_
  apply aL (k+1,v') (by show k+1≤l.length;omega) (by show l.length-(k+1)<l.length-k;omega)
  case hs1=>exact cn
  case ht=>
   show bj _ [row 9 1 v' (k+1) (aM ((l.take (k+1)).map g))] _
   rw [HQ]
   exact .cons .here .nil
 ·obtain rfl:k=l.length:=by omega
  rw [List.take_length]
  refine Jr<|JA rfl<|Jn<|Jq<|Jc rfl fun aq=>Jp<|Jl<|Jo<|Jt<|Jr<|Jv rfl<|Ja rfl<|Jn<|Je ?_
  first | with_reducible apply aO | with_reducible apply aP
  case he=>exact dj rfl rfl
  case hR=>
   intro w' az
   exact aB v trivial (by exact .cons .here .nil) az rfl
theorem D8 {lv:Value} {l:List De} {g:De→ByteArray} {f:FuncId} {first cap:List Value} [bP Tryz.prog f] {w:World} (h:Rd w lv 3 (u3 l)) (hn:l.length≤1000000)
  (ch:∀ x∈l,∀ w',aF [] w w'→aj Tryz.prog f (first++[.agg x.cells.toArray]++cap) w' (.string (g x))) :
  bd Tryz.prog 143 [lv,.func (.func f) first.toArray cap.toArray] w [] (fun _:Value=>True) id (fun v=>[row 9 1 v l.length (aM (l.map g))]):=by
 obtain ⟨a,cp,b,o,rfl,df,bO,ha,hc⟩:=h
 rw [bX] at *
 unfold maxLen at bO
 refine aR Tryz.func143 rfl rfl ?_
 refine Jr<|Ja rfl<|Ji<|Ja rfl<|Jn<|Jq<|Jr<|Jv rfl<|JI rfl<|Jv rfl<|Jn<|J0 ?_
 refine aQ 9 1 ?_
 refine aX (ι:=Nat×Value) (fun x=>x.1≤l.length) (fun x=>[(10,.int .i64 x.1),(9,.int .i64 l.length),(8,.slice a l.length cp),(5,x.2),(1,.func (.func f) first.toArray cap.toArray)]) (fun x=>[row 9 1 x.2 x.1 (aM ((l.take x.1).map g))]) (fun x=>l.length-x.1) ?_ ?_
 ·apply aK (0,.slice none 0 0) (Nat.zero_le _)
  case hs1=>exact cn
  case ht=>
   exact .cons .here .nil
 rintro ⟨k,v⟩ hk
 dsimp only at hk ⊢
 by_cases aN:k<l.length
 ·have cM:=ha (gm aN)
  have aD:=(hc k _ (fa aN)).2
  have ix:=ch _ (List.getElem_mem aN)
  have HQ:aM ((l.take (k+1)).map g)=aM ((l.take k).map g)++[.string (g l[k])]:=by
   rw [List.take_succ_eq_append_getElem aN,List.map_append,dO];rfl
  generalize g l[k]=gk at ix HQ
  unfold De.cells at aD ix
  (refine Jr<|JA rfl<|Jn<|Jq<|Jd rfl fun aq=>Jk<|Jq<|J0<|Jr<|ab (fM cM aq) rfl ?_;refine ab (iz (eG.base aD rfl)) rfl ?_;refine Jz rfl rfl fun _ _=>ao (.of rfl) (.of rfl) .here rfl rfl (fk rfl rfl rfl) (bE rfl) ak ?_;refine Jn<|Jg<|Jv rfl<|Jv rfl<|ab (cr .here) rfl ?_)
  refine ag bC rfl (fun w' az=>(ix w' (Mem.keeps az))) ?_
  refine bb (aA (.cons (.of rfl) .nil) rfl rfl rfl rfl) rfl (fun _ _=>?_)
  refine bz (.of rfl) (.of rfl) bI .here ak (by rfl) (dZ rfl) (by rfl) (by rfl) (by rfl) ep (by rfl) ?_
  intro v'
  refine Ja rfl<|Jx<|Jj<|Jt<|Jg<|JB rfl (by omega)<|Jv rfl<|Jn ?_
  apply aL (k+1,v') (by show k+1≤l.length;omega) (by show l.length-(k+1)<l.length-k;omega)
  case hs1=>exact cn
  case ht=>
   show bj _ [row 9 1 v' (k+1) (aM ((l.take (k+1)).map g))] _
   rw [HQ]
   exact .cons .here .nil
 ·obtain rfl:k=l.length:=by omega
  rw [List.take_length]
  refine Jr<|JA rfl<|Jn<|Jq<|Jc rfl fun aq=>Jp<|Jl<|Jo<|Jt<|Jr<|Jv rfl<|Ja rfl<|Jn<|Je ?_
  first | with_reducible apply aO | with_reducible apply aP
  case he=>exact dj rfl rfl
  case hR=>
   intro w' az
   exact aB v trivial (by exact .cons .here .nil) az rfl
theorem LB {lv:Value} {l:List Ti} {g:Ti→ByteArray} {f:FuncId} {first cap:List Value} [bP Tryz.prog f] {w:World} (h:Rd w lv 3 (tW l)) (hn:l.length≤1000000)
  (ch:∀ x∈l,∀ w',aF [] w w'→aj Tryz.prog f (first++[.agg x.cells.toArray]++cap) w' (.string (g x))) :
  bd Tryz.prog 178 [lv,.func (.func f) first.toArray cap.toArray] w [] (fun _:Value=>True) id (fun v=>[row 9 1 v l.length (aM (l.map g))]):=by
 obtain ⟨a,cp,b,o,rfl,df,bO,ha,hc⟩:=h
 rw [bN] at *
 unfold maxLen at bO
 refine aR Tryz.func178 rfl rfl ?_
 refine Jr<|Ja rfl<|Ji<|Ja rfl<|Jn<|Jq<|Jr<|Jv rfl<|JI rfl<|Jv rfl<|Jn<|J0 ?_
 refine aQ 9 1 ?_
 refine aX (ι:=Nat×Value) (fun x=>x.1≤l.length) (fun x=>[(10,.int .i64 x.1),(9,.int .i64 l.length),(8,.slice a l.length cp),(5,x.2),(1,.func (.func f) first.toArray cap.toArray)]) (fun x=>[row 9 1 x.2 x.1 (aM ((l.take x.1).map g))]) (fun x=>l.length-x.1) ?_ ?_
 ·apply aK (0,.slice none 0 0) (Nat.zero_le _)
  case hs1=>exact cn
  case ht=>
   exact .cons .here .nil
 rintro ⟨k,v⟩ hk
 dsimp only at hk ⊢
 by_cases aN:k<l.length
 ·have cM:=ha (eT aN)
  have aD:=(hc k _ (ed aN)).2
  have ix:=ch _ (List.getElem_mem aN)
  have HQ:aM ((l.take (k+1)).map g)=aM ((l.take k).map g)++[.string (g l[k])]:=by
   rw [List.take_succ_eq_append_getElem aN,List.map_append,dO];rfl
  generalize g l[k]=gk at ix HQ
  unfold Ti.cells at aD ix
  (refine Jr<|JA rfl<|Jn<|Jq<|Jd rfl fun aq=>Jk<|Jq<|J0<|Jr<|ab (fM cM aq) rfl ?_;refine ab (iz (eG.base aD rfl)) rfl ?_;refine Jz rfl rfl fun _ _=>ao (.of rfl) (.of rfl) .here rfl rfl (fk rfl rfl rfl) (bE rfl) ak ?_;refine Jn<|Jg<|Jv rfl<|Jv rfl<|ab (cr .here) rfl ?_)
  refine ag bC rfl (fun w' az=>(ix w' (Mem.keeps az))) ?_
  refine bb (aA (.cons (.of rfl) .nil) rfl rfl rfl rfl) rfl (fun _ _=>?_)
  refine bz (.of rfl) (.of rfl) bI .here ak (by rfl) (dZ rfl) (by rfl) (by rfl) (by rfl) ep (by rfl) ?_
  intro v'
  refine Ja rfl<|Jx<|Jj<|Jt<|Jg<|JB rfl (by omega)<|Jv rfl<|Jn ?_
  apply aL (k+1,v') (by show k+1≤l.length;omega) (by show l.length-(k+1)<l.length-k;omega)
  case hs1=>exact cn
  case ht=>
   show bj _ [row 9 1 v' (k+1) (aM ((l.take (k+1)).map g))] _
   rw [HQ]
   exact .cons .here .nil
 ·obtain rfl:k=l.length:=by omega
  rw [List.take_length]
  refine Jr<|JA rfl<|Jn<|Jq<|Jc rfl fun aq=>Jp<|Jl<|Jo<|Jt<|Jr<|Jv rfl<|Ja rfl<|Jn<|Je ?_
  first | with_reducible apply aO | with_reducible apply aP
  case he=>exact dj rfl rfl
  case hR=>
   intro w' az
   exact aB v trivial (by exact .cons .here .nil) az rfl
theorem Mi (n:Nat) (hn:n≤1000) (w:World):bd Tryz.prog 235 [.slice none 0 0,.int .i64 (n:Int)] w [] (fun _:Value=>True) id (fun v=>[row 9 1 v 0 []]):=by
 refine aR Tryz.func235 rfl rfl ?_
 (refine Jr<|Ja rfl<|Jn<|Jq<|Jr<|Jv rfl<|JA rfl<|Jn<|Jc rfl fun aq=>Jk<|Jq<|Jr<|Jv rfl<|Jv rfl<|ab (qy (.of rfl)) rfl ?_;refine Jv rfl<|JI rfl<|JS rfl (by omega)<|JS rfl (by omega)<|Ja rfl<|Ji<|Jv rfl<|JE rfl<|Jn<|fY rfl (fun aq=>?_) fun aq=>?_;refine Jg<|Jv rfl<|Jv rfl<|ab (qy (.of rfl)) rfl ?_;refine ab (gI (.of rfl) (.of rfl) (by omega) (by omega)) rfl ?_;refine Jv rfl ?_;rotate_left;refine Jk<|Jr<|Jv rfl<|Ja rfl<|Jn<|Je ?_;rotate_right)
 ·rw [show (n:Int)-(((0:Nat):Int)-((0:Nat):Int))=(n:Int) by omega]
  with_reducible apply Ci
  case hx=>exact Is.of rfl
  case hy=>exact Is.of rfl
  case h0=>omega
  case hz=>exact rfl
  case hsz=>exact rfl
  case hb0=>exact rfl
  case hb=>omega
  case hd=>rfl
  intro v'
  refine db (E:=9) (sz:=1) (by exact .here) (by omega) fun g gB cur e nS Fv CV Bl=>?_
  subst e
  (refine Jv rfl<|JI rfl<|ab (gI (.of rfl) (.of rfl) (by omega) (by omega)) rfl ?_;refine Ja rfl<|Ji<|Jv rfl<|Ja rfl<|Jn<|Je ?_)
  rw [show Go.sliced (some ⟨g,0,none⟩) 0 (((0:Nat):Int)).toNat gB 1=.slice (some ⟨g,0,none⟩) 0 gB from AA g gB 1]
  skip
  generalize hA:_++cur=al at CV ⊢
  refine c8 (n:=0) (xs:=[]) (cur:=al) (cap:=gB) (g:=g) (E:=9) (sz:=1) (by rw [List.nil_append];exact .here) (Nat.zero_le _) Fv CV rfl ?_
  first | with_reducible apply aO | with_reducible apply aP
  case he=>exact dj rfl rfl
  case hR=>
   intro w' az
   exact aB (.slice (some ⟨g,0,none⟩) 0 gB) trivial (by exact .cons .here .nil) az rfl
 ·refine aQ 9 1 ?_
  first | with_reducible apply aO | with_reducible apply aP
  case he=>exact dj rfl rfl
  case hR=>
   intro w' az
   exact aB (.slice none 0 0) trivial (by exact .cons .here .nil) az rfl
theorem KS (a b:List ByteArray):fg (a++b)=fg a++fg b:=by simp [fg]
theorem rj {α:Type} {l:List (List α)} {k:Nat} (h:k<l.length):(l.take (k+1)).flatten=(l.take k).flatten++l[k]:=by
 rw [List.take_add_one,List.getElem?_eq_getElem h,List.flatten_append];simp
theorem Ev {α:Type} (l:List (List α)) (k:Nat):(l.take k).flatten.length≤l.flatten.length:=by
 conv=>rhs;rw [← List.take_append_drop k l]
 rw [List.flatten_append,List.length_append];omega
theorem AB {α:Type} {l:List α} {k:Nat} (h:k<l.length):(l.map fun v=>[v])[k]? = some [l[k]]:=by simp [h]
theorem FM {lv:Value} {vs:List Value} {ess:List (List ByteArray)} {w:World} (h:Rd w lv 1 (vs.map fun v=>[v])) (hl:vs.length=ess.length) (hr:∀ (i:Nat) (v:Value) (es:List ByteArray),vs[i]? = some v→ess[i]? = some es→Rd w v 1 (fg es)) (hn:ess.flatten.length≤1000) :
  bd Tryz.prog 142 [lv] w [] (fun _:Value=>True) id (fun v=>[row 9 1 v ess.flatten.length (fg ess.flatten).flatten]):=by
 obtain ⟨a,cp,b,o,rfl,df,bO,ha,hc⟩:=h
 rw [List.length_map] at *
 unfold maxLen at bO
 refine aR Tryz.func142 rfl rfl ?_
 refine Jr<|Ja rfl<|Ji<|Ja rfl<|Jn<|Jq<|Jr<|Jv rfl<|JI rfl<|Jv rfl<|Jn<|J0 ?_
 refine aX (ι:=Nat) (fun k=>k≤vs.length) (fun k=>[(11,.int .i64 k),(10,.int .i64 vs.length),(9,.slice a vs.length cp),(0,.slice a vs.length cp),(3,.int .i64 (((ess.take k).flatten.length:Nat):Int))]) (fun _=>[]) (fun k=>vs.length-k) ?_ ?_
 ·apply aK (0:Nat) (show (0:Nat)≤vs.length from Nat.zero_le _)
  case hs1=>exact cn
  case ht=>(try simp only [List.take_zero,List.map_nil,List.nil_append]);exact .nil
 intro k hk
 by_cases aN:k<vs.length
 ·have fA:k<ess.length:=by omega
  have cM:=ha (by intro e;have:=congrArg List.length e;simp at this;subst this;simp at aN)
  have R7:=hr k _ _ (List.getElem?_eq_getElem aN) (List.getElem?_eq_getElem fA)
  obtain ⟨a1,eh,b1,o1,e1,_⟩:=R7
  rw [bV] at e1
  have c0:w.cell? ⟨b,o+k*1,none⟩=some (.slice a1 ess[k].length eh):=by rw [← e1];exact (hc k _ (AB aN)).2 0 _ rfl
  have sx:=Ev ess (k+1)
  have hs:((ess.take (k+1)).flatten.length:Int)=(ess.take k).flatten.length+ess[k].length:=by rw [rj fA,List.length_append];omega
  (refine Jr<|JA rfl<|Jn<|Jq<|Jd rfl fun aq=>Jk<|Jq<|J0<|Jr<|ab (fM cM aq) rfl ?_;refine ab (ai (.of rfl) (At.base c0 rfl)) rfl ?_;refine Ja rfl<|Ji<|Jv rfl<|Jv rfl<|JI rfl<|JB rfl (by omega)<|Ja rfl<|Ji<|Jv rfl<|JA rfl<|Jn<|Jc rfl fun aq=>Jw<|Jj<|Jt<|Jg<|JB rfl (by omega)<|Jv rfl<|Jn ?_)
  apply aL (k+1) (show k+1≤vs.length by omega) (show vs.length-(k+1)<vs.length-k by omega)
  case hs1=>
   rw [hs]
   exact .cons rfl (.cons rfl (.cons rfl (.cons rfl (.cons rfl .nil))))
  case ht=>exact .nil
 ·obtain rfl:k=vs.length:=by omega
  rw [show ess.take vs.length=ess by rw [hl,List.take_length]]
  refine Jr<|JA rfl<|Jn<|Jq<|Jc rfl fun aq=>Jp<|Jl<|Jo<|Jt<|Jr<|Jv rfl ?_
  refine JN aZ rfl (fun w1 aJ=>Mi _ hn _) ?_
  intro v0 _
  dsimp only [id_eq,List.cons_append,List.nil_append]
  refine Ja rfl<|Jn<|Jq<|Jr<|Jv rfl<|JI rfl<|Jv rfl<|Jn<|J0 ?_
  refine aX (ι:=Nat×Value) (fun x=>x.1≤vs.length) (fun x=>[(27,.int .i64 x.1),(26,.int .i64 vs.length),(25,.slice a vs.length cp),(6,x.2)]) (fun x=>[row 9 1 x.2 (ess.take x.1).flatten.length (fg (ess.take x.1).flatten).flatten]) (fun x=>vs.length-x.1) ?_ ?_
  ·apply aK (0,v0) (Nat.zero_le _)
   case hs1=>exact cn
   case ht=>
    exact .cons .here .nil
  rintro ⟨k,v⟩ hk
  dsimp only at hk ⊢
  by_cases aN:k<vs.length
  ·have fA:k<ess.length:=by omega
   have cM:=ha (by intro e;have:=congrArg List.length e;simp at this;subst this;simp at aN)
   have R7:=hr k _ _ (List.getElem?_eq_getElem aN) (List.getElem?_eq_getElem fA)
   have U8:=R7
   obtain ⟨a1,eh,b1,o1,e1,_⟩:=U8
   rw [bV] at e1
   rw [e1] at R7
   have c0:w.cell? ⟨b,o+k*1,none⟩=some (.slice a1 ess[k].length eh):=by rw [← e1];exact (hc k _ (AB aN)).2 0 _ rfl
   have sx:=Ev ess (k+1)
   have hs:(ess.take (k+1)).flatten.length=(ess.take k).flatten.length+ess[k].length:=by rw [rj fA,List.length_append]
   (refine Jr<|JA rfl<|Jn<|Jq<|Jd rfl fun aq=>Jk<|Jq<|J0<|Jr<|ab (fM cM aq) rfl ?_;refine ab (ai (.of rfl) (At.base c0 rfl)) rfl ?_;refine Ja rfl<|Jn<|Jg<|Jv rfl<|Jv rfl ?_)
   with_reducible apply gF
   case hx=>exact Is.of rfl
   case hy=>exact Is.of rfl
   case ht=>exact .here
   case hsrc=>exact fun w' az=>R7.keeps az.keeps
   case h1=>exact yw _
   case hz=>exact rfl
   case hsz=>exact rfl
   case hb0=>exact rfl
   case hb=>rw [bV];omega
   case hd=>rfl
   intro v'
   rw [bV]
   refine Ja rfl<|Jx<|Jj<|Jt<|Jg<|JB rfl (by omega)<|Jv rfl<|Jn ?_
   apply aL (k+1,v') (show k+1≤vs.length by omega) (show vs.length-(k+1)<vs.length-k by omega)
   case hs1=>exact cn
   case ht=>
    show bj _ [row 9 1 v' (ess.take (k+1)).flatten.length (fg (ess.take (k+1)).flatten).flatten] _
    rw [hs,rj fA,KS,List.flatten_append]
    exact .cons .here .nil
  ·obtain rfl:k=vs.length:=by omega
   have re:vs.length=ess.length:=hl
   rw [re,List.take_length]
   refine Jr<|JA rfl<|Jn<|Jq<|Jc rfl fun aq=>Jp<|Jl<|Jo<|Jt<|Jr<|Jv rfl<|Ja rfl<|Jn<|Je ?_
   first | with_reducible apply aO | with_reducible apply aP
   case he=>exact dj rfl rfl
   case hR=>
    intro w' az
    exact aB v trivial (by exact .cons .here .nil) az rfl
end Go.Proofs.A1
namespace Go.Proofs.A1
open Go Go.SL
theorem Rd.one {w:World} {v:Value} {sz:Nat} {xs:List (List Value)} (h:Rd w v sz xs):v.oneCell'=true:=by
 obtain ⟨a,cap,b,o,rfl,_⟩:=h;rfl
def vO {α:Type} (bf:List ByteArray) (nm:α→ByteArray) (ck:α→Int) (l:List α) (k:Nat):Int:=(l[k]?.map fun x=>aV [bS (!jD (nm x)) 8,bS (iF (bf++(l.take k).map nm) (nm x)) 9,ck x]).getD 0
def eN {α:Type} (pF:Int) (bf:List ByteArray) (nm:α→ByteArray) (ck:α→Int) (l:List α):Int:=if pF<(l.length:Int) then 5 else jm (vO bf nm ck l) l.length
theorem nG {α:Type} {bf:List ByteArray} {nm:α→ByteArray} {ck:α→Int} {l:List α} {k:Nat} (h:k<l.length):vO bf nm ck l k=aV [bS (!jD (nm l[k])) 8,bS (iF (bf++(l.take k).map nm) (nm l[k])) 9,ck l[k]]:=by
 unfold vO;rw [List.getElem?_eq_getElem h];rfl
def eP (r:Ro) (m:Int):Int:=bS (decide (m<0)||decide (r.ma≤m)) 10
theorem Ek {r:Ro} {s d t p:Value} (m:Int) {w w1:World} (h:RR w1 r s d t p):aj Tryz.prog 136 [RA r s d t p,.int .i64 m] w (.int .i64 (eP r m)):=by
 have h1:=Rd.one h.sr
 have h2:=Rd.one h.de
 have h3:=Rd.one h.ti
 have h4:=Rd.one h.po
 unfold RA
 refine ah Tryz.func136 rfl rfl ?_
 (refine Jr<|Jy rfl rfl fun _ _=>Ja rfl<|Ji<|Jv rfl<|JA rfl<|Jv rfl<|jT rfl rfl rfl rfl ?_;refine aI rfl rfl inferInstance (fun hg bL=>(ar (.of rfl) ae)) rfl ?_;refine aI rfl rfl inferInstance (fun hg bL=>(ai (.cA hg rfl) (At.lit .here rfl))) rfl ?_;refine aI rfl rfl inferInstance (fun hg bL=>(yH (.cA hg rfl) (.cA hg rfl))) rfl ?_;refine ab (bW (.of rfl) rfl) rfl ?_;refine ag aZ rfl (fun w' az=>(dL _ 10 w')) ?_;refine Ja rfl<|Jn<|Je<|JT ?_)
 rfl
theorem Hq (x:Sr) (w:World):aj Tryz.prog 139 [.agg x.cells.toArray] w (.string x.nm):=by
 unfold Sr.cells
 refine ah Tryz.func139 rfl rfl ?_
 (refine Jr<|Jy rfl rfl fun _ _=>Ja rfl<|Ji<|bF rfl rfl ae ?_;refine JL rfl .here rfl<|Ja rfl<|Jn<|Je<|JT ?_)
 rfl
theorem CK (x:De) (w:World):aj Tryz.prog 124 [.agg x.cells.toArray] w (.string x.nm):=by
 unfold De.cells
 refine ah Tryz.func124 rfl rfl ?_
 (refine Jr<|Jy rfl rfl fun _ _=>Ja rfl<|Ji<|bF rfl rfl ae ?_;refine JL rfl .here rfl<|Ja rfl<|Jn<|Je<|JT ?_)
 rfl
theorem Hp (x:Ti) (w:World):aj Tryz.prog 119 [.agg x.cells.toArray] w (.string x.nm):=by
 unfold Ti.cells
 refine ah Tryz.func119 rfl rfl ?_
 (refine Jr<|Jy rfl rfl fun _ _=>Ja rfl<|Ji<|bF rfl rfl ae ?_;refine JL rfl .here rfl<|Ja rfl<|Jn<|Je<|JT ?_)
 rfl
set_option maxHeartbeats 1000000 in
theorem BG {lv bv:Value} {l:List Sr} {bf:List ByteArray} (pF:Int) {ck:Sr→Int} {f1 f2:FuncId} {first2 cap:List Value} [bP Tryz.prog f1] [bP Tryz.prog f2] {w:World} (h:Rd w lv 2 (vt l)) (hb:Rd w bv 1 (fg bf)) (hn:bf.length+l.length≤1000)
  (uU:∀ x∈l,∀ w',aF [] w w'→aj Tryz.prog f1 [.agg x.cells.toArray] w' (.string x.nm)) (uT:∀ x∈l,∀ w',aF [] w w'→aj Tryz.prog f2 (first2++[.agg x.cells.toArray]++cap) w' (.int .i64 (ck x))) :
  aj Tryz.prog 138 [lv,.int .i64 pF,bv,.func (.func f1) #[] #[],.func (.func f2) first2.toArray cap.toArray] w (.int .i64 (eN pF bf Sr.nm ck l)):=by
 obtain ⟨a,cp,b,o,rfl,df,bO,ha,hc⟩:=h
 rw [cC] at *
 unfold maxLen at bO
 unfold eN
 refine ah Tryz.func138 rfl rfl ?_
 (refine Jr<|Ja rfl<|Jn<|Jq<|Jr<|Jv rfl<|JI rfl<|Jv rfl<|JE rfl<|Jn<|fY rfl (fun aq=>?_) fun aq=>?_;refine Jr<|Ja rfl<|Jn<|Ju<|JT ?_;rotate_left;refine Jk<|Jr<|Jv rfl ?_;rotate_right)
 ·rw [if_pos (by omega)]
 rw [if_neg (by omega)]
 refine JN bC rfl (fun w1 aJ=>vb (hb.keeps aJ.keeps) (by omega)) ?_
 intro v0 _
 dsimp only [id_eq,List.cons_append,List.nil_append]
 refine Ja rfl<|Jn<|Jq<|Jr<|Jv rfl<|JI rfl<|Jv rfl<|Jn<|J0 ?_
 refine aX (ι:=Nat×Value) (fun x=>x.1≤l.length∧∀ i,i<x.1→vO bf Sr.nm ck l i=0) (fun x=>[(24,.int .i64 x.1),(23,.int .i64 l.length),(22,.slice a l.length cp),(11,x.2),(3,.func (.func f1) #[] #[]),(4,.func (.func f2) first2.toArray cap.toArray)]) (fun x=>[row 9 1 x.2 (bf++(l.take x.1).map Sr.nm).length (aM (bf++(l.take x.1).map Sr.nm))]) (fun x=>l.length-x.1) ?_ ?_
 ·apply aK (0,v0) ⟨Nat.zero_le _,fun i hi=>absurd hi (Nat.not_lt_zero _)⟩
  case hs1=>exact cn
  case ht=>
   rw [show bf++(l.take 0).map Sr.nm=bf by simp]
   exact .cons .here .nil
 rintro ⟨k,v⟩ ⟨hk,hf⟩
 dsimp only at hk hf ⊢
 by_cases aN:k<l.length
 ·have cM:=ha (im aN)
  have aD:=(hc k _ (fD aN)).2
  have B3:=uU _ (List.getElem_mem aN)
  have jd:=uT _ (List.getElem_mem aN)
  have hE:=nG (bf:=bf) (nm:=Sr.nm) (ck:=ck) aN
  have htk:bf++(l.take (k+1)).map Sr.nm=(bf++(l.take k).map Sr.nm)++[(l[k]).nm]:=by
   rw [List.take_succ_eq_append_getElem aN,List.map_append,List.append_assoc];rfl
  have hlen:(bf++(l.take k).map Sr.nm).length=bf.length+k:=by
   rw [List.length_append,List.length_map,List.length_take];omega
  have Ie:∀ (w':World),Rd w' v 1 (fg (bf++(l.take k).map Sr.nm))→aj Tryz.prog 179 [v,.string (l[k]).nm] w' (.bool (iF (bf++(l.take k).map Sr.nm) (l[k]).nm)):=fun w' hr=>n9 _ hr
  generalize hB:bf++(l.take k).map Sr.nm=B at hE htk hlen Ie ⊢
  have tB:B.length=B.length:=rfl
  generalize l[k]=x at aD B3 jd hE htk Ie
  have a7:aM (B++[x.nm])=aM B++[.string x.nm]:=by rw [dO];rfl
  have HS:(B++[x.nm]).length=B.length+1:=by simp
  unfold Sr.cells at aD B3 jd
  (refine Jr<|JA rfl<|Jn<|Jq<|Jd rfl fun aq=>Jk<|Jq<|J0<|Jr<|ab (fM cM aq) rfl ?_;refine ab (iz (eG.base aD rfl)) rfl ?_;refine Jz rfl rfl fun _ _=>ao (.of rfl) (.of rfl) .here rfl rfl (gn rfl rfl) (bE rfl) ak ?_;refine Ji<|Jv rfl<|ab (cr .here) rfl ?_;refine ag bC rfl (fun w' az=>(B3 w' (Mem.keeps az))) ?_;refine Ja rfl<|Jn<|Jq<|Jq ?_)
  with_reducible refine cQ 12 (by kernel_rfl) ?_
  (refine an lx rfl ?_;refine aU bC rfl (fun w' az=>(CL _ w')) ?_;refine an (fG (.of rfl)) rfl ?_;refine aU aZ rfl (fun w' az=>(dL _ 8 w')) ?_;refine an lx rfl ?_;refine an lx rfl ?_;refine aU aZ rfl (fun w' az=>(Ie w' (br az (.there .here) tB))) ?_;refine aU aZ rfl (fun w' az=>(dL _ 9 w')) ?_;refine an lx rfl ?_;refine an (cr .here) rfl ?_;refine aU bC rfl (fun w' az=>(jd w' (Mem.keeps az))) ?_;refine en (aA (.cons (.of rfl) (.cons (.of rfl) (.cons (.of rfl) .nil))) rfl rfl rfl rfl) rfl rfl ?_)
  with_reducible refine dy rfl fun bq mT=>?_
  (refine ag bC rfl (fun w' az=>(dF (Mem.dh az .here rfl rfl) (bU.cons (bU.cons (bU.cons bU.nil))))) ?_;refine Ja rfl<|Ji<|Jv rfl<|JD rfl<|Jn<|fY rfl (fun aq=>?_) fun aq=>?_;refine Jr<|Jv rfl<|Ja rfl<|Jn<|Ju<|Jm<|Jh<|Jh<|Jm<|Jh<|JT ?_;rotate_left;refine Jk<|Jg<|Jv rfl<|Jv rfl<|bb (aA (.cons (.of rfl) .nil) rfl rfl rfl rfl) rfl fun _ _=>?_;rotate_right)
  ·rw [← hE] at aq ⊢
   rw [eY hf aN aq]
  have hz:vO bf Sr.nm ck l k=0:=by rw [hE];exact Decidable.not_not.1 aq
  refine bz (.of rfl) (.of rfl) cY .here ak (by rfl) (dZ rfl) (by rfl) (by rfl) (by rfl) ep (by rfl) ?_
  intro v'
  refine Ja rfl<|Jx<|Jj<|Jt<|Jg<|JB rfl (by omega)<|Jv rfl<|Jn ?_
  apply aL (k+1,v') ⟨show k+1≤l.length by omega,fun i hi=>by
   by_cases e:i=k
   ·rw [e];exact hz
   ·exact hf i (by omega)⟩ (show l.length-(k+1)<l.length-k by omega)
  case hs1=>exact cn
  case ht=>
   show bj _ [row 9 1 v' (bf++(l.take (k+1)).map Sr.nm).length (aM (bf++(l.take (k+1)).map Sr.nm))] _
   rw [htk,a7,HS]
   exact .cons .here .nil
 ·obtain rfl:k=l.length:=by omega
  refine Jr<|JA rfl<|Jn<|Jq<|Jc rfl fun aq=>Jp<|Jl<|Jo<|Jt<|Jr<|Ja rfl<|Jn<|Je<|JT ?_
  rw [dT.2 hf]
set_option maxHeartbeats 1000000 in
theorem BH {lv bv:Value} {l:List De} {bf:List ByteArray} (pF:Int) {ck:De→Int} {f1 f2:FuncId} {first2 cap:List Value} [bP Tryz.prog f1] [bP Tryz.prog f2] {w:World} (h:Rd w lv 3 (u3 l)) (hb:Rd w bv 1 (fg bf)) (hn:bf.length+l.length≤1000)
  (uU:∀ x∈l,∀ w',aF [] w w'→aj Tryz.prog f1 [.agg x.cells.toArray] w' (.string x.nm)) (uT:∀ x∈l,∀ w',aF [] w w'→aj Tryz.prog f2 (first2++[.agg x.cells.toArray]++cap) w' (.int .i64 (ck x))) :
  aj Tryz.prog 141 [lv,.int .i64 pF,bv,.func (.func f1) #[] #[],.func (.func f2) first2.toArray cap.toArray] w (.int .i64 (eN pF bf De.nm ck l)):=by
 obtain ⟨a,cp,b,o,rfl,df,bO,ha,hc⟩:=h
 rw [bX] at *
 unfold maxLen at bO
 unfold eN
 refine ah Tryz.func141 rfl rfl ?_
 (refine Jr<|Ja rfl<|Jn<|Jq<|Jr<|Jv rfl<|JI rfl<|Jv rfl<|JE rfl<|Jn<|fY rfl (fun aq=>?_) fun aq=>?_;refine Jr<|Ja rfl<|Jn<|Ju<|JT ?_;rotate_left;refine Jk<|Jr<|Jv rfl ?_;rotate_right)
 ·rw [if_pos (by omega)]
 rw [if_neg (by omega)]
 refine JN bC rfl (fun w1 aJ=>vb (hb.keeps aJ.keeps) (by omega)) ?_
 intro v0 _
 dsimp only [id_eq,List.cons_append,List.nil_append]
 refine Ja rfl<|Jn<|Jq<|Jr<|Jv rfl<|JI rfl<|Jv rfl<|Jn<|J0 ?_
 refine aX (ι:=Nat×Value) (fun x=>x.1≤l.length∧∀ i,i<x.1→vO bf De.nm ck l i=0) (fun x=>[(24,.int .i64 x.1),(23,.int .i64 l.length),(22,.slice a l.length cp),(11,x.2),(3,.func (.func f1) #[] #[]),(4,.func (.func f2) first2.toArray cap.toArray)]) (fun x=>[row 9 1 x.2 (bf++(l.take x.1).map De.nm).length (aM (bf++(l.take x.1).map De.nm))]) (fun x=>l.length-x.1) ?_ ?_
 ·apply aK (0,v0) ⟨Nat.zero_le _,fun i hi=>absurd hi (Nat.not_lt_zero _)⟩
  case hs1=>exact cn
  case ht=>
   rw [show bf++(l.take 0).map De.nm=bf by simp]
   exact .cons .here .nil
 rintro ⟨k,v⟩ ⟨hk,hf⟩
 dsimp only at hk hf ⊢
 by_cases aN:k<l.length
 ·have cM:=ha (gm aN)
  have aD:=(hc k _ (fa aN)).2
  have B3:=uU _ (List.getElem_mem aN)
  have jd:=uT _ (List.getElem_mem aN)
  have hE:=nG (bf:=bf) (nm:=De.nm) (ck:=ck) aN
  have htk:bf++(l.take (k+1)).map De.nm=(bf++(l.take k).map De.nm)++[(l[k]).nm]:=by
   rw [List.take_succ_eq_append_getElem aN,List.map_append,List.append_assoc];rfl
  have hlen:(bf++(l.take k).map De.nm).length=bf.length+k:=by
   rw [List.length_append,List.length_map,List.length_take];omega
  have Ie:∀ (w':World),Rd w' v 1 (fg (bf++(l.take k).map De.nm))→aj Tryz.prog 179 [v,.string (l[k]).nm] w' (.bool (iF (bf++(l.take k).map De.nm) (l[k]).nm)):=fun w' hr=>n9 _ hr
  generalize hB:bf++(l.take k).map De.nm=B at hE htk hlen Ie ⊢
  have tB:B.length=B.length:=rfl
  generalize l[k]=x at aD B3 jd hE htk Ie
  have a7:aM (B++[x.nm])=aM B++[.string x.nm]:=by rw [dO];rfl
  have HS:(B++[x.nm]).length=B.length+1:=by simp
  unfold De.cells at aD B3 jd
  (refine Jr<|JA rfl<|Jn<|Jq<|Jd rfl fun aq=>Jk<|Jq<|J0<|Jr<|ab (fM cM aq) rfl ?_;refine ab (iz (eG.base aD rfl)) rfl ?_;refine Jz rfl rfl fun _ _=>ao (.of rfl) (.of rfl) .here rfl rfl (fk rfl rfl rfl) (bE rfl) ak ?_;refine Ji<|Jv rfl<|ab (cr .here) rfl ?_;refine ag bC rfl (fun w' az=>(B3 w' (Mem.keeps az))) ?_;refine Ja rfl<|Jn<|Jq<|Jq ?_)
  with_reducible refine cQ 12 (by kernel_rfl) ?_
  (refine an lx rfl ?_;refine aU bC rfl (fun w' az=>(CL _ w')) ?_;refine an (fG (.of rfl)) rfl ?_;refine aU aZ rfl (fun w' az=>(dL _ 8 w')) ?_;refine an lx rfl ?_;refine an lx rfl ?_;refine aU aZ rfl (fun w' az=>(Ie w' (br az (.there .here) tB))) ?_;refine aU aZ rfl (fun w' az=>(dL _ 9 w')) ?_;refine an lx rfl ?_;refine an (cr .here) rfl ?_;refine aU bC rfl (fun w' az=>(jd w' (Mem.keeps az))) ?_;refine en (aA (.cons (.of rfl) (.cons (.of rfl) (.cons (.of rfl) .nil))) rfl rfl rfl rfl) rfl rfl ?_)
  with_reducible refine dy rfl fun bq mT=>?_
  (refine ag bC rfl (fun w' az=>(dF (Mem.dh az .here rfl rfl) (bU.cons (bU.cons (bU.cons bU.nil))))) ?_;refine Ja rfl<|Ji<|Jv rfl<|JD rfl<|Jn<|fY rfl (fun aq=>?_) fun aq=>?_;refine Jr<|Jv rfl<|Ja rfl<|Jn<|Ju<|Jm<|Jh<|Jh<|Jm<|Jh<|JT ?_;rotate_left;refine Jk<|Jg<|Jv rfl<|Jv rfl<|bb (aA (.cons (.of rfl) .nil) rfl rfl rfl rfl) rfl fun _ _=>?_;rotate_right)
  ·rw [← hE] at aq ⊢
   rw [eY hf aN aq]
  have hz:vO bf De.nm ck l k=0:=by rw [hE];exact Decidable.not_not.1 aq
  refine bz (.of rfl) (.of rfl) cY .here ak (by rfl) (dZ rfl) (by rfl) (by rfl) (by rfl) ep (by rfl) ?_
  intro v'
  refine Ja rfl<|Jx<|Jj<|Jt<|Jg<|JB rfl (by omega)<|Jv rfl<|Jn ?_
  apply aL (k+1,v') ⟨show k+1≤l.length by omega,fun i hi=>by
   by_cases e:i=k
   ·rw [e];exact hz
   ·exact hf i (by omega)⟩ (show l.length-(k+1)<l.length-k by omega)
  case hs1=>exact cn
  case ht=>
   show bj _ [row 9 1 v' (bf++(l.take (k+1)).map De.nm).length (aM (bf++(l.take (k+1)).map De.nm))] _
   rw [htk,a7,HS]
   exact .cons .here .nil
 ·obtain rfl:k=l.length:=by omega
  refine Jr<|JA rfl<|Jn<|Jq<|Jc rfl fun aq=>Jp<|Jl<|Jo<|Jt<|Jr<|Ja rfl<|Jn<|Je<|JT ?_
  rw [dT.2 hf]
set_option maxHeartbeats 1000000 in
theorem BF {lv bv:Value} {l:List Ti} {bf:List ByteArray} (pF:Int) {ck:Ti→Int} {f1 f2:FuncId} {first2 cap:List Value} [bP Tryz.prog f1] [bP Tryz.prog f2] {w:World} (h:Rd w lv 3 (tW l)) (hb:Rd w bv 1 (fg bf)) (hn:bf.length+l.length≤1000)
  (uU:∀ x∈l,∀ w',aF [] w w'→aj Tryz.prog f1 [.agg x.cells.toArray] w' (.string x.nm)) (uT:∀ x∈l,∀ w',aF [] w w'→aj Tryz.prog f2 (first2++[.agg x.cells.toArray]++cap) w' (.int .i64 (ck x))) :
  aj Tryz.prog 144 [lv,.int .i64 pF,bv,.func (.func f1) #[] #[],.func (.func f2) first2.toArray cap.toArray] w (.int .i64 (eN pF bf Ti.nm ck l)):=by
 obtain ⟨a,cp,b,o,rfl,df,bO,ha,hc⟩:=h
 rw [bN] at *
 unfold maxLen at bO
 unfold eN
 refine ah Tryz.func144 rfl rfl ?_
 (refine Jr<|Ja rfl<|Jn<|Jq<|Jr<|Jv rfl<|JI rfl<|Jv rfl<|JE rfl<|Jn<|fY rfl (fun aq=>?_) fun aq=>?_;refine Jr<|Ja rfl<|Jn<|Ju<|JT ?_;rotate_left;refine Jk<|Jr<|Jv rfl ?_;rotate_right)
 ·rw [if_pos (by omega)]
 rw [if_neg (by omega)]
 refine JN bC rfl (fun w1 aJ=>vb (hb.keeps aJ.keeps) (by omega)) ?_
 intro v0 _
 dsimp only [id_eq,List.cons_append,List.nil_append]
 refine Ja rfl<|Jn<|Jq<|Jr<|Jv rfl<|JI rfl<|Jv rfl<|Jn<|J0 ?_
 refine aX (ι:=Nat×Value) (fun x=>x.1≤l.length∧∀ i,i<x.1→vO bf Ti.nm ck l i=0) (fun x=>[(24,.int .i64 x.1),(23,.int .i64 l.length),(22,.slice a l.length cp),(11,x.2),(3,.func (.func f1) #[] #[]),(4,.func (.func f2) first2.toArray cap.toArray)]) (fun x=>[row 9 1 x.2 (bf++(l.take x.1).map Ti.nm).length (aM (bf++(l.take x.1).map Ti.nm))]) (fun x=>l.length-x.1) ?_ ?_
 ·apply aK (0,v0) ⟨Nat.zero_le _,fun i hi=>absurd hi (Nat.not_lt_zero _)⟩
  case hs1=>exact cn
  case ht=>
   rw [show bf++(l.take 0).map Ti.nm=bf by simp]
   exact .cons .here .nil
 rintro ⟨k,v⟩ ⟨hk,hf⟩
 dsimp only at hk hf ⊢
 by_cases aN:k<l.length
 ·have cM:=ha (eT aN)
  have aD:=(hc k _ (ed aN)).2
  have B3:=uU _ (List.getElem_mem aN)
  have jd:=uT _ (List.getElem_mem aN)
  have hE:=nG (bf:=bf) (nm:=Ti.nm) (ck:=ck) aN
  have htk:bf++(l.take (k+1)).map Ti.nm=(bf++(l.take k).map Ti.nm)++[(l[k]).nm]:=by
   rw [List.take_succ_eq_append_getElem aN,List.map_append,List.append_assoc];rfl
  have hlen:(bf++(l.take k).map Ti.nm).length=bf.length+k:=by
   rw [List.length_append,List.length_map,List.length_take];omega
  have Ie:∀ (w':World),Rd w' v 1 (fg (bf++(l.take k).map Ti.nm))→aj Tryz.prog 179 [v,.string (l[k]).nm] w' (.bool (iF (bf++(l.take k).map Ti.nm) (l[k]).nm)):=fun w' hr=>n9 _ hr
  generalize hB:bf++(l.take k).map Ti.nm=B at hE htk hlen Ie ⊢
  have tB:B.length=B.length:=rfl
  generalize l[k]=x at aD B3 jd hE htk Ie
  have a7:aM (B++[x.nm])=aM B++[.string x.nm]:=by rw [dO];rfl
  have HS:(B++[x.nm]).length=B.length+1:=by simp
  unfold Ti.cells at aD B3 jd
  (refine Jr<|JA rfl<|Jn<|Jq<|Jd rfl fun aq=>Jk<|Jq<|J0<|Jr<|ab (fM cM aq) rfl ?_;refine ab (iz (eG.base aD rfl)) rfl ?_;refine Jz rfl rfl fun _ _=>ao (.of rfl) (.of rfl) .here rfl rfl (fk rfl rfl rfl) (bE rfl) ak ?_;refine Ji<|Jv rfl<|ab (cr .here) rfl ?_;refine ag bC rfl (fun w' az=>(B3 w' (Mem.keeps az))) ?_;refine Ja rfl<|Jn<|Jq<|Jq ?_)
  with_reducible refine cQ 12 (by kernel_rfl) ?_
  (refine an lx rfl ?_;refine aU bC rfl (fun w' az=>(CL _ w')) ?_;refine an (fG (.of rfl)) rfl ?_;refine aU aZ rfl (fun w' az=>(dL _ 8 w')) ?_;refine an lx rfl ?_;refine an lx rfl ?_;refine aU aZ rfl (fun w' az=>(Ie w' (br az (.there .here) tB))) ?_;refine aU aZ rfl (fun w' az=>(dL _ 9 w')) ?_;refine an lx rfl ?_;refine an (cr .here) rfl ?_;refine aU bC rfl (fun w' az=>(jd w' (Mem.keeps az))) ?_;refine en (aA (.cons (.of rfl) (.cons (.of rfl) (.cons (.of rfl) .nil))) rfl rfl rfl rfl) rfl rfl ?_)
  with_reducible refine dy rfl fun bq mT=>?_
  (refine ag bC rfl (fun w' az=>(dF (Mem.dh az .here rfl rfl) (bU.cons (bU.cons (bU.cons bU.nil))))) ?_;refine Ja rfl<|Ji<|Jv rfl<|JD rfl<|Jn<|fY rfl (fun aq=>?_) fun aq=>?_;refine Jr<|Jv rfl<|Ja rfl<|Jn<|Ju<|Jm<|Jh<|Jh<|Jm<|Jh<|JT ?_;rotate_left;refine Jk<|Jg<|Jv rfl<|Jv rfl<|bb (aA (.cons (.of rfl) .nil) rfl rfl rfl rfl) rfl fun _ _=>?_;rotate_right)
  ·rw [← hE] at aq ⊢
   rw [eY hf aN aq]
  have hz:vO bf Ti.nm ck l k=0:=by rw [hE];exact Decidable.not_not.1 aq
  refine bz (.of rfl) (.of rfl) cY .here ak (by rfl) (dZ rfl) (by rfl) (by rfl) (by rfl) ep (by rfl) ?_
  intro v'
  refine Ja rfl<|Jx<|Jj<|Jt<|Jg<|JB rfl (by omega)<|Jv rfl<|Jn ?_
  apply aL (k+1,v') ⟨show k+1≤l.length by omega,fun i hi=>by
   by_cases e:i=k
   ·rw [e];exact hz
   ·exact hf i (by omega)⟩ (show l.length-(k+1)<l.length-k by omega)
  case hs1=>exact cn
  case ht=>
   show bj _ [row 9 1 v' (bf++(l.take (k+1)).map Ti.nm).length (aM (bf++(l.take (k+1)).map Ti.nm))] _
   rw [htk,a7,HS]
   exact .cons .here .nil
 ·obtain rfl:k=l.length:=by omega
  refine Jr<|JA rfl<|Jn<|Jq<|Jc rfl fun aq=>Jp<|Jl<|Jo<|Jt<|Jr<|Ja rfl<|Jn<|Je<|JT ?_
  rw [dT.2 hf]
end Go.Proofs.A1
namespace Go.SL
open Go
section
variable {P:Program} {c:Cx} {sl:aG} {hs:List ba} {dst:Option Tmp} {ty:TypeId} {pos:String} {af:Array Edge} {g:Option (Nat×Bool)}
variable {κ:Type} [DecidableEq κ] {kv:κ→Value} {kind:TypeDesc}
theorem Cv {t kt et:TypeId} {x y:Operand} {b:Nat} {k:κ} {l:List (κ×Value)} {z:Value} [hu:iA P t (.map kt et)] [Fx:iA P kt kind] [hz:lu P et z] (hk:KeyLaw kind kv) (hx:Is sl x (.map (some b))) (hy:Is sl y (kv k)) (hl:Looks c hs b kv l) :
  cX P c sl hs ⟨dst,.lookup t x y true,ty,pos,af,g⟩ (.tuple #[(er k l).getD z,.bool (er k l).isSome]):=
 ⟨by
   simp,fun a w ha hm=>by
  obtain ⟨es,ck,h1,h2⟩:=hl w hm
  have hg:(getObj b).run P w=.ok (.map es ck) w:=by simp [getObj,Sem.run,h1]
  have z7:=hk.flat P kt es.isEmpty w k Fx.eq
  rcases findNow_spec hk k es.toList l 0 h2.eq with ⟨a1,a2⟩ | ⟨j,v,a1,a2,_⟩
  ·have:(Instr.findKey kt (kv k) es.toList).run P w=.ok none w:=by
    simp [Instr.findKey,aT Fx.eq,a2]
   simp [execOp,hx a ha,hy a ha,Instr.lookup,aT hu.eq,hg,z7,this,a1,gV (t:=et) (v:=z)]
  ·have:(Instr.findKey kt (kv k) es.toList).run P w=.ok (some (0+j,v)) w:=by
    simp [Instr.findKey,aT Fx.eq,a2]
   simp [execOp,hx a ha,hy a ha,Instr.lookup,aT hu.eq,hg,z7,this,a1]⟩
end
end Go.SL
namespace Go.Proofs.A1
open Go Go.SL
def kV (a b c:Int):Value:=.agg #[.int .i64 a,.int .i64 b,.int .i64 c]
abbrev PM:=List (ByteArray×Value)
def vv (l:List Sr):Nat→PM
 | 0=>[]
 | k + 1 => match l[k]? with
  | some x=>mf x.nm (kV (-1) (-1) x.mx) (vv l k)
  | none=>vv l k
def B0 (m:PM) (l:List De):Nat→PM
 | 0=>m
 | k + 1 => match l[k]? with
  | some x=>mf x.nm (kV (k:Nat) x.mx (-1)) (B0 m l k)
  | none=>B0 m l k
def Kd (m:PM) (n:Nat) (l:List Ti):Nat→PM
 | 0=>m
 | k + 1 => match l[k]? with
  | some x=>mf x.nm (kV ((n:Int)+(k:Nat)) x.fr x.to) (Kd m n l k)
  | none=>Kd m n l k
def nH (r:Ro):PM:=Kd (B0 (vv r.sr r.sr.length) r.de r.de.length) r.de.length r.ti r.ti.length
theorem G8 {l:List Sr} {k:Nat} (h:k<l.length):vv l (k+1)=mf (l[k]).nm (kV (-1) (-1) (l[k]).mx) (vv l k):=by rw [vv,List.getElem?_eq_getElem h]
theorem G9 {m:PM} {l:List De} {k:Nat} (h:k<l.length):B0 m l (k+1)=mf (l[k]).nm (kV (k:Nat) (l[k]).mx (-1)) (B0 m l k):=by rw [B0,List.getElem?_eq_getElem h]
theorem G7 {m:PM} {n:Nat} {l:List Ti} {k:Nat} (h:k<l.length):Kd m n l (k+1)=mf (l[k]).nm (kV ((n:Int)+(k:Nat)) (l[k]).fr (l[k]).to) (Kd m n l k):=by rw [Kd,List.getElem?_eq_getElem h]
set_option maxHeartbeats 1000000 in
theorem DY {r:Ro} {s d t p:Value} {w:World} (h:RR w r s d t p) (cJ:r.de.length+r.ti.length≤1000000):bd Tryz.prog 186 [RA r s d t p] w [] (fun _:Nat=>True) (fun b=>.map (some b)) (fun b=>[mp (fun s:ByteArray=>Value.string s) b (nH r)]):=by
 have h1:=Rd.one h.sr
 have h2:=Rd.one h.de
 have h3:=Rd.one h.ti
 have h4:=Rd.one h.po
 have hs:=h.sr
 have hd:=h.de
 have Bh:=h.ti
 obtain ⟨a1,eh,NW,M6,rfl,pg,iE,lo,jY⟩:=hs
 obtain ⟨a2,dx,NV,M5,rfl,jX,eW,je,jH⟩:=hd
 obtain ⟨a3,dV,IX,Hg,rfl,mS,fX,sR,pL⟩:=Bh
 rw [cC] at *
 rw [bX] at *
 rw [bN] at *
 unfold maxLen at iE eW fX
 unfold RA
 refine aR Tryz.func186 rfl rfl ?_
 refine Jr<|Jy rfl rfl fun _ _=>Ja rfl<|Ji ?_
 rename_i b1 sy
 refine Am rfl ?_
 intro bm Uc
 (refine Ja rfl<|Jn<|Jq<|Jr<|bF rfl rfl ae ?_;refine JL rfl (.there .here) rfl<|JI rfl<|Jv rfl<|Jn<|J0 ?_)
 refine aX (fun k:Nat=>k≤r.sr.length) (fun k=>[(14,.int .i64 k),(13,.int .i64 r.sr.length),(12,.slice a1 r.sr.length eh),(3,.map (some bm)),(1,.pointer (some ⟨b1,0,none⟩))]) (fun k=>[mp (fun s:ByteArray=>Value.string s) bm (vv r.sr k),JP b1 r (.slice a1 r.sr.length eh) (.slice a2 r.de.length dx) (.slice a3 r.ti.length dV) p]) (fun k=>r.sr.length-k) ?_ ?_
 ·apply aK 0 (show 0≤r.sr.length from Nat.zero_le _)
  case hs1=>exact cn
  case ht=>
   exact .cons .here (.cons .here .nil)
 intro k hk
 by_cases aN:k<r.sr.length
 ·have cM:=lo (im aN)
  have aD:=(jY k _ (fD aN)).2
  have ll:vv r.sr (k+1)=_:=G8 aN
  unfold Sr.cells at aD
  unfold kV at ll
  generalize r.sr[k]=x at aD ll
  (refine Jr<|JA rfl<|Jn<|Jq<|Jd rfl fun aq=>Jk<|Jq<|J0<|Jr<|ab (fM cM aq) rfl ?_;refine ab (iz (eG.base aD rfl)) rfl ?_;refine Jz rfl rfl fun _ _=>ao (.of rfl) (.of rfl) .here rfl rfl (gn rfl rfl) (bE rfl) ak ?_;refine Jn<|Jg<|Jv rfl<|bF rfl rfl ae ?_;refine JL rfl .here rfl<|bF rfl rfl ae ?_;refine JL rfl .here rfl<|ab (aS (.cons (.of rfl) (.cons (.of rfl) (.cons (.of rfl) .nil))) ak) rfl ?_)
  refine mo HB (.of rfl) (.of rfl) (.of rfl) (.there .here) ?_
  refine Jx<|Jj<|Jt<|Jg<|JB rfl (by omega)<|Jv rfl<|Jn ?_
  apply aL (k+1) (show k+1≤r.sr.length by omega) (show r.sr.length-(k+1)<r.sr.length-k by omega)
  case hs1=>exact cn
  case ht=>
   show bj _ [mp (fun s:ByteArray=>Value.string s) bm (vv r.sr (k+1)),JP b1 r (.slice a1 r.sr.length eh) (.slice a2 r.de.length dx) (.slice a3 r.ti.length dV) p] _
   rw [ll]
   exact .cons .here (.cons (.there .here) .nil)
 obtain rfl:k=r.sr.length:=by omega
 (refine Jr<|JA rfl<|Jn<|Jq<|Jc rfl fun aq=>Jp<|Jl<|Jo<|Jt<|Jq<|Jr<|bF rfl rfl ae ?_;refine JL rfl (.there .here) rfl<|JI rfl<|Jv rfl<|Jn<|J0 ?_)
 refine aX (fun k:Nat=>k≤r.de.length) (fun k=>[(28,.int .i64 k),(27,.int .i64 r.de.length),(26,.slice a2 r.de.length dx),(3,.map (some bm)),(1,.pointer (some ⟨b1,0,none⟩))]) (fun k=>[mp (fun s:ByteArray=>Value.string s) bm (B0 (vv r.sr r.sr.length) r.de k),JP b1 r (.slice a1 r.sr.length eh) (.slice a2 r.de.length dx) (.slice a3 r.ti.length dV) p]) (fun k=>r.de.length-k) ?_ ?_
 ·apply aK 0 (show 0≤r.de.length from Nat.zero_le _)
  case hs1=>exact cn
  case ht=>
   exact .cons .here (.cons .here .nil)
 intro k hk
 by_cases aN:k<r.de.length
 ·have cM:=je (gm aN)
  have aD:=(jH k _ (fa aN)).2
  have ll:B0 (vv r.sr r.sr.length) r.de (k+1)=_:=G9 aN
  unfold De.cells at aD
  unfold kV at ll
  generalize r.de[k]=x at aD ll
  (refine Jr<|JA rfl<|Jn<|Jq<|Jd rfl fun aq=>Jk<|Jq<|J0<|Jr<|Jv rfl<|ab (fM cM aq) rfl ?_;refine ab (iz (eG.base aD rfl)) rfl ?_;refine Jz rfl rfl fun _ _=>Ja rfl<|ao (.of rfl) (.of rfl) .here rfl rfl (fk rfl rfl rfl) (bE rfl) ak ?_;refine Jn<|Jg<|Jv rfl<|bF rfl rfl ae ?_;refine JL rfl .here rfl<|Jv rfl<|bF rfl rfl ae ?_;refine JL rfl .here rfl<|ab (aS (.cons (.of rfl) (.cons (.of rfl) (.cons (.of rfl) .nil))) ak) rfl ?_)
  refine mo HB (.of rfl) (.of rfl) (.of rfl) (.there .here) ?_
  refine Jx<|Jj<|Jt<|Jg<|JB rfl (by omega)<|Jv rfl<|Jn ?_
  apply aL (k+1) (show k+1≤r.de.length by omega) (show r.de.length-(k+1)<r.de.length-k by omega)
  case hs1=>exact cn
  case ht=>
   show bj _ [mp (fun s:ByteArray=>Value.string s) bm (B0 (vv r.sr r.sr.length) r.de (k+1)),JP b1 r (.slice a1 r.sr.length eh) (.slice a2 r.de.length dx) (.slice a3 r.ti.length dV) p] _
   rw [ll]
   exact .cons .here (.cons (.there .here) .nil)
 obtain rfl:k=r.de.length:=by omega
 (refine Jr<|JA rfl<|Jn<|Jq<|Jc rfl fun aq=>Jp<|Jl<|Jo<|Jt<|Jq<|Jr<|bF rfl rfl ae ?_;refine JL rfl (.there .here) rfl<|JI rfl<|Jv rfl<|Jn<|J0 ?_)
 refine aX (fun k:Nat=>k≤r.ti.length) (fun k=>[(44,.int .i64 k),(43,.int .i64 r.ti.length),(42,.slice a3 r.ti.length dV),(3,.map (some bm)),(1,.pointer (some ⟨b1,0,none⟩))]) (fun k=>[mp (fun s:ByteArray=>Value.string s) bm (Kd (B0 (vv r.sr r.sr.length) r.de r.de.length) r.de.length r.ti k),JP b1 r (.slice a1 r.sr.length eh) (.slice a2 r.de.length dx) (.slice a3 r.ti.length dV) p]) (fun k=>r.ti.length-k) ?_ ?_
 ·apply aK 0 (show 0≤r.ti.length from Nat.zero_le _)
  case hs1=>exact cn
  case ht=>
   exact .cons .here (.cons .here .nil)
 intro k hk
 by_cases aN:k<r.ti.length
 ·have cM:=sR (eT aN)
  have aD:=(pL k _ (ed aN)).2
  have ll:Kd (B0 (vv r.sr r.sr.length) r.de r.de.length) r.de.length r.ti (k+1)=_:=G7 aN
  unfold Ti.cells at aD
  unfold kV at ll
  generalize r.ti[k]=x at aD ll
  (refine Jr<|JA rfl<|Jn<|Jq<|Jd rfl fun aq=>Jk<|Jq<|J0<|Jr<|Jv rfl<|ab (fM cM aq) rfl ?_;refine ab (iz (eG.base aD rfl)) rfl ?_;refine Jz rfl rfl fun _ _=>Ja rfl<|ao (.of rfl) (.of rfl) .here rfl rfl (fk rfl rfl rfl) (bE rfl) ak ?_;refine Jn<|Jg<|Jv rfl<|bF rfl rfl ae ?_;refine JL rfl .here rfl<|bF rfl rfl ae ?_;refine JL rfl bI rfl<|JI rfl<|Jv rfl<|JB rfl (by omega)<|bF rfl rfl ae ?_;refine JL rfl .here rfl<|bF rfl rfl ae ?_;refine JL rfl .here rfl<|ab (aS (.cons (.of rfl) (.cons (.of rfl) (.cons (.of rfl) .nil))) ak) rfl ?_)
  refine mo HB (.of rfl) (.of rfl) (.of rfl) (.there .here) ?_
  refine Jx<|Jj<|Jt<|Jg<|JB rfl (by omega)<|Jv rfl<|Jn ?_
  apply aL (k+1) (show k+1≤r.ti.length by omega) (show r.ti.length-(k+1)<r.ti.length-k by omega)
  case hs1=>exact cn
  case ht=>
   show bj _ [mp (fun s:ByteArray=>Value.string s) bm (Kd (B0 (vv r.sr r.sr.length) r.de r.de.length) r.de.length r.ti (k+1)),JP b1 r (.slice a1 r.sr.length eh) (.slice a2 r.de.length dx) (.slice a3 r.ti.length dV) p] _
   rw [ll]
   exact .cons .here (.cons (.there .here) .nil)
 obtain rfl:k=r.ti.length:=by omega
 refine Jr<|JA rfl<|Jn<|Jq<|Jc rfl fun aq=>Jp<|Jl<|Jo<|Jt<|Jr<|Jv rfl<|Ja rfl<|Jn<|Je ?_
 first | with_reducible apply aO | with_reducible apply aP
 case he=>exact dj rfl rfl
 case hR=>
  intro w' az
  exact aB bm trivial (show bj _ [mp (fun s:ByteArray=>Value.string s) bm (nH r)] _ from by unfold nH;exact .cons .here .nil) az rfl
end Go.Proofs.A1
namespace Go.Proofs.A1
open Go Go.SL
theorem cd {w w':World} {a:Addr} {v:Value} (h:w.cell? a=some v) (hs:a.spot=none) (hk:aF [] w w'):w'.cell? a=some v:=by
 have hb:=World.block_lt_of_cell? w a h
 obtain ⟨b,o,s⟩:=a
 subst hs
 have:=hk.block b hb (by simp)
 rw [← h]
 simp [World.cell?,this]
theorem bJ {P:Program} {c:Cx} {sl:aG} {hs:List ba} {dst:Option Tmp} {ty:TypeId} {pos:String} {af:Array Edge} {g:Option (Nat×Bool)} {x y z:Operand} {q:Bool} {v u V:Value} (hx:Is sl x (.bool q)) (hy:Is sl y v) (hz:Is sl z u) (e:(bif q then v else u)=V):cX P c sl hs ⟨dst,.pick x y z,ty,pos,af,g⟩ V:=e ▸ th hx hy hz
theorem oL {α:Type} (p:α→Bool) (l:List α):(gA p l = -1∧l.find? p=none)∨∃ i,∃ h:i<l.length,gA p l=(i:Nat)∧l.find? p=some l[i]:=by
 cases hf:l.find? p with
 | none =>
  rw [List.find?_eq_none] at hf
  refine .inl ⟨fm fun i hi=>?_,rfl⟩
  simpa [hi] using hf l[i] (List.getElem_mem hi)
 | some x =>
  obtain ⟨hp,i,hi,rfl,hb⟩:=List.find?_eq_some_iff_getElem.1 hf
  refine .inr ⟨i,hi,fT (fun j hj=>?_) hi hp,rfl⟩
  have:=hb j hj
  simpa [show j<l.length by omega] using this
theorem O7 (x:Po) {b1 b2:Nat} {v:Int} {o:ByteArray} {w:World} (f1:w.cell? ⟨b1,0,none⟩=some (.int .i64 v)) (f2:w.cell? ⟨b2,0,none⟩=some (.string o)) :
  aj Tryz.prog 298 [.agg x.cells.toArray,.pointer (some ⟨b1,0,none⟩),.pointer (some ⟨b2,0,none⟩)] w (.bool (Dn v o x)):=by
 unfold Po.cells
 refine ah Tryz.func298 rfl rfl ?_
 (refine Jr<|Jy rfl rfl fun _ _=>Ja rfl<|Ji<|ab (cr .here) rfl ?_;refine ab (ai (.of rfl) (At.base f1 rfl)) rfl ?_;refine ab (ai (.of rfl) (At.base f2 rfl)) rfl ?_;refine bF rfl rfl ae ?_;refine JL rfl .here rfl<|ab (aS (.cons (.of rfl) (.cons (.of rfl) (.cons (.of rfl) .nil))) ak) rfl ?_;refine ab (tl (.of rfl) (.of rfl) (jA (eU (eU lj))) rfl) rfl ?_;refine Ja rfl<|Jn<|Je<|JT ?_)
 simp [Dn]
theorem Oj (x:Po) {b1 b2:Nat} {v:Int} {o:ByteArray} {w:World} (f1:w.cell? ⟨b1,0,none⟩=some (.int .i64 v)) (f2:w.cell? ⟨b2,0,none⟩=some (.string o)) :
  aj Tryz.prog 302 [.agg x.cells.toArray,.pointer (some ⟨b1,0,none⟩),.pointer (some ⟨b2,0,none⟩)] w (.bool (zd v o x)):=by
 unfold Po.cells
 refine ah Tryz.func302 rfl rfl ?_
 (refine Jr<|Jy rfl rfl fun _ _=>Ja rfl<|Ji<|ab (cr .here) rfl ?_;refine ab (ai (.of rfl) (At.base f1 rfl)) rfl ?_;refine bF rfl rfl ae ?_;refine JL rfl .here rfl<|ab (ai (.of rfl) (At.base f2 rfl)) rfl ?_;refine ab (aS (.cons (.of rfl) (.cons (.of rfl) (.cons (.of rfl) .nil))) ak) rfl ?_;refine ab (tl (.of rfl) (.of rfl) (jA (eU (eU lj))) rfl) rfl ?_;refine Ja rfl<|Jn<|Je<|JT ?_)
 simp [zd]
theorem y9 {r:Ro} {s d t p:Value} (v:Int) (o:ByteArray) {w:World} (h:RR w r s d t p):aj Tryz.prog 223 [RA r s d t p,.int .i64 v,.string o] w (.tuple #[.string ((dY r.po v o).getD ⟨#[]⟩),.bool (dY r.po v o).isSome]):=by
 have h1:=Rd.one h.sr
 have h2:=Rd.one h.de
 have h3:=Rd.one h.ti
 have hp:=h.po
 obtain ⟨a,cp,b,o',rfl,df,bO,ha,hc⟩:=hp
 rw [cU] at *
 unfold maxLen at bO
 unfold RA
 refine ah Tryz.func223 rfl rfl ?_
 (refine Jr<|Jy rfl rfl fun _ _=>Jy rfl rfl fun _ _=>Jy rfl rfl fun _ _=>Ja rfl<|Ja rfl<|Ji<|bF rfl rfl ae ?_;refine JL rfl bI rfl<|ab (bn .nil (.cons (.of rfl) (.cons (.of rfl) .nil))) rfl ?_)
 rename_i b3 rG b4 vC b5 Mb
 with_reducible apply ag
 case hr=>exact aZ
 case hd=>rfl
 case hc=>
  intro w' az
  have f1:w'.cell? ⟨b4,0,none⟩=some (.int .i64 v):=At.lit (by exact Take.there .here) rfl w' az
  have f2:w'.cell? ⟨b5,0,none⟩=some (.string o):=At.lit (by exact .here) rfl w' az
  exact ze (f:=298) (p:=Dn v o) (first:=[]) (cap:=[.pointer (some ⟨b4,0,none⟩),.pointer (some ⟨b5,0,none⟩)]) (h.po.keeps az.keeps)
   (fun x hx w2 ez=>O7 x (cd f1 rfl ez) (cd f2 rfl ez))
 have mm:dY r.po v o=(r.po.find? (Dn v o)).map Po.ip:=rfl
 rcases oL (Dn v o) r.po with ⟨e1,e2⟩ | ⟨i,hi,e1,e2⟩
 ·rw [e1]
  rw [e2] at mm
  rw [mm]
  refine Ja rfl<|Jn<|Jq<|Jr<|Jv rfl<|JA rfl<|Jn<|Jd rfl fun aq=>Jr<|Ja rfl<|Ja rfl<|Jn<|Ju<|oB rfl (fL rfl rfl rfl) ?_
  rfl
 ·rw [e1]
  rw [e2] at mm
  rw [mm]
  have cM:=ha (jO hi)
  have aD:=(hc i _ (gY hi)).2
  unfold Po.cells at aD
  have jH:=aD 2 _ rfl
  (refine Ja rfl<|Jn<|Jq<|Jr<|Jv rfl<|JA rfl<|Jn<|Jc rfl fun aq=>Jk<|Jr<|bF rfl rfl ae ?_;refine JL rfl bI rfl<|Jv rfl<|ab (aC (.of rfl) (.of rfl) cM (by omega) (by omega) bo) rfl ?_;refine bF rfl rfl ae ?_;refine ab (ai (.of rfl) (At.base jH rfl)) rfl ?_;refine Ja rfl<|Ja rfl<|Jn<|Je<|oB rfl (fL rfl rfl rfl) ?_)
  rfl
theorem Gc {r:Ro} {s d t p:Value} (v:Int) (o:ByteArray) {w:World} (h:RR w r s d t p):aj Tryz.prog 239 [RA r s d t p,.int .i64 v,.string o] w (.bool (mW r.po v o)):=by
 have h1:=Rd.one h.sr
 have h2:=Rd.one h.de
 have h3:=Rd.one h.ti
 have h4:=Rd.one h.po
 unfold RA
 refine ah Tryz.func239 rfl rfl ?_
 (refine Jr<|Jy rfl rfl fun _ _=>Jy rfl rfl fun _ _=>Jy rfl rfl fun _ _=>Ja rfl<|Ji<|bF rfl rfl ae ?_;refine JL rfl bI rfl<|ab (bn .nil (.cons (.of rfl) (.cons (.of rfl) .nil))) rfl ?_)
 rename_i b3 rG b4 vC b5 Mb
 with_reducible apply ag
 case hr=>exact aZ
 case hd=>rfl
 case hc=>
  intro w' az
  have f1:w'.cell? ⟨b4,0,none⟩=some (.int .i64 v):=At.lit (by exact Take.there .here) rfl w' az
  have f2:w'.cell? ⟨b5,0,none⟩=some (.string o):=At.lit (by exact .here) rfl w' az
  exact Me (f:=302) (p:=zd v o) (first:=[]) (cap:=[.pointer (some ⟨b4,0,none⟩),.pointer (some ⟨b5,0,none⟩)]) (h.po.keeps az.keeps)
   (fun x hx w2 ez=>Oj x (cd f1 rfl ez) (cd f2 rfl ez))
 refine Ja rfl<|Jn<|Je<|JT ?_
 rfl
theorem ur {r:Ro} {s d t p:Value} (v:Int) (o:ByteArray) {w w1:World} (h:RR w1 r s d t p) :
  bd Tryz.prog 116 [RA r s d t p,.int .i64 v,.string o] w [] (fun _:Nat×Nat×Nat=>True) (fun x=>.func (.func 222) #[] #[.pointer (some ⟨x.1,0,none⟩),.pointer (some ⟨x.2.1,0,none⟩),.pointer (some ⟨x.2.2,0,none⟩)])
   (fun x=>[bD x.1 (.cells #[.string o] 9 (0,0)),JP x.2.1 r s d t p,bD x.2.2 (.cells #[.int .i64 v] 3 (0,0))]):=by
 have h1:=Rd.one h.sr
 have h2:=Rd.one h.de
 have h3:=Rd.one h.ti
 have h4:=Rd.one h.po
 unfold RA
 refine aR Tryz.func116 rfl rfl ?_
 (refine Jr<|Jy rfl rfl fun _ _=>Jy rfl rfl fun _ _=>Jy rfl rfl fun _ _=>Ja rfl<|Ji<|ab (bn .nil (.cons (.of rfl) (.cons (.of rfl) (.cons (.of rfl) .nil)))) rfl ?_;refine Ja rfl<|Jn<|Je ?_)
 rename_i b3 rG b4 vC b5 Mb
 first | with_reducible apply aO | with_reducible apply aP
 case he=>exact dj rfl rfl
 case hR=>
  intro w' az
  exact aB (b5,b3,b4) trivial (by exact .cons .here (.cons (.there .here) (.cons .here .nil))) az rfl
structure RO (md:List Nat) (r:Ro) (s d t p:Value):Prop where
 sr:Out md s (vt r.sr)
 de:Out md d (u3 r.de)
 ti:Out md t (tW r.ti)
 po:Out md p (sN r.po)
theorem RO.nil {r:Ro} {s d t p:Value}:RO [] r s d t p:=⟨Out.nil _ _,Out.nil _ _,Out.nil _ _,Out.nil _ _⟩
theorem RR.iN {md:List Nat} {w w':World} {r:Ro} {s d t p:Value} (h:RR w r s d t p) (hn:RO md r s d t p) (hk:aF md w w'):RR w' r s d t p:=⟨h.sr.iN hn.sr hk,h.de.iN hn.de hk,h.ti.iN hn.ti hk,h.po.iN hn.po hk⟩
theorem RR.out {md fp:List Nat} {w0:World} {r:Ro} {s d t p:Value} (h:RR w0 r s d t p) (hn:RO md r s d t p) (hF:∀ b∈fp,b∈md∨w0.heap.size≤b):RO fp r s d t p:=⟨h.sr.out (by omega) hn.sr hF,h.de.out (by omega) hn.de hF,h.ti.out (by omega) hn.ti hF,h.po.out (by omega) hn.po hF⟩
def vQ (po:List Po) (v:Int) (k:Nat) (o:ByteArray):List (List Value):=(eM po v k o).map fun x=>[.string x]
theorem qH (po:List Po) (v:Int) (k:Nat) (o:ByteArray):(vQ po v k o).length=(eM po v k o).length:=by simp [vQ]
theorem CR {po:List Po} {v:Int} {k:Nat} {o a:ByteArray} (h:lN po v k o=some a):lN po v (k+1) o=dY po v a:=by
 rw [jB,h]
 show (dY po v a).bind (lN po v 0)=_
 cases dY po v a <;> rfl
theorem EE {po:List Po} {v:Int} {k K:Nat} {o a:ByteArray} (h:lN po v k o=some a) (hk:k≤K) (hn:dY po v a=none∨k=K):(eM po v K o).length=k:=by
 have hl:=jf po v K o
 have h1:k≤(eM po v K o).length:=by
  cases k with
  | zero=>exact Nat.zero_le _
  | succ k =>
   have:=mN (po:=po) (v:=v) (o:=o) (show k<K by omega)
   rw [h] at this
   exact (List.getElem?_eq_some_iff.1 this).1
 rcases hn with hn | rfl
 ·by_cases e:k=K
  ·omega
  ·have:=mN (po:=po) (v:=v) (o:=o) (show k<K by omega)
   rw [CR h,hn,List.getElem?_eq_none_iff] at this
   omega
 ·omega
theorem Lm {po:List Po} {v:Int} {k K:Nat} {o a i:ByteArray} (h:lN po v k o=some a) (hk:k<K) (hi:dY po v a=some i):(vQ po v K o)[k]? = some [.string i]:=by
 unfold vQ
 rw [List.getElem?_map,mN hk,CR h,hi];rfl
set_option maxHeartbeats 1000000 in
theorem CG {r:Ro} {s d t p:Value} {b1 b2 b3:Nat} (v:Int) (o:ByteArray) {w0 w:World} {md:List Nat} (h:RR w0 r s d t p) (hn:RO md r s d t p) (cJ:r.ti.length≤1000000) :
  Iter Tryz.prog 222 [] [.pointer (some ⟨b1,0,none⟩),.pointer (some ⟨b2,0,none⟩),.pointer (some ⟨b3,0,none⟩)] [bD b1 (.cells #[.string o] 9 (0,0)),JP b2 r s d t p,bD b3 (.cells #[.int .i64 v] 3 (0,0))] (vQ r.po v (r.ti.length+1) o) w0 md w:=by
 intro l fp J E hB hF kD hs hy
 have hR:=h.iN hn hB
 have hO:=h.out hn hF
 rw [qH]
 have h1:=Rd.one hR.sr
 have h2:=Rd.one hR.de
 have h4:=Rd.one hR.po
 have hti:=hR.ti
 obtain ⟨a,cp,b,o',rfl,df,bO,ha,hc⟩:=hti
 rw [bN] at *
 unfold maxLen at bO
 refine dS Tryz.func222 rfl rfl kD hs ?_
 (refine Jr<|JL rfl (.there .here) rfl<|Ja rfl<|Ji<|bF rfl rfl ae ?_;refine JL rfl bI rfl<|JI rfl<|JB rfl (by omega)<|Jv rfl<|Jn<|J0 ?_)
 refine aX (ι:=Nat×ByteArray) (fun x=>x.1≤r.ti.length+1∧lN r.po v x.1 o=some x.2) (fun x=>[(13,.int .i64 (x.1:Nat)),(12,.int .i64 ((r.ti.length:Int)+1)),(5,.string x.2),(0,.func (.yield l) #[] #[]),(2,.pointer (some ⟨b2,0,none⟩)),(3,.pointer (some ⟨b3,0,none⟩))])
  (fun x=>[J x.1,bD b1 (.cells #[.string o] 9 (0,0)),JP b2 r s d (.slice a r.ti.length cp) p,bD b3 (.cells #[.int .i64 v] 3 (0,0))]) (fun x=>r.ti.length+1-x.1) ?_ ?_
 ·apply aK (0,o) ⟨Nat.zero_le _,rfl⟩
  case hs1=>exact cn
  case ht=>(try simp only [List.take_zero,List.map_nil,List.nil_append]);exact .cons .here (.cons .here (.cons .here (.cons .here .nil)))
 rintro ⟨k,at_⟩ ⟨hk,hit⟩
 dsimp only at hk hit ⊢
 by_cases aN:k<r.ti.length+1
 ·have Sz:∀ w',aF fp w w'→aj Tryz.prog 223 [.agg #[.int .i64 r.lv,.int .i64 r.ma,s,d,.slice a r.ti.length cp,p],.int .i64 v,.string at_] w' (.tuple #[.string ((dY r.po v at_).getD ⟨#[]⟩),.bool (dY r.po v at_).isSome]):=fun w' hk=>y9 v at_ (hR.iN hO hk)
  cases hi:dY r.po v at_ with
  | none =>
   have mm:∀ w',aF fp w w'→aj Tryz.prog 223 [.agg #[.int .i64 r.lv,.int .i64 r.ma,s,d,.slice a r.ti.length cp,p],.int .i64 v,.string at_] w' (.tuple #[.string ⟨#[]⟩,.bool false]):=fun w' hk=>by
    have:=Sz w' hk
    rwa [hi] at this
   have a7:=EE hit hk (.inl hi)
   (refine Jr<|JA rfl<|Jn<|Jq<|Jd rfl fun aq=>Jk<|Jq<|J0<|Jr<|ab (cr bI) rfl ?_;refine JL rfl cY rfl<|Jv rfl<|ag dK rfl (fun w' az=>(mm w' (Mem.keeps az))) ?_;refine Jv rfl<|JJ rfl rfl<|JJ rfl rfl<|Ja rfl<|Ja rfl<|Jn<|Jq<|Jr<|Jv rfl<|JH rfl<|Jv rfl<|jT rfl rfl rfl rfl ?_;refine jT rfl rfl rfl rfl ?_;refine ew rfl rfl rfl rfl ?_;refine aI rfl rfl inferInstance (fun hg bL=>(fG (.cA bL rfl))) rfl ?_;refine ab (bW (.of rfl) rfl) rfl ?_;refine Jn<|cR (.of rfl) ?_;refine Ju<|Jm<|Jh<|Jh<|Jm ?_)
   first | with_reducible apply aO | with_reducible apply aP
   case he=>exact pj rfl
   case hR=>
    intro w' az
    exact aB true trivial (show bj _ [J (eM r.po v (r.ti.length+1) o).length,_,_,_] _ by rw [a7];exact .cons .here (.cons .here (.cons .here (.cons .here .nil)))) az rfl
  | some nx =>
   have mm:∀ w',aF fp w w'→aj Tryz.prog 223 [.agg #[.int .i64 r.lv,.int .i64 r.ma,s,d,.slice a r.ti.length cp,p],.int .i64 v,.string at_] w' (.tuple #[.string nx,.bool true]):=fun w' hk=>by
    have:=Sz w' hk
    rwa [hi] at this
   have RJ:=hy k _ (Lm hit aN hi)
   have VJ:lN r.po v (k+1) o=some nx:=by rw [CR hit,hi]
   (refine Jr<|JA rfl<|Jn<|Jq<|Jd rfl fun aq=>Jk<|Jq<|J0<|Jr<|ab (cr bI) rfl ?_;refine JL rfl cY rfl<|Jv rfl<|ag dK rfl (fun w' az=>(mm w' (Mem.keeps az))) ?_;refine Jv rfl<|JJ rfl rfl<|JJ rfl rfl<|Ja rfl<|Ja rfl<|Jn<|Jq<|Jr<|Jv rfl<|JH rfl<|Jv rfl<|JK rfl rfl<|Jv rfl<|JK rfl rfl<|Jv rfl<|JK rfl rfl ?_)
   with_reducible apply wx hB hF RJ
   case hx=>exact Is.of rfl
   case ha=>exact .cons (.of rfl) .nil
   case hd=>rfl
   case ht=>exact .here
   intro q
   cases q with
   | false =>
    simp only [cond_false]
    (refine JK rfl rfl<|JH rfl<|ab (bJ (.of rfl) (.of rfl) (.of rfl) rfl) rfl ?_;refine Jn<|cR (.of rfl) ?_;refine Ju<|Jm<|Jh<|Jh<|Jm ?_)
    first | with_reducible apply aO | with_reducible apply aP
    case he=>exact pj rfl
    case hR=>
     intro w' az
     exact aB false trivial (by exact .cons .here (.cons .here (.cons .here (.cons .here .nil)))) az rfl
   | true =>
    simp only [cond_true]
    (refine JK rfl rfl<|JH rfl<|ab (bJ (.of rfl) (.of rfl) (.of rfl) rfl) rfl ?_;refine Jn<|bR (.of rfl) ?_;refine Jk<|Jg<|Jv rfl<|Ja rfl<|Jx<|Jj<|Jt<|Jg<|JB rfl (by omega)<|Jv rfl<|Jn ?_)
    apply aL (k+1,nx) ⟨show k+1≤r.ti.length+1 by omega,VJ⟩ (show r.ti.length+1-(k+1)<r.ti.length+1-k by omega)
    case hs1=>exact cn
    case ht=>(try simp only [List.take_zero,List.map_nil,List.nil_append]);exact .cons .here (.cons .here (.cons .here (.cons .here .nil)))
 ·obtain rfl:k=r.ti.length+1:=by omega
  have a7:=EE hit hk (.inr rfl)
  refine Jr<|JA rfl<|Jn<|Jq<|Jc rfl fun aq=>Jp<|Jl<|Jo ?_
  first | with_reducible apply aO | with_reducible apply aP
  case he=>exact pj rfl
  case hR=>
   intro w' az
   exact aB true trivial (show bj _ [J (eM r.po v (r.ti.length+1) o).length,_,_,_] _ by rw [a7];exact .cons .here (.cons .here (.cons .here (.cons .here .nil)))) az rfl
end Go.Proofs.A1
namespace Go.Proofs.A1
open Go Go.SL
def RC (r:Ro) (s d t p:Value):List Value:=[.int .i64 r.lv,.int .i64 r.ma,s,d,t,p]
def BR (w:World) (b:Nat) (cs:List Value):Prop:=∀ (j:Nat) (u:Value),cs[j]? = some u→w.cell? ⟨b,0+j,none⟩=some u
theorem BR.keeps {w w':World} {b:Nat} {cs:List Value} (h:BR w b cs) (hk:aF [] w w'):BR w' b cs:=fun j u hu=>cd (h j u hu) rfl hk
theorem BR.of {c:Cx} {hs hs':List ba} {w:World} (hm:Mem c hs w) {b:Nat} {cs:List Value} {E:TypeId} {fz:Nat×Nat} (ht:Take hs (bD b (.cells cs.toArray E fz)) hs'):BR w b cs:=fun j u hu=>by
 rw [Nat.zero_add]
 exact At.mO ht hu w hm
theorem AQ {P:Program} {c:Cx} {sl:aG} {hs:List ba} {dst:Option Tmp} {ty:TypeId} {pos:String} {af:Array Edge} {g:Option (Nat×Bool)} {t u:TypeId} {x y:Operand} {a b:Bool} [hu:iA P t .bool] (hx:Is sl x (.bool a)) (hy:Is sl y (.bool b)) :
  cX P c sl hs ⟨dst,.binOp .neq t x y u,ty,pos,af,g⟩ (.bool (a != b)):=
 ir hx hy fun w=>by
  have:(Op.equal t (.bool a) (.bool b)).run P w=.ok (a==b) w:=by
   exact Ea (d:=9999) (by rw [hu.eq];rfl) (fun k h=>by rw [hu.eq] at h;cases h) (fun h=>by rw [hu.eq] at h;cases h) (fun _=>⟨a,rfl⟩) rfl
  simp [zD,binOp,this,bne]
def Hl (r:Ro) (v:Int) (x:Ti):Bool:=iT r.po v x.nm != mW r.po v x.nm
def Km (r:Ro) (v:Int) (x:Ti):Bool:=iF (eM r.po v (r.ti.length+1) x.nm) x.nm
theorem Lr {r:Ro} {s d t p:Value} (v:Int) (x:Ti) {b1 b2:Nat} {w:World} (h:RR w r s d t p) (hA:BR w b1 (RC r s d t p)) (f2:w.cell? ⟨b2,0,none⟩=some (.int .i64 v)) :
  aj Tryz.prog 238 [.agg x.cells.toArray,.pointer (some ⟨b1,0,none⟩),.pointer (some ⟨b2,0,none⟩)] w (.bool (Hl r v x)):=by
 have h1:=Rd.one h.sr
 have h2:=Rd.one h.de
 have h3:=Rd.one h.ti
 have h4:=Rd.one h.po
 have jI:∀ (j:Nat) (u:Value),[Value.int .i64 r.lv,.int .i64 r.ma,s,d,t,p][j]? = some u→w.cell? ⟨b1,0+j,none⟩=some u:=hA
 unfold Ti.cells
 refine ah Tryz.func238 rfl rfl ?_
 (refine Jr<|Jy rfl rfl fun _ _=>Ja rfl<|Ji<|ab (iz (eG.base jI rfl)) rfl ?_;refine ab (ai (.of rfl) (At.base f2 rfl)) rfl ?_;refine bF rfl rfl ae ?_;refine JL rfl .here rfl ?_)
 refine ag dK rfl (fun w' az=>y9 (s:=s) (d:=d) (t:=t) (p:=p) v x.nm (h.keeps az.keeps)) ?_
 (refine Jv rfl<|JJ rfl rfl<|JJ rfl rfl<|Ja rfl<|Ja rfl<|Ji<|Jv rfl<|ab (iz (eG.base jI rfl)) rfl ?_;refine ab (ai (.of rfl) (At.base f2 rfl)) rfl ?_;refine bF rfl rfl ae ?_;refine JL rfl .here rfl ?_)
 refine ag dK rfl (fun w' az=>Gc (s:=s) (d:=d) (t:=t) (p:=p) v x.nm (h.keeps az.keeps)) ?_
 skip
 refine ab (AQ (.of rfl) (.of rfl)) rfl ?_
 refine Ja rfl<|Jn<|Je<|JT ?_
 rfl
theorem OT {r:Ro} {s d t p:Value} (v:Int) {w:World} (h:RR w r s d t p):aj Tryz.prog 150 [RA r s d t p,.int .i64 v] w (.bool (r.ti.any (Hl r v))):=by
 have h1:=Rd.one h.sr
 have h2:=Rd.one h.de
 have h3:=Rd.one h.ti
 have h4:=Rd.one h.po
 unfold RA
 refine ah Tryz.func150 rfl rfl ?_
 (refine Jr<|Jy rfl rfl fun _ _=>Jy rfl rfl fun _ _=>Ja rfl<|Ji<|bF rfl rfl ae ?_;refine JL rfl (.there .here) rfl<|ab (bn .nil (.cons (.of rfl) (.cons (.of rfl) .nil))) rfl ?_)
 rename_i b3 rG b4 vC
 with_reducible apply ag
 case hr=>exact aZ
 case hd=>rfl
 case hc=>
  intro w' az
  have hA:BR w' b3 [.int .i64 r.lv,.int .i64 r.ma,s,d,t,p]:=BR.of az (by exact Take.there .here)
  have f2:w'.cell? ⟨b4,0,none⟩=some (.int .i64 v):=At.lit (by exact .here) rfl w' az
  have hR:=h.keeps az.keeps
  exact zq (f:=238) (p:=Hl r v) (first:=[]) (cap:=[.pointer (some ⟨b3,0,none⟩),.pointer (some ⟨b4,0,none⟩)]) hR.ti
   (fun x hx w2 ez=>Lr v x (hR.keeps ez) (hA.keeps ez) (cd f2 rfl ez))
 refine Ja rfl<|Jn<|Je<|JT ?_
 rfl
theorem N5 {r:Ro} {s d t p:Value} {q:Int→Bool} {f:FuncId} {first cap:List Value} [bP Tryz.prog f] {w w1:World} (h:RR w1 r s d t p) (zi:r.lv≤1000000)
  (ch:∀ v:Int,0≤v→v<r.lv→∀ w',aF [] w w'→aj Tryz.prog f (first++[.int .i64 v]++cap) w' (.bool (q v))) :
  aj Tryz.prog 148 [RA r s d t p,.func (.func f) first.toArray cap.toArray] w (.bool ((List.range r.lv.toNat).any fun i=>q (i:Nat))):=by
 have h1:=Rd.one h.sr
 have h2:=Rd.one h.de
 have h3:=Rd.one h.ti
 have h4:=Rd.one h.po
 unfold RA
 refine ah Tryz.func148 rfl rfl ?_
 (refine Jr<|Jy rfl rfl fun _ _=>Ja rfl<|Jn<|Jq<|Jr<|bF rfl rfl ae ?_;refine JL rfl .here rfl<|Jv rfl<|Jn<|J0 ?_)
 refine aX (ι:=Nat) (fun k=>k≤r.lv.toNat∧∀ i,i<k→q (i:Nat)=false) (fun k=>[(8,.int .i64 (k:Nat)),(7,.int .i64 r.lv),(1,.func (.func f) first.toArray cap.toArray)]) (fun k=>[]) (fun k=>r.lv.toNat-k) ?_ ?_
 ·apply aK 0 ⟨Nat.zero_le _,fun i h=>by omega⟩
  case hs1=>exact cn
  case ht=>(try simp only [List.take_zero,List.map_nil,List.nil_append]);exact .nil
 rintro k ⟨hk,hz⟩
 by_cases aN:k<r.lv.toNat
 ·have CZ:((k:Nat):Int)<r.lv:=by omega
  refine Jr<|JA rfl<|Jn<|Jq<|Jd rfl fun aq=>Jk<|Jq<|J0<|Jr<|Jv rfl<|Ja rfl<|Ji<|Jv rfl<|Jv rfl ?_
  refine ag bC rfl (fun w' az=>ch (k:Nat) (by omega) CZ w' az.keeps) ?_
  cases hq:q (k:Nat) with
  | true =>
   have e:(List.range r.lv.toNat).any (fun i=>q (i:Nat))=true:=List.any_eq_true.2 ⟨k,List.mem_range.2 aN,hq⟩
   rw [e]
   (refine Jn<|cR (.of rfl) ?_;refine Jr<|Ja rfl<|Jn<|Je<|Jm<|Jh<|Jh<|Jm<|Jh<|JT ?_)
   rfl
  | false =>
   (refine Jn<|bR (.of rfl) ?_;refine Jw<|Jj<|Jt<|Jg<|JB rfl (by omega)<|Jv rfl<|Jn ?_)
   have HN:∀ i,i<k+1→q (i:Nat)=false:=fun i hi=>by
    by_cases e:i=k
    ·rw [e];exact hq
    ·exact hz i (by omega)
   apply aL (k+1) ⟨show k+1≤r.lv.toNat by omega,HN⟩ (show r.lv.toNat-(k+1)<r.lv.toNat-k by omega)
   case hs1=>exact cn
   case ht=>(try simp only [List.take_zero,List.map_nil,List.nil_append]);exact .nil
 ·have e:(List.range r.lv.toNat).any (fun i=>q (i:Nat))=false:=by
   rw [List.any_eq_false]
   intro i hi
   simp [hz i (by have:=List.mem_range.1 hi;omega)]
  rw [e]
  refine Jr<|JA rfl<|Jn<|Jq<|Jc rfl fun aq=>Jp<|Jl<|Jo<|Jt<|Jr<|Ja rfl<|Jn<|Je<|JT ?_
  rfl
theorem Qa {po:List Po} {v:Int} {K:Nat} {o:ByteArray}:lN po v (eM po v K o).length o=some (gl po v K o):=by
 unfold gl
 rcases Nat.eq_zero_or_pos (eM po v K o).length with h | h
 ·rw [List.length_eq_zero_iff.1 h];rfl
 ·obtain ⟨k,hk⟩:∃ k,(eM po v K o).length=k+1:=⟨(eM po v K o).length-1,by omega⟩
  have hl:=jf po v K o
  have:=mN (po:=po) (v:=v) (o:=o) (show k<K by omega)
  rw [hk,← this,List.getLast?_eq_getElem?,hk,Nat.add_sub_cancel,List.getElem?_eq_getElem (by omega)];rfl
theorem CF {po:List Po} {v:Int} {k K:Nat} {o:ByteArray} {vs:List Value} (h:(vQ po v K o)[k]? = some vs):∃ a,lN po v (k+1) o=some a∧vs=[.string a]∧(eM po v K o)[k]? = some a:=by
 unfold vQ at h
 rw [List.getElem?_map,Option.map_eq_some_iff] at h
 obtain ⟨a,ha,rfl⟩:=h
 have hl:=jf po v K o
 have hk:=(List.getElem?_eq_some_iff.1 ha).1
 exact ⟨a,by rw [← mN (k:=K) (by omega)];exact ha,rfl,ha⟩
theorem IB {r:Ro} {s d t p:Value} (v:Int) (x:Ti) {b1 b2:Nat} {w:World} (h:RR w r s d t p) (cJ:r.ti.length≤1000000) (hA:BR w b1 (RC r s d t p)) (f2:w.cell? ⟨b2,0,none⟩=some (.int .i64 v)) :
  aj Tryz.prog 237 [.agg x.cells.toArray,.pointer (some ⟨b1,0,none⟩),.pointer (some ⟨b2,0,none⟩)] w (.bool (Km r v x)):=by
 have h1:=Rd.one h.sr
 have h2:=Rd.one h.de
 have h3:=Rd.one h.ti
 have h4:=Rd.one h.po
 have jI:∀ (j:Nat) (u:Value),[Value.int .i64 r.lv,.int .i64 r.ma,s,d,t,p][j]? = some u→w.cell? ⟨b1,0+j,none⟩=some u:=hA
 unfold Ti.cells
 refine ah Tryz.func237 rfl rfl ?_
 (refine Jr<|Jy rfl rfl fun _ _=>Jz rfl rfl fun _ _=>Jn<|Jq<|Jr<|ab (iz (eG.base jI rfl)) rfl ?_;refine ab (ai (.of rfl) (At.base f2 rfl)) rfl ?_;refine bF rfl rfl ae ?_;refine JL rfl (.there .here) rfl ?_)
 rename_i b3 rG b4 vC
 refine JN dK rfl (fun w1 aJ=>ur v x.nm (h.keeps aJ.keeps)) ?_
 intro y _
 dsimp only [id_eq,List.cons_append,List.nil_append]
 refine Jn<|J0 ?_
 refine iP (ps:=[11]) (f:=222) (first:=[]) (cap:=[.pointer (some ⟨y.1,0,none⟩),.pointer (some ⟨y.2.1,0,none⟩),.pointer (some ⟨y.2.2,0,none⟩)]) (ι:=Unit) (κ:=Unit) (rst:=[]) ?hg
  [bD y.1 (.cells #[.string x.nm] 9 (0,0)),JP y.2.1 r s d t p,bD y.2.2 (.cells #[.int .i64 v] 3 (0,0))] (vQ r.po v (r.ti.length+1) x.nm) ?hit
  (fun k _=>iF ((eM r.po v (r.ti.length+1) x.nm).take k) x.nm=false) (fun _=>[bD b4 (.cells #[.bool false] 4 (0,0)),bD b3 (.cells #[.string x.nm,.int .i64 x.fr,.int .i64 x.to] 187 (0,0))])
  (fun _=>Km r v x=true) (fun _=>[bD b4 (.cells #[.bool true] 4 (0,0)),bD b3 (.cells #[.string x.nm,.int .i64 x.fr,.int .i64 x.to] 187 (0,0))]) (fun _=>.ret) () (by rw [List.take_zero];rfl) ?ht ?hlen ?hps ?round ?kn ?kj
 case hg=>exact Is.of rfl
 case hit=>intro w' az;exact CG v x.nm h RO.nil cJ
 case ht=>
  dsimp only [List.cons_append,List.nil_append]
  exact .cons cY (.cons cY (.cons .here (.cons .here (.cons .here .nil))))
 case hlen=>intro vs nP;obtain ⟨x,_,rfl⟩:=List.mem_map.1 nP;rfl
 case hps=>intro t ht;simp only [List.mem_cons,List.not_mem_nil,or_false] at ht;rcases ht with rfl;exact Nat.le_of_ble_eq_true rfl
 case kj=>
  intro y D hy
  rw [hy]
  dsimp only [List.cons_append,List.nil_append]
  refine Je<|Jm<|Jh ?_
  first | with_reducible apply aO | with_reducible apply aP
  case he=>exact Ez rfl inferInstance rfl (At.lit .here rfl)
  case hR=>exact fun w' az=>⟨rfl,az.keeps⟩
 case kn=>
  intro _ D hq
  rw [qH,List.take_length] at hq
  have vw:Km r v x=false:=hq
  rw [vw]
  dsimp only [List.cons_append,List.nil_append]
  (refine Jj<|Jt<|Jr<|ao (.of rfl) (.of rfl) .here rfl rfl (dZ rfl) (bE rfl) ak ?_;refine Jn<|Je ?_)
  first | with_reducible apply aO | with_reducible apply aP
  case he=>exact Ez rfl inferInstance rfl (At.lit .here rfl)
  case hR=>exact fun w' az=>⟨rfl,az.keeps⟩
 case round=>
  intro l0 rc W fp k u vs hsz hk hq hB hF
  obtain ⟨a,hit,rfl,Bn⟩:=CF hk
  obtain ⟨aN,Ia⟩:=List.getElem?_eq_some_iff.1 Bn
  have htk:(eM r.po v (r.ti.length+1) x.nm).take (k+1)=(eM r.po v (r.ti.length+1) x.nm).take k++[a]:=by rw [List.take_succ_eq_append_getElem aN,Ia]
  dsimp only [List.zip_cons_cons,List.zip_nil_right,lF,List.cons_append,List.nil_append]
  refine Jg<|Ja rfl<|Jn ?_
  with_reducible apply lS
  case ht=>exact .here
  (refine J0<|Jr<|Jv rfl<|bF rfl rfl ae ?_;refine JL rfl bI rfl<|ab (ee (.of rfl) (.of rfl)) rfl ?_;refine Jn<|fY rfl (fun aq=>?_) fun aq=>?_;refine Jr<|ao (.of rfl) (.of rfl) (.there .here) rfl rfl (dZ rfl) (bE rfl) ak ?_;refine Jn<|Je<|Jm ?_;rotate_left;refine Jw<|Jj ?_;rotate_right)
  ·apply KE () rfl
   case ht=>exact Take.there .here
   case hy=>
    refine eX.2 ?_
    have:=List.mem_of_getElem? Bn
    rwa [aq] at this
   case h2=>exact .cons .here (.cons .here .nil)
  ·apply k9 ()
   case ht=>exact .here
   case hx=>
    show iF ((eM r.po v (r.ti.length+1) x.nm).take (k+1)) x.nm=false
    rw [htk]
    unfold iF at hq ⊢
    rw [List.any_append,hq]
    simp
    exact fun e=>aq e.symm
   case h2=>exact .cons .here (.cons .here .nil)
theorem Dk (x:Sr) (o:ByteArray) {b2:Nat} {w:World} (f2:w.cell? ⟨b2,0,none⟩=some (.string o)) :
  aj Tryz.prog 228 [.agg x.cells.toArray,.pointer (some ⟨b2,0,none⟩)] w (.bool (decide (x.nm=o))):=by
 unfold Sr.cells
 refine ah Tryz.func228 rfl rfl ?_
 (refine Jr<|Jy rfl rfl fun _ _=>Ja rfl<|Ji<|bF rfl rfl ae ?_;refine JL rfl .here rfl<|ab (ai (.of rfl) (At.base f2 rfl)) rfl ?_;refine ab (ee (.of rfl) (.of rfl)) rfl ?_;refine Ja rfl<|Jn<|Je<|JT ?_)
 rfl
theorem Mz {r:Ro} {s d t p:Value} (v:Int) {w:World} (h:RR w r s d t p) (cJ:r.ti.length≤1000000):aj Tryz.prog 149 [RA r s d t p,.int .i64 v] w (.bool (r.ti.any (Km r v))):=by
 have h1:=Rd.one h.sr
 have h2:=Rd.one h.de
 have h3:=Rd.one h.ti
 have h4:=Rd.one h.po
 unfold RA
 refine ah Tryz.func149 rfl rfl ?_
 (refine Jr<|Jy rfl rfl fun _ _=>Jy rfl rfl fun _ _=>Ja rfl<|Ji<|bF rfl rfl ae ?_;refine JL rfl (.there .here) rfl<|ab (bn .nil (.cons (.of rfl) (.cons (.of rfl) .nil))) rfl ?_)
 rename_i b3 rG b4 vC
 with_reducible apply ag
 case hr=>exact aZ
 case hd=>rfl
 case hc=>
  intro w' az
  have hA:BR w' b3 [.int .i64 r.lv,.int .i64 r.ma,s,d,t,p]:=BR.of az (by exact Take.there .here)
  have f2:w'.cell? ⟨b4,0,none⟩=some (.int .i64 v):=At.lit (by exact .here) rfl w' az
  have hR:=h.keeps az.keeps
  exact zq (f:=237) (p:=Km r v) (first:=[]) (cap:=[.pointer (some ⟨b3,0,none⟩),.pointer (some ⟨b4,0,none⟩)]) hR.ti
   (fun x hx w2 ez=>IB v x (hR.keeps ez) cJ (hA.keeps ez) (cd f2 rfl ez))
 refine Ja rfl<|Jn<|Je<|JT ?_
 rfl
def kQ (r:Ro) (v:Int) (o:ByteArray):ByteArray:=if r.sr.any (fun x=>decide (x.nm=gl r.po v (r.ti.length+1) o)) then gl r.po v (r.ti.length+1) o else ⟨#[]⟩
theorem oS {r:Ro} {s d t p:Value} (v:Int) (o:ByteArray) {w:World} (h:RR w r s d t p) (cJ:r.ti.length≤1000000):aj Tryz.prog 126 [RA r s d t p,.int .i64 v,.string o] w (.string (kQ r v o)):=by
 have h1:=Rd.one h.sr
 have h2:=Rd.one h.de
 have h3:=Rd.one h.ti
 have h4:=Rd.one h.po
 unfold RA
 refine ah Tryz.func126 rfl rfl ?_
 (refine Jr<|Jy rfl rfl fun _ _=>Ja rfl<|Ji<|Jv rfl<|Jz rfl rfl fun _ _=>ao (.of rfl) (.of rfl) .here rfl rfl (dZ rfl) (bE rfl) ak ?_;refine Jn<|Jq<|Jr<|ab (cr (.there .here)) rfl ?_;refine Jv rfl<|Jv rfl ?_)
 rename_i b3 rG b7 SM
 refine JN dK rfl (fun w1 aJ=>ur v o (h.keeps aJ.keeps)) ?_
 intro y _
 dsimp only [id_eq,List.cons_append,List.nil_append]
 refine Jn<|J0 ?_
 refine iP (ps:=[14]) (f:=222) (first:=[]) (cap:=[.pointer (some ⟨y.1,0,none⟩),.pointer (some ⟨y.2.1,0,none⟩),.pointer (some ⟨y.2.2,0,none⟩)]) (ι:=ByteArray) (κ:=Empty) (rst:=[JP b3 r s d t p]) ?hg
  [bD y.1 (.cells #[.string o] 9 (0,0)),JP y.2.1 r s d t p,bD y.2.2 (.cells #[.int .i64 v] 3 (0,0))] (vQ r.po v (r.ti.length+1) o) ?hit
  (fun k a=>lN r.po v k o=some a) (fun a=>[bD b7 (.cells #[.string a] 9 (0,0))])
  (fun _=>False) (fun _=>[]) (fun _=>.ret) o rfl ?ht ?hlen ?hps ?round ?kn ?kj
 case hg=>exact Is.of rfl
 case hit=>intro w' az;exact CG v o h RO.nil cJ
 case ht=>
  dsimp only [List.cons_append,List.nil_append]
  exact .cons cY (.cons .here (.cons .here (.cons .here .nil)))
 case hlen=>intro vs nP;obtain ⟨x,_,rfl⟩:=List.mem_map.1 nP;rfl
 case hps=>intro t ht;simp only [List.mem_cons,List.not_mem_nil,or_false] at ht;rcases ht with rfl;exact Nat.le_of_ble_eq_true rfl
 case kj=>
  intro y D hy
  exact hy.elim
 case kn=>
  intro a D hq
  rw [qH,Qa,Option.some.injEq] at hq
  have vB:kQ r v o=if r.sr.any (fun x=>decide (x.nm=a)) then a else ⟨#[]⟩:=by rw [← hq];rfl
  rw [vB]
  dsimp only [List.cons_append,List.nil_append]
  (refine Jj<|Jt<|Jq<|Jr<|bF rfl rfl ae ?_;refine JL rfl ei rfl<|ab (bn .nil (.cons (.of rfl) .nil)) rfl ?_)
  with_reducible apply ag
  case hr=>exact aZ
  case hd=>rfl
  case hc=>
   intro w' az
   have f2:w'.cell? ⟨b7,0,none⟩=some (.string a):=At.lit (by exact .here) rfl w' az
   exact Md (f:=228) (p:=fun x=>decide (x.nm=a)) (first:=[]) (cap:=[.pointer (some ⟨b7,0,none⟩)]) (h.keeps az.keeps).sr
    (fun x hx w2 ez=>Dk x a (cd f2 rfl ez))
  cases r.sr.any (fun x=>decide (x.nm=a)) with
  | true =>
   (refine Jn<|cR (.of rfl) ?_;refine Jr<|JL rfl .here rfl<|Ja rfl<|Jn<|Ju ?_)
   first | with_reducible apply aO | with_reducible apply aP
   case he=>exact dj rfl rfl
   case hR=>exact fun w' az=>⟨rfl,az.keeps⟩
  | false =>
   (refine Jn<|bR (.of rfl) ?_;refine Jk<|Jr<|Ja rfl<|Jn<|Je ?_)
   first | with_reducible apply aO | with_reducible apply aP
   case he=>exact dj rfl rfl
   case hR=>exact fun w' az=>⟨rfl,az.keeps⟩
 case round=>
  intro l0 rc W fp k a0 vs hsz hk hq hB hF
  obtain ⟨a,hit,rfl,Bn⟩:=CF hk
  dsimp only [List.zip_cons_cons,List.zip_nil_right,lF,List.cons_append,List.nil_append]
  refine Jg<|Ja rfl<|Jn ?_
  with_reducible apply lS
  case ht=>exact .here
  (refine J0<|Jg<|Jv rfl<|ao (.of rfl) (.of rfl) (.there .here) rfl rfl (dZ rfl) (bE rfl) ak ?_;refine Jx<|Jj ?_)
  apply k9 a
  case ht=>exact Take.there .here
  case hx=>exact hit
  case h2=>
   exact .cons .here .nil
end Go.Proofs.A1
namespace Go.Proofs.A1
open Go Go.SL
theorem qb {k k':ByteArray} {v:Value}:∀ {l:List (ByteArray×Value)},er k' (mf k v l)=if k'=k then some v else er k' l
 | []=>by simp [mf,er]
 | (x, u) :: r => by
  simp only [mf]
  split
  ·rename_i e;subst e;simp only [er];split <;> rfl
  ·rename_i e
   simp only [er]
   rw [qb]
   by_cases h:k'=x
   ·rw [if_pos h,if_pos h,if_neg (fun q=>e (q.symm.trans h))]
   ·rw [if_neg h,if_neg h]
theorem Hx {α:Type} {l:List α} {key:α→ByteArray} {val:Nat→α→Value} {f:Nat→PM} (hs:∀ k (h:k<l.length),f (k+1)=mf (key l[k]) (val k l[k]) (f k)) (s:ByteArray) :
  (∀ k,k≤l.length→(∀ j (hj:j<l.length),j<k→key l[j]≠s)→er s (f k)=er s (f 0)) ∧
  (∀ k,k≤l.length→∀ i (hi:i<l.length),i<k→key l[i]=s→(∀ j (hj:j<l.length),i<j→j<k→key l[j]≠s)→er s (f k)=some (val i l[i])):=by
 constructor
 ·intro k
  induction k with
  | zero=>intro _ _;rfl
  | succ k ih =>
   intro hk hne
   rw [hs k (by omega),qb,if_neg (fun e=>hne k (by omega) (by omega) e.symm)]
   exact ih (by omega) fun j hj h=>hne j hj (by omega)
 ·intro k
  induction k with
  | zero=>intro _ i _ h;omega
  | succ k ih =>
   intro hk i hi T4 he hne
   rw [hs k (by omega),qb]
   by_cases e:i=k
   ·subst e
    rw [if_pos he.symm]
   ·rw [if_neg (fun q=>hne k (by omega) (by omega) (by omega) q.symm)]
    exact ih (by omega) i hi (by omega) he fun j hj h h'=>hne j hj h (by omega)
theorem uB {α:Type} {l:List α} {key:α→ByteArray} {val:Nat→α→Value} {f:Nat→PM} (hs:∀ k (h:k<l.length),f (k+1)=mf (key l[k]) (val k l[k]) (f k)) (s:ByteArray) :
  (s ∉ l.map key→er s (f l.length)=er s (f 0))∧((l.map key).Nodup→∀ i (hi:i<l.length),key l[i]=s→er s (f l.length)=some (val i l[i])):=by
 obtain ⟨h1,h2⟩:=Hx hs s
 constructor
 ·intro hn
  exact h1 _ (Nat.le_refl _) fun j hj _ e=>hn (List.mem_map.2 ⟨_,List.getElem_mem hj,e⟩)
 ·intro hd i hi he
  refine h2 _ (Nat.le_refl _) i hi hi he fun j hj xD _ e=>?_
  have:=(List.pairwise_iff_getElem.1 hd) i j (by rw [List.length_map];exact hi) (by rw [List.length_map];exact hj) xD
  rw [List.getElem_map,List.getElem_map,he,e] at this
  exact this rfl
structure B7 (r:Ro):Prop where
 nd:(dX r).Nodup
theorem B7.parts {r:Ro} (h:B7 r):(cz r).Nodup∧(cm r).Nodup∧(cK r).Nodup∧(∀ s∈cz r,s ∉ cm r)∧(∀ s∈cz r,s ∉ cK r)∧(∀ s∈cm r,s ∉ cK r):=by
 have:=h.nd
 unfold dX at this
 rw [List.nodup_append] at this
 obtain ⟨h1,h2,h3⟩:=this
 rw [List.nodup_append] at h1
 obtain ⟨h4,h5,h6⟩:=h1
 exact ⟨h4,h5,h2,fun s hs hd=>h6 s hs s hd rfl,fun s hs ht=>h3 s (List.mem_append_left _ hs) s ht rfl,fun s hs ht=>h3 s (List.mem_append_right _ hs) s ht rfl⟩
theorem eu {l:List ByteArray} {s:ByteArray} (h:s∈l):0≤bA l s:=by
 have:=(not_congr (bT (l:=l) (s:=s))).2 (not_not_intro h)
 omega
theorem rK {l:List ByteArray} {s:ByteArray} (hd:l.Nodup) {i:Nat} (h:i<l.length) (e:l[i]=s):bA l s=(i:Nat):=
 pP h e fun j hj q=>by
  have:=(List.pairwise_iff_getElem.1 hd) j i (by omega) h hj
  exact this (q.trans e.symm)
theorem pC {r:Ro} (hd:B7 r) (s:ByteArray):er s (nH r)=if iF (dX r) s then some (kV (dP r s) (jU r s) (jE r s)) else none:=by
 obtain ⟨n1,n2,n3,d1,d2,d3⟩:=hd.parts
 have hS:=uB (l:=r.sr) (key:=Sr.nm) (val:=fun _ x=>kV (-1) (-1) x.mx) (f:=vv r.sr) (fun k h=>G8 h) s
 have hD:=uB (l:=r.de) (key:=De.nm) (val:=fun k x=>kV (k:Nat) x.mx (-1)) (f:=B0 (vv r.sr r.sr.length) r.de) (fun k h=>G9 h) s
 have hT:=uB (l:=r.ti) (key:=Ti.nm) (val:=fun k x=>kV ((r.de.length:Int)+(k:Nat)) x.fr x.to) (f:=Kd (B0 (vv r.sr r.sr.length) r.de r.de.length) r.de.length r.ti) (fun k h=>G7 h) s
 change (s ∉ cK r→er s (nH r)=er s (B0 (vv r.sr r.sr.length) r.de r.de.length))∧((cK r).Nodup→_) at hT
 change (s ∉ cm r→er s (B0 (vv r.sr r.sr.length) r.de r.de.length)=er s (vv r.sr r.sr.length))∧((cm r).Nodup→_) at hD
 change (s ∉ cz r→er s (vv r.sr r.sr.length)=er s [])∧((cz r).Nodup→_) at hS
 have dR:iF (dX r) s=true↔(s∈cz r∨s∈cm r)∨s∈cK r:=by rw [eX];unfold dX;rw [List.mem_append,List.mem_append]
 by_cases ht:s∈cK r
 ·rw [if_pos (dR.2 (.inr ht))]
  obtain ⟨i,hi,e⟩:=List.getElem_of_mem ht
  have z6:i<r.ti.length:=by unfold cK at hi;rwa [List.length_map] at hi
  have e':(r.ti[i]).nm=s:=by simpa [cK] using e
  have hf:=rK n3 hi e
  have f1:bA (cm r) s<0:=bT.2 fun h=>d3 s h ht
  have f2:bA (cz r) s<0:=bT.2 fun h=>d2 s h ht
  refine (hT.2 n3 i z6 e').trans ?_
  unfold dP jU jE
  rw [if_neg (by omega),if_pos (by rw [hf];omega),if_neg (by omega),if_pos (by rw [hf];omega),if_neg (by omega),if_pos (by rw [hf];omega),hf,Int.toNat_natCast,List.getD_eq_getElem?_getD,List.getElem?_eq_getElem z6]
  rfl
 ·rw [hT.1 ht]
  have f3:bA (cK r) s<0:=bT.2 ht
  by_cases vA:s∈cm r
  ·rw [if_pos (dR.2 (.inl (.inr vA)))]
   obtain ⟨i,hi,e⟩:=List.getElem_of_mem vA
   have z6:i<r.de.length:=by unfold cm at hi;rwa [List.length_map] at hi
   have e':(r.de[i]).nm=s:=by simpa [cm] using e
   have hf:=rK n2 hi e
   have f2:bA (cz r) s<0:=bT.2 fun h=>d1 s h vA
   refine (hD.2 n2 i z6 e').trans ?_
   unfold dP jU jE
   rw [if_pos (by rw [hf];omega),if_pos (by rw [hf];omega),if_neg (by omega),if_neg (by omega),hf,Int.toNat_natCast,List.getD_eq_getElem?_getD,List.getElem?_eq_getElem z6]
   rfl
  ·rw [hD.1 vA]
   have f1:bA (cm r) s<0:=bT.2 vA
   by_cases hs:s∈cz r
   ·rw [if_pos (dR.2 (.inl (.inl hs)))]
    obtain ⟨i,hi,e⟩:=List.getElem_of_mem hs
    have z6:i<r.sr.length:=by unfold cz at hi;rwa [List.length_map] at hi
    have e':(r.sr[i]).nm=s:=by simpa [cz] using e
    have hf:=rK n1 hi e
    refine (hS.2 n1 i z6 e').trans ?_
    unfold dP jU jE
    rw [if_neg (by omega),if_neg (by omega),if_neg (by omega),if_neg (by omega),if_pos (by rw [hf];omega),hf,Int.toNat_natCast,List.getD_eq_getElem?_getD,List.getElem?_eq_getElem z6]
    rfl
   ·rw [hS.1 hs,if_neg (fun h=>by rcases dR.1 h with (h | h) | h <;> contradiction)]
    rfl
def jR (x y:Int):Int:=if x<y then -1 else if y<x then 1 else 0
def kY:List Int→List Int→Int
 | [],[]=>0
 | [],_::_=>-1
 | _::_,[]=>1
 | x::a,y::b=>if jR x y≠0 then jR x y else kY a b
theorem hY {x y:Int}:jR x y=0↔x=y:=by
 unfold jR
 split
 ·constructor <;> intro h <;> omega
 ·split <;> constructor <;> intro h <;> omega
theorem IL:∀ b:List Int,kY [] b=if 0<b.length then -1 else 0
 | []=>rfl
 | _::_=>rfl
theorem FN {a b:List Int} {k:Nat} (ha:k<a.length) (hb:k<b.length):kY (a.drop k) (b.drop k)=if jR a[k] b[k]≠0 then jR a[k] b[k] else kY (a.drop (k+1)) (b.drop (k+1)):=by
 rw [List.drop_eq_getElem_cons ha,List.drop_eq_getElem_cons hb];rfl
end Go.Proofs.A1
