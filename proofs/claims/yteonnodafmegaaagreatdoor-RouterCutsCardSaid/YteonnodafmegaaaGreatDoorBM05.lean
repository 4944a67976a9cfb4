/- Parts of the proof: K5 K6 GkLook K7 K8 K9 K9q. -/
import Derived.Test.YteonnodafmegaaaGreatDoorBM04
import Derived.Test.YteonnodafmegaaaGreatDoorBM03
import Derived.Test.YteonnodafmegaaaGreatDoorBM01
set_option linter.unusedSectionVars false
set_option linter.unusedVariables false
set_option linter.unusedSimpArgs false
namespace Go.Proofs.A1
open Go Go.SL
theorem EV {c:Cx} {D:List Nat} {sl:aI} {hs hs':List a8} {X:Act→World→Prop} {E:TypeId} {g:Nat} {xs:List Value} (n sz:Nat) (ht:Take hs (bA g (.cells xs.toArray E (0,0))) hs') (hl:xs.length=n*sz) (hn:Nat.ble n 1000=true)
  (k:Tr c D sl (row E sz (.slice (some ⟨g,0,none⟩) n n) n xs::hs') X):Tr c D sl hs X:=
 c6 (cur:=[]) (by rw [List.append_nil];exact ht) (Nat.le_refl _) (by have:=Nat.le_of_ble_eq_true hn;unfold maxLen;omega) (by rw [List.append_nil];exact hl) hl k
theorem bQ {c:Cx} {D:List Nat} {sl:aI} {hs hs':List a8} {X:Act→World→Prop} {E:TypeId} {g:Nat} {xs ys:List Value} (n sz:Nat) (ht:Take hs (bA g (.cells xs.toArray E (0,0))) hs') (he:xs=ys) (hl:ys.length=n*sz) (hn:Nat.ble n 1000=true)
  (k:Tr c D sl (row E sz (.slice (some ⟨g,0,none⟩) n n) n ys::hs') X):Tr c D sl hs X:=by
 subst he
 exact EV n sz ht hl hn k
def iK (l:List ByteArray) (x:ByteArray):Bool:=l.any fun y=>decide (x=y)
theorem fb {l:List ByteArray} {x:ByteArray}:iK l x=true↔x∈l:=by
 unfold iK;rw [List.any_eq_true]
 constructor
 ·rintro ⟨y,hy,h⟩
  rw [decide_eq_true_iff] at h;rw [h];exact hy
 ·intro h;exact ⟨x,h,by simp⟩
theorem HV {lv:Value} {l:List ByteArray} (x:ByteArray) {w:World} (h:Rd w lv 1 (iT l)) :
  aj Tryz.prog 181 [lv,.string x] w (.int .i64 (gK (fun y=>decide (x=y)) l)):=by
 obtain ⟨a,cp,b,o,rfl,db,bT,ha,hc⟩:=h
 rw [cg] at *
 unfold maxLen at bT
 refine ah Tryz.func181 rfl rfl ?_
 refine Jr<|Ja rfl<|Jn<|Jq<|Jr<|Jv rfl<|JI rfl<|Jv rfl<|Jn<|J0 ?_
 refine aX (fun k:Nat=>k≤l.length∧∀ i,i<k→(l[i]?.map fun y=>decide (x=y)).getD false=false) (fun k=>[(8,.int .i64 k),(7,.int .i64 l.length),(0,.slice a l.length cp),(1,.string x)]) (fun _=>[]) (fun k=>l.length-k) ?_ ?_
 ·apply aJ 0 ⟨Zi _,fun i h=>by omega⟩
  case hs1=>exact cd
  case ht=>(try simp only [Ze,Zf,Za]);exact .nil
 rintro k ⟨hk,hf⟩
 by_cases aL:k<l.length
 ·have cE:=ha (mC aL)
  have c0:w.cell? ⟨b,o+k*1,none⟩=some (.string l[k]):=(hc k _ (jG aL)).2 0 _ rfl
  have hps:(l[k]?.map fun y=>decide (x=y)).getD false=decide (x=l[k]):=by simp [aL]
  (refine Jr<|JA rfl<|Jn<|Jq<|Jd rfl fun ar=>Jk<|Jq<|J0<|Jr<|Jv rfl<|Ja rfl<|Ji<|Jv rfl<|Jv rfl<|Jv rfl<|ab (fH cE ar) rfl ?_;refine ab (ag (.of rfl) (At.base c0 rfl)) rfl ?_;refine ab (dR (.of rfl) (.of rfl)) rfl ?_;refine Jn<|gm rfl (fun ar=>?_) fun ar=>?_;refine Jr<|Jv rfl<|Ja rfl<|Jn<|Je<|Jm<|Jh<|Jh<|Jm<|Jh<|JT ?_;rotate_left;refine Jw<|Jj<|Jt<|Jg<|JB rfl (by omega)<|Jv rfl<|Jn ?_;rotate_right)
  ·rw [gj hf aL (by simpa using ar)]
  ·apply aK (k+1) ⟨by omega,fun i hi=>by
    by_cases e:i=k
    ·rw [e,hps];simpa using ar
    ·exact hf i (by omega)⟩ (by omega)
   case hs1=>exact cd
   case ht=>(try simp only [Ze,Zf,Za]);exact .nil
 ·obtain rfl:k=l.length:=by omega
  refine Jr<|JA rfl<|Jn<|Jq<|Jc rfl fun ar=>Jp<|Jl<|Jo<|Jt<|Jr<|Ja rfl<|Jn<|Je<|JT ?_
  rw [fx hf]
theorem oy {lv:Value} {l:List ByteArray} (x:ByteArray) {w:World} (h:Rd w lv 1 (iT l)) :
  aj Tryz.prog 179 [lv,.string x] w (.bool (iK l x)):=by
 have iF:∀ w',aG [] w w'→aj Tryz.prog 181 [lv,.string x] w' (.int .i64 (gK (fun y=>decide (x=y)) l)):=fun w' hk=>HV x (h.keeps hk)
 have e:iK l x=l.any fun y=>decide (x=y):=rfl
 rw [e,← jP]
 refine ah Tryz.func179 rfl rfl ?_
 (refine Jr<|Ja rfl<|Ji<|Jv rfl<|Jv rfl<|ai aZ rfl (fun w' au=>(iF w' (Mem.keeps au))) ?_;refine JG rfl<|Ja rfl<|Jn<|Je<|JT ?_)
 rfl
theorem Mf {lv:Value} {l:List Int} (x:Int) {w:World} (h:Rd w lv 1 (ints l)) :
  aj Tryz.prog 241 [lv,.int .i64 x] w (.int .i64 (gK (fun y=>decide (x=y)) l)):=by
 obtain ⟨a,cp,b,o,rfl,db,bT,ha,hc⟩:=h
 rw [bW] at *
 unfold maxLen at bT
 refine ah Tryz.func241 rfl rfl ?_
 refine Jr<|Ja rfl<|Jn<|Jq<|Jr<|Jv rfl<|JI rfl<|Jv rfl<|Jn<|J0 ?_
 refine aX (fun k:Nat=>k≤l.length∧∀ i,i<k→(l[i]?.map fun y=>decide (x=y)).getD false=false) (fun k=>[(8,.int .i64 k),(7,.int .i64 l.length),(0,.slice a l.length cp),(1,.int .i64 x)]) (fun _=>[]) (fun k=>l.length-k) ?_ ?_
 ·apply aJ 0 ⟨Zi _,fun i h=>by omega⟩
  case hs1=>exact cd
  case ht=>(try simp only [Ze,Zf,Za]);exact .nil
 rintro k ⟨hk,hf⟩
 by_cases aL:k<l.length
 ·have cE:=ha (ic aL)
  have c0:w.cell? ⟨b,o+k*1,none⟩=some (.int .i64 l[k]):=(hc k _ (fC aL)).2 0 _ rfl
  have hps:(l[k]?.map fun y=>decide (x=y)).getD false=decide (x=l[k]):=by simp [aL]
  (refine Jr<|JA rfl<|Jn<|Jq<|Jd rfl fun ar=>Jk<|Jq<|J0<|Jr<|Jv rfl<|Ja rfl<|Ji<|Jv rfl<|Jv rfl<|Jv rfl<|ab (fH cE ar) rfl ?_;refine ab (ag (.of rfl) (At.base c0 rfl)) rfl ?_;refine JC rfl<|Jn<|gm rfl (fun ar=>?_) fun ar=>?_;refine Jr<|Jv rfl<|Ja rfl<|Jn<|Je<|Jm<|Jh<|Jh<|Jm<|Jh<|JT ?_;rotate_left;refine Jw<|Jj<|Jt<|Jg<|JB rfl (by omega)<|Jv rfl<|Jn ?_;rotate_right)
  ·rw [gj hf aL (by simpa using ar)]
  ·apply aK (k+1) ⟨by omega,fun i hi=>by
    by_cases e:i=k
    ·rw [e,hps];simpa using ar
    ·exact hf i (by omega)⟩ (by omega)
   case hs1=>exact cd
   case ht=>(try simp only [Ze,Zf,Za]);exact .nil
 ·obtain rfl:k=l.length:=by omega
  refine Jr<|JA rfl<|Jn<|Jq<|Jc rfl fun ar=>Jp<|Jl<|Jo<|Jt<|Jr<|Ja rfl<|Jn<|Je<|JT ?_
  rw [fx hf]
theorem kY {lv:Value} {l:List Int} (x:Int) {w:World} (h:Rd w lv 1 (ints l)) :
  aj Tryz.prog 154 [lv,.int .i64 x] w (.bool (l.contains x)):=by
 have iF:∀ w',aG [] w w'→aj Tryz.prog 241 [lv,.int .i64 x] w' (.int .i64 (gK (fun y=>decide (x=y)) l)):=fun w' hk=>Mf x (h.keeps hk)
 have e:l.contains x=l.any fun y=>decide (x=y):=by
  rw [List.contains_eq_any_beq];rfl
 rw [e,← jP]
 refine ah Tryz.func154 rfl rfl ?_
 (refine Jr<|Ja rfl<|Ji<|Jv rfl<|Jv rfl<|ai aZ rfl (fun w' au=>(iF w' (Mem.keeps au))) ?_;refine JG rfl<|Ja rfl<|Jn<|Je<|JT ?_)
 rfl
theorem vn {lv:Value} {l:List ByteArray} {w:World} (h:Rd w lv 1 (iT l)) (hl:l.length≤1000) :
  bd Tryz.prog 234 [lv] w [] (fun _:Value=>True) id (fun v=>[row 9 1 v l.length (aO l)]):=by
 have h':=h
 obtain ⟨a,cp,b,o,rfl,db,bT,ha,hc⟩:=h
 refine aQ Tryz.func234 rfl rfl ?_
 cases a with
 | none =>
  have me:l=[]:=by
   cases l with
   | nil=>rfl
   | cons x r=>exact absurd (ha (by simp [iT])) (by simp)
  subst me
  (refine Jr<|Ja rfl<|Jn<|Jq<|Jr<|Jv rfl<|ab (gp (.of rfl) (.of rfl)) rfl ?_;refine Jn<|cB (.of rfl) ?_;refine Jr<|Ja rfl<|Jn<|Ju ?_)
  refine aP 9 1 ?_
  first | with_reducible apply aM | with_reducible apply aN
  case he=>exact dp rfl rfl
  case hR=>
   intro w' au
   exact aB (.slice none 0 0) trivial (by exact .cons .here .nil) au rfl
 | some ad =>
  (refine Jr<|Ja rfl<|Jn<|Jq<|Jr<|Jv rfl<|ab (gp (.of rfl) (.of rfl)) rfl ?_;refine Jn<|bL (.of rfl) ?_;refine Jk<|Jr<|bb (aA .nil rfl rfl rfl rfl) rfl fun _ _=>?_;refine Jv rfl ?_)
  rename_i bq mg
  refine bQ (g:=bq) (E:=9) (ys:=[]) 0 1 (by exact .here) rfl rfl rfl ?_
  with_reducible apply fX
  case hx=>exact Is.of rfl
  case hy=>exact Is.of rfl
  case ht=>exact .here
  case hsrc=>exact fun w' au=>h'.keeps au.keeps
  case h1=>exact yp l
  case hz=>exact rfl
  case hsz=>exact rfl
  case hb0=>exact rfl
  case hb=>rw [cg];omega
  case hd=>rfl
  intro v'
  rw [cg,← qt,Nat.zero_add,Za]
  refine Ja rfl<|Jn<|Je ?_
  first | with_reducible apply aM | with_reducible apply aN
  case he=>exact dp rfl rfl
  case hR=>
   intro w' au
   exact aB v' trivial (by exact .cons .here .nil) au rfl
theorem Lh (l:List Sr):nH l=(vF l).flatten:=rfl
theorem FT {lv:Value} {l:List Sr} {w:World} (h:Rd w lv 2 (vF l)) (hl:l.length≤1000) :
  bd Tryz.prog 266 [lv] w [] (fun _:Value=>True) id (fun v=>[row 186 2 v l.length (nH l)]):=by
 have h':=h
 obtain ⟨a,cp,b,o,rfl,db,bT,ha,hc⟩:=h
 refine aQ Tryz.func266 rfl rfl ?_
 cases a with
 | none =>
  have me:l=[]:=by
   cases l with
   | nil=>rfl
   | cons x r=>exact absurd (ha (by simp [vF])) (by simp)
  subst me
  (refine Jr<|Ja rfl<|Jn<|Jq<|Jr<|Jv rfl<|ab (gp (.of rfl) (.of rfl)) rfl ?_;refine Jn<|cB (.of rfl) ?_;refine Jr<|Ja rfl<|Jn<|Ju ?_)
  refine aP 186 2 ?_
  first | with_reducible apply aM | with_reducible apply aN
  case he=>exact dp rfl rfl
  case hR=>
   intro w' au
   exact aB (.slice none 0 0) trivial (by exact .cons .here .nil) au rfl
 | some ad =>
  (refine Jr<|Ja rfl<|Jn<|Jq<|Jr<|Jv rfl<|ab (gp (.of rfl) (.of rfl)) rfl ?_;refine Jn<|bL (.of rfl) ?_;refine Jk<|Jr ?_)
  with_reducible apply bb
  case hr=>exact kg
  case hd=>rfl
  intro bq mg
  refine NR rfl rfl ?_
  refine bQ (g:=bq) (E:=186) (ys:=[]) 0 2 (by exact .here) rfl rfl rfl ?_
  with_reducible apply fX
  case hx=>exact Is.of rfl
  case hy=>exact Is.of rfl
  case ht=>exact .here
  case hsrc=>exact fun w' au=>h'.keeps au.keeps
  case h1=>exact Lj l
  case hz=>exact rfl
  case hsz=>exact rfl
  case hb0=>exact rfl
  case hb=>rw [cu];omega
  case hd=>rfl
  intro v'
  rw [cu,Nat.zero_add,Za,← Lh]
  refine Ja rfl<|Jn<|Je ?_
  first | with_reducible apply aM | with_reducible apply aN
  case he=>exact dp rfl rfl
  case hR=>
   intro w' au
   exact aB v' trivial (by exact .cons .here .nil) au rfl
theorem MY (l:List De):lE l=(vi l).flatten:=rfl
theorem FV {lv:Value} {l:List De} {w:World} (h:Rd w lv 3 (vi l)) (hl:l.length≤1000) :
  bd Tryz.prog 267 [lv] w [] (fun _:Value=>True) id (fun v=>[row 90 3 v l.length (lE l)]):=by
 have h':=h
 obtain ⟨a,cp,b,o,rfl,db,bT,ha,hc⟩:=h
 refine aQ Tryz.func267 rfl rfl ?_
 cases a with
 | none =>
  have me:l=[]:=by
   cases l with
   | nil=>rfl
   | cons x r=>exact absurd (ha (by simp [vi])) (by simp)
  subst me
  (refine Jr<|Ja rfl<|Jn<|Jq<|Jr<|Jv rfl<|ab (gp (.of rfl) (.of rfl)) rfl ?_;refine Jn<|cB (.of rfl) ?_;refine Jr<|Ja rfl<|Jn<|Ju ?_)
  refine aP 90 3 ?_
  first | with_reducible apply aM | with_reducible apply aN
  case he=>exact dp rfl rfl
  case hR=>
   intro w' au
   exact aB (.slice none 0 0) trivial (by exact .cons .here .nil) au rfl
 | some ad =>
  (refine Jr<|Ja rfl<|Jn<|Jq<|Jr<|Jv rfl<|ab (gp (.of rfl) (.of rfl)) rfl ?_;refine Jn<|bL (.of rfl) ?_;refine Jk<|Jr ?_)
  with_reducible apply bb
  case hr=>exact kg
  case hd=>rfl
  intro bq mg
  refine NR rfl rfl ?_
  refine bQ (g:=bq) (E:=90) (ys:=[]) 0 3 (by exact .here) rfl rfl rfl ?_
  with_reducible apply fX
  case hx=>exact Is.of rfl
  case hy=>exact Is.of rfl
  case ht=>exact .here
  case hsrc=>exact fun w' au=>h'.keeps au.keeps
  case h1=>exact M0 l
  case hz=>exact rfl
  case hsz=>exact rfl
  case hb0=>exact rfl
  case hb=>rw [bU];omega
  case hd=>rfl
  intro v'
  rw [bU,Nat.zero_add,Za,← MY]
  refine Ja rfl<|Jn<|Je ?_
  first | with_reducible apply aM | with_reducible apply aN
  case he=>exact dp rfl rfl
  case hR=>
   intro w' au
   exact aB v' trivial (by exact .cons .here .nil) au rfl
theorem K5 (l:List Ti):pC l=(ui l).flatten:=rfl
theorem FQ {lv:Value} {l:List Ti} {w:World} (h:Rd w lv 3 (ui l)) (hl:l.length≤1000) :
  bd Tryz.prog 268 [lv] w [] (fun _:Value=>True) id (fun v=>[row 187 3 v l.length (pC l)]):=by
 have h':=h
 obtain ⟨a,cp,b,o,rfl,db,bT,ha,hc⟩:=h
 refine aQ Tryz.func268 rfl rfl ?_
 cases a with
 | none =>
  have me:l=[]:=by
   cases l with
   | nil=>rfl
   | cons x r=>exact absurd (ha (by simp [ui])) (by simp)
  subst me
  (refine Jr<|Ja rfl<|Jn<|Jq<|Jr<|Jv rfl<|ab (gp (.of rfl) (.of rfl)) rfl ?_;refine Jn<|cB (.of rfl) ?_;refine Jr<|Ja rfl<|Jn<|Ju ?_)
  refine aP 187 3 ?_
  first | with_reducible apply aM | with_reducible apply aN
  case he=>exact dp rfl rfl
  case hR=>
   intro w' au
   exact aB (.slice none 0 0) trivial (by exact .cons .here .nil) au rfl
 | some ad =>
  (refine Jr<|Ja rfl<|Jn<|Jq<|Jr<|Jv rfl<|ab (gp (.of rfl) (.of rfl)) rfl ?_;refine Jn<|bL (.of rfl) ?_;refine Jk<|Jr ?_)
  with_reducible apply bb
  case hr=>exact kg
  case hd=>rfl
  intro bq mg
  refine NR rfl rfl ?_
  refine bQ (g:=bq) (E:=187) (ys:=[]) 0 3 (by exact .here) rfl rfl rfl ?_
  with_reducible apply fX
  case hx=>exact Is.of rfl
  case hy=>exact Is.of rfl
  case ht=>exact .here
  case hsrc=>exact fun w' au=>h'.keeps au.keeps
  case h1=>exact K7 l
  case hz=>exact rfl
  case hsz=>exact rfl
  case hb0=>exact rfl
  case hb=>rw [bJ];omega
  case hd=>rfl
  intro v'
  rw [bJ,Nat.zero_add,Za,← K5]
  refine Ja rfl<|Jn<|Je ?_
  first | with_reducible apply aM | with_reducible apply aN
  case he=>exact dp rfl rfl
  case hR=>
   intro w' au
   exact aB v' trivial (by exact .cons .here .nil) au rfl
theorem yK (l:List Po):jf l=(sU l).flatten:=rfl
theorem LZ {lv:Value} {l:List Sr} {g:Sr→ByteArray} {f:FuncId} {first cap:List Value} [bS Tryz.prog f] {w:World} (h:Rd w lv 2 (vF l)) (hn:l.length≤1000000)
  (cn:∀ x∈l,∀ w',aG [] w w'→aj Tryz.prog f (first++[.agg x.cells.toArray]++cap) w' (.string (g x))) :
  bd Tryz.prog 140 [lv,.func (.func f) first.toArray cap.toArray] w [] (fun _:Value=>True) id (fun v=>[row 9 1 v l.length (aO (l.map g))]):=by
 obtain ⟨a,cp,b,o,rfl,db,bT,ha,hc⟩:=h
 rw [cu] at *
 unfold maxLen at bT
 refine aQ Tryz.func140 rfl rfl ?_
 refine Jr<|Ja rfl<|Ji<|Ja rfl<|Jn<|Jq<|Jr<|Jv rfl<|JI rfl<|Jv rfl<|Jn<|J0 ?_
 refine aP 9 1 ?_
 refine aX (ι:=Nat×Value) (fun x=>x.1≤l.length) (fun x=>[(10,.int .i64 x.1),(9,.int .i64 l.length),(8,.slice a l.length cp),(5,x.2),(1,.func (.func f) first.toArray cap.toArray)]) (fun x=>[row 9 1 x.2 x.1 (aO ((l.take x.1).map g))]) (fun x=>l.length-x.1) ?_ ?_
 ·apply aJ (0,.slice none 0 0) (Zi _)
  case hs1=>exact cd
  case ht=>
   exact .cons .here .nil
 rintro ⟨k,v⟩ hk
 dsimp only at hk ⊢
 by_cases aL:k<l.length
 ·have cE:=ha (gB aL)
  have aC:=(hc k _ (fm aL)).2
  have iF:=cn _ (Zj aL)
  have H4:aO ((l.take (k+1)).map g)=aO ((l.take k).map g)++[.string (g l[k])]:=by
   rw [List.take_succ_eq_append_getElem aL,List.map_append,eO];rfl
  generalize g l[k]=gk at iF H4
  unfold Sr.cells at aC iF
  (refine Jr<|JA rfl<|Jn<|Jq<|Jd rfl fun ar=>Jk<|Jq<|J0<|Jr<|ab (fH cE ar) rfl ?_;refine ab (iv (eF.base aC rfl)) rfl ?_;refine Jz rfl rfl fun _ _=>aq (.of rfl) (.of rfl) .here rfl rfl (gF rfl rfl) (bC rfl) an ?_;refine Jn<|Jg<|Jv rfl<|Jv rfl<|ab (cz .here) rfl ?_)
  refine ai bI rfl (fun w' au=>(iF w' (Mem.keeps au))) ?_
  refine bb (aA (.cons (.of rfl) .nil) rfl rfl rfl rfl) rfl (fun _ _=>?_)
  refine bB (.of rfl) (.of rfl) bN .here an (by rfl) (ed rfl) (by rfl) (by rfl) (by rfl) eH (by rfl) ?_
  intro v'
  refine Ja rfl<|Jx<|Jj<|Jt<|Jg<|JB rfl (by omega)<|Jv rfl<|Jn ?_
  apply aK (k+1,v') (by show k+1≤l.length;omega) (by show l.length-(k+1)<l.length-k;omega)
  case hs1=>exact cd
  case ht=>
   show bo _ [row 9 1 v' (k+1) (aO ((l.take (k+1)).map g))] _
   rw [H4]
   exact .cons .here .nil
 ·obtain rfl:k=l.length:=by omega
  rw [List.take_length]
  refine Jr<|JA rfl<|Jn<|Jq<|Jc rfl fun ar=>Jp<|Jl<|Jo<|Jt<|Jr<|Jv rfl<|Ja rfl<|Jn<|Je ?_
  first | with_reducible apply aM | with_reducible apply aN
  case he=>exact dp rfl rfl
  case hR=>
   intro w' au
   exact aB v trivial (by exact .cons .here .nil) au rfl
theorem D5 {lv:Value} {l:List De} {g:De→ByteArray} {f:FuncId} {first cap:List Value} [bS Tryz.prog f] {w:World} (h:Rd w lv 3 (vi l)) (hn:l.length≤1000000)
  (cn:∀ x∈l,∀ w',aG [] w w'→aj Tryz.prog f (first++[.agg x.cells.toArray]++cap) w' (.string (g x))) :
  bd Tryz.prog 143 [lv,.func (.func f) first.toArray cap.toArray] w [] (fun _:Value=>True) id (fun v=>[row 9 1 v l.length (aO (l.map g))]):=by
 obtain ⟨a,cp,b,o,rfl,db,bT,ha,hc⟩:=h
 rw [bU] at *
 unfold maxLen at bT
 refine aQ Tryz.func143 rfl rfl ?_
 refine Jr<|Ja rfl<|Ji<|Ja rfl<|Jn<|Jq<|Jr<|Jv rfl<|JI rfl<|Jv rfl<|Jn<|J0 ?_
 refine aP 9 1 ?_
 refine aX (ι:=Nat×Value) (fun x=>x.1≤l.length) (fun x=>[(10,.int .i64 x.1),(9,.int .i64 l.length),(8,.slice a l.length cp),(5,x.2),(1,.func (.func f) first.toArray cap.toArray)]) (fun x=>[row 9 1 x.2 x.1 (aO ((l.take x.1).map g))]) (fun x=>l.length-x.1) ?_ ?_
 ·apply aJ (0,.slice none 0 0) (Zi _)
  case hs1=>exact cd
  case ht=>
   exact .cons .here .nil
 rintro ⟨k,v⟩ hk
 dsimp only at hk ⊢
 by_cases aL:k<l.length
 ·have cE:=ha (gl aL)
  have aC:=(hc k _ (eX aL)).2
  have iF:=cn _ (Zj aL)
  have H4:aO ((l.take (k+1)).map g)=aO ((l.take k).map g)++[.string (g l[k])]:=by
   rw [List.take_succ_eq_append_getElem aL,List.map_append,eO];rfl
  generalize g l[k]=gk at iF H4
  unfold De.cells at aC iF
  (refine Jr<|JA rfl<|Jn<|Jq<|Jd rfl fun ar=>Jk<|Jq<|J0<|Jr<|ab (fH cE ar) rfl ?_;refine ab (iv (eF.base aC rfl)) rfl ?_;refine Jz rfl rfl fun _ _=>aq (.of rfl) (.of rfl) .here rfl rfl (fh rfl rfl rfl) (bC rfl) an ?_;refine Jn<|Jg<|Jv rfl<|Jv rfl<|ab (cz .here) rfl ?_)
  refine ai bI rfl (fun w' au=>(iF w' (Mem.keeps au))) ?_
  refine bb (aA (.cons (.of rfl) .nil) rfl rfl rfl rfl) rfl (fun _ _=>?_)
  refine bB (.of rfl) (.of rfl) bN .here an (by rfl) (ed rfl) (by rfl) (by rfl) (by rfl) eH (by rfl) ?_
  intro v'
  refine Ja rfl<|Jx<|Jj<|Jt<|Jg<|JB rfl (by omega)<|Jv rfl<|Jn ?_
  apply aK (k+1,v') (by show k+1≤l.length;omega) (by show l.length-(k+1)<l.length-k;omega)
  case hs1=>exact cd
  case ht=>
   show bo _ [row 9 1 v' (k+1) (aO ((l.take (k+1)).map g))] _
   rw [H4]
   exact .cons .here .nil
 ·obtain rfl:k=l.length:=by omega
  rw [List.take_length]
  refine Jr<|JA rfl<|Jn<|Jq<|Jc rfl fun ar=>Jp<|Jl<|Jo<|Jt<|Jr<|Jv rfl<|Ja rfl<|Jn<|Je ?_
  first | with_reducible apply aM | with_reducible apply aN
  case he=>exact dp rfl rfl
  case hR=>
   intro w' au
   exact aB v trivial (by exact .cons .here .nil) au rfl
theorem LY {lv:Value} {l:List Ti} {g:Ti→ByteArray} {f:FuncId} {first cap:List Value} [bS Tryz.prog f] {w:World} (h:Rd w lv 3 (ui l)) (hn:l.length≤1000000)
  (cn:∀ x∈l,∀ w',aG [] w w'→aj Tryz.prog f (first++[.agg x.cells.toArray]++cap) w' (.string (g x))) :
  bd Tryz.prog 178 [lv,.func (.func f) first.toArray cap.toArray] w [] (fun _:Value=>True) id (fun v=>[row 9 1 v l.length (aO (l.map g))]):=by
 obtain ⟨a,cp,b,o,rfl,db,bT,ha,hc⟩:=h
 rw [bJ] at *
 unfold maxLen at bT
 refine aQ Tryz.func178 rfl rfl ?_
 refine Jr<|Ja rfl<|Ji<|Ja rfl<|Jn<|Jq<|Jr<|Jv rfl<|JI rfl<|Jv rfl<|Jn<|J0 ?_
 refine aP 9 1 ?_
 refine aX (ι:=Nat×Value) (fun x=>x.1≤l.length) (fun x=>[(10,.int .i64 x.1),(9,.int .i64 l.length),(8,.slice a l.length cp),(5,x.2),(1,.func (.func f) first.toArray cap.toArray)]) (fun x=>[row 9 1 x.2 x.1 (aO ((l.take x.1).map g))]) (fun x=>l.length-x.1) ?_ ?_
 ·apply aJ (0,.slice none 0 0) (Zi _)
  case hs1=>exact cd
  case ht=>
   exact .cons .here .nil
 rintro ⟨k,v⟩ hk
 dsimp only at hk ⊢
 by_cases aL:k<l.length
 ·have cE:=ha (eT aL)
  have aC:=(hc k _ (dQ aL)).2
  have iF:=cn _ (Zj aL)
  have H4:aO ((l.take (k+1)).map g)=aO ((l.take k).map g)++[.string (g l[k])]:=by
   rw [List.take_succ_eq_append_getElem aL,List.map_append,eO];rfl
  generalize g l[k]=gk at iF H4
  unfold Ti.cells at aC iF
  (refine Jr<|JA rfl<|Jn<|Jq<|Jd rfl fun ar=>Jk<|Jq<|J0<|Jr<|ab (fH cE ar) rfl ?_;refine ab (iv (eF.base aC rfl)) rfl ?_;refine Jz rfl rfl fun _ _=>aq (.of rfl) (.of rfl) .here rfl rfl (fh rfl rfl rfl) (bC rfl) an ?_;refine Jn<|Jg<|Jv rfl<|Jv rfl<|ab (cz .here) rfl ?_)
  refine ai bI rfl (fun w' au=>(iF w' (Mem.keeps au))) ?_
  refine bb (aA (.cons (.of rfl) .nil) rfl rfl rfl rfl) rfl (fun _ _=>?_)
  refine bB (.of rfl) (.of rfl) bN .here an (by rfl) (ed rfl) (by rfl) (by rfl) (by rfl) eH (by rfl) ?_
  intro v'
  refine Ja rfl<|Jx<|Jj<|Jt<|Jg<|JB rfl (by omega)<|Jv rfl<|Jn ?_
  apply aK (k+1,v') (by show k+1≤l.length;omega) (by show l.length-(k+1)<l.length-k;omega)
  case hs1=>exact cd
  case ht=>
   show bo _ [row 9 1 v' (k+1) (aO ((l.take (k+1)).map g))] _
   rw [H4]
   exact .cons .here .nil
 ·obtain rfl:k=l.length:=by omega
  rw [List.take_length]
  refine Jr<|JA rfl<|Jn<|Jq<|Jc rfl fun ar=>Jp<|Jl<|Jo<|Jt<|Jr<|Jv rfl<|Ja rfl<|Jn<|Je ?_
  first | with_reducible apply aM | with_reducible apply aN
  case he=>exact dp rfl rfl
  case hR=>
   intro w' au
   exact aB v trivial (by exact .cons .here .nil) au rfl
theorem MJ (n:Nat) (hn:n≤1000) (w:World):bd Tryz.prog 235 [.slice none 0 0,.int .i64 (n:Int)] w [] (fun _:Value=>True) id (fun v=>[row 9 1 v 0 []]):=by
 refine aQ Tryz.func235 rfl rfl ?_
 (refine Jr<|Ja rfl<|Jn<|Jq<|Jr<|Jv rfl<|JA rfl<|Jn<|Jc rfl fun ar=>Jk<|Jq<|Jr<|Jv rfl<|Jv rfl<|ab (qB (.of rfl)) rfl ?_;refine Jv rfl<|JI rfl<|JS rfl (by omega)<|JS rfl (by omega)<|Ja rfl<|Ji<|Jv rfl<|JE rfl<|Jn<|gm rfl (fun ar=>?_) fun ar=>?_;refine Jg<|Jv rfl<|Jv rfl<|ab (qB (.of rfl)) rfl ?_;refine ab (gP (.of rfl) (.of rfl) (by omega) (by omega)) rfl ?_;refine Jv rfl ?_;rotate_left;refine Jk<|Jr<|Jv rfl<|Ja rfl<|Jn<|Je ?_;rotate_right)
 ·rw [show (n:Int)-(((0:Nat):Int)-((0:Nat):Int))=(n:Int) by omega]
  with_reducible apply Cd
  case hx=>exact Is.of rfl
  case hy=>exact Is.of rfl
  case h0=>omega
  case hz=>exact rfl
  case hsz=>exact rfl
  case hb0=>exact rfl
  case hb=>omega
  case hd=>rfl
  intro v'
  refine c7 (E:=9) (sz:=1) (by exact .here) (by omega) fun g gL cur e od Fy CS Bc=>?_
  subst e
  (refine Jv rfl<|JI rfl<|ab (gP (.of rfl) (.of rfl) (by omega) (by omega)) rfl ?_;refine Ja rfl<|Ji<|Jv rfl<|Ja rfl<|Jn<|Je ?_)
  rw [show Go.sliced (some ⟨g,0,none⟩) 0 (((0:Nat):Int)).toNat gL 1=.slice (some ⟨g,0,none⟩) 0 gL from Aj g gL 1]
  skip
  generalize hA:_++cur=al at CS ⊢
  refine c6 (n:=0) (xs:=[]) (cur:=al) (cap:=gL) (g:=g) (E:=9) (sz:=1) (by rw [Za];exact .here) (Zi _) Fy CS rfl ?_
  first | with_reducible apply aM | with_reducible apply aN
  case he=>exact dp rfl rfl
  case hR=>
   intro w' au
   exact aB (.slice (some ⟨g,0,none⟩) 0 gL) trivial (by exact .cons .here .nil) au rfl
 ·refine aP 9 1 ?_
  first | with_reducible apply aM | with_reducible apply aN
  case he=>exact dp rfl rfl
  case hR=>
   intro w' au
   exact aB (.slice none 0 0) trivial (by exact .cons .here .nil) au rfl
theorem Ld (a b:List ByteArray):iT (a++b)=iT a++iT b:=by simp [iT]
theorem ru {α:Type} {l:List (List α)} {k:Nat} (h:k<l.length):(l.take (k+1)).flatten=(l.take k).flatten++l[k]:=by
 rw [List.take_add_one,Zc h,List.flatten_append];simp
theorem Et {α:Type} (l:List (List α)) (k:Nat):(l.take k).flatten.length≤l.flatten.length:=by
 conv=>rhs;rw [← List.take_append_drop k l]
 rw [List.flatten_append,Zg];omega
theorem Ak {α:Type} {l:List α} {k:Nat} (h:k<l.length):(l.map fun v=>[v])[k]? = some [l[k]]:=by simp [h]
theorem FO {lv:Value} {vs:List Value} {ess:List (List ByteArray)} {w:World} (h:Rd w lv 1 (vs.map fun v=>[v])) (hl:vs.length=ess.length) (hr:∀ (i:Nat) (v:Value) (es:List ByteArray),vs[i]? = some v→ess[i]? = some es→Rd w v 1 (iT es)) (hn:ess.flatten.length≤1000) :
  bd Tryz.prog 142 [lv] w [] (fun _:Value=>True) id (fun v=>[row 9 1 v ess.flatten.length (iT ess.flatten).flatten]):=by
 obtain ⟨a,cp,b,o,rfl,db,bT,ha,hc⟩:=h
 rw [Zd] at *
 unfold maxLen at bT
 refine aQ Tryz.func142 rfl rfl ?_
 refine Jr<|Ja rfl<|Ji<|Ja rfl<|Jn<|Jq<|Jr<|Jv rfl<|JI rfl<|Jv rfl<|Jn<|J0 ?_
 refine aX (ι:=Nat) (fun k=>k≤vs.length) (fun k=>[(11,.int .i64 k),(10,.int .i64 vs.length),(9,.slice a vs.length cp),(0,.slice a vs.length cp),(3,.int .i64 (((ess.take k).flatten.length:Nat):Int))]) (fun _=>[]) (fun k=>vs.length-k) ?_ ?_
 ·apply aJ (0:Nat) (show (0:Nat)≤vs.length from Zi _)
  case hs1=>exact cd
  case ht=>(try simp only [Ze,Zf,Za]);exact .nil
 intro k hk
 by_cases aL:k<vs.length
 ·have fv:k<ess.length:=by omega
  have cE:=ha (by intro e;have:=congrArg List.length e;simp at this;subst this;simp at aL)
  have SZ:=hr k _ _ (Zc aL) (Zc fv)
  obtain ⟨a1,dJ,b1,o1,e1,_⟩:=SZ
  rw [cg] at e1
  have c0:w.cell? ⟨b,o+k*1,none⟩=some (.slice a1 ess[k].length dJ):=by rw [← e1];exact (hc k _ (Ak aL)).2 0 _ rfl
  have sG:=Et ess (k+1)
  have hs:((ess.take (k+1)).flatten.length:Int)=(ess.take k).flatten.length+ess[k].length:=by rw [ru fv,Zg];omega
  (refine Jr<|JA rfl<|Jn<|Jq<|Jd rfl fun ar=>Jk<|Jq<|J0<|Jr<|ab (fH cE ar) rfl ?_;refine ab (ag (.of rfl) (At.base c0 rfl)) rfl ?_;refine Ja rfl<|Ji<|Jv rfl<|Jv rfl<|JI rfl<|JB rfl (by omega)<|Ja rfl<|Ji<|Jv rfl<|JA rfl<|Jn<|Jc rfl fun ar=>Jw<|Jj<|Jt<|Jg<|JB rfl (by omega)<|Jv rfl<|Jn ?_)
  apply aK (k+1) (show k+1≤vs.length by omega) (show vs.length-(k+1)<vs.length-k by omega)
  case hs1=>
   rw [hs]
   exact .cons rfl (.cons rfl (.cons rfl (.cons rfl (.cons rfl .nil))))
  case ht=>exact .nil
 ·obtain rfl:k=vs.length:=by omega
  rw [show ess.take vs.length=ess by rw [hl,List.take_length]]
  refine Jr<|JA rfl<|Jn<|Jq<|Jc rfl fun ar=>Jp<|Jl<|Jo<|Jt<|Jr<|Jv rfl ?_
  refine JN aZ rfl (fun w1 aS=>MJ _ hn _) ?_
  intro v0 _
  dsimp only [id_eq,Zb,Za]
  refine Ja rfl<|Jn<|Jq<|Jr<|Jv rfl<|JI rfl<|Jv rfl<|Jn<|J0 ?_
  refine aX (ι:=Nat×Value) (fun x=>x.1≤vs.length) (fun x=>[(27,.int .i64 x.1),(26,.int .i64 vs.length),(25,.slice a vs.length cp),(6,x.2)]) (fun x=>[row 9 1 x.2 (ess.take x.1).flatten.length (iT (ess.take x.1).flatten).flatten]) (fun x=>vs.length-x.1) ?_ ?_
  ·apply aJ (0,v0) (Zi _)
   case hs1=>exact cd
   case ht=>
    exact .cons .here .nil
  rintro ⟨k,v⟩ hk
  dsimp only at hk ⊢
  by_cases aL:k<vs.length
  ·have fv:k<ess.length:=by omega
   have cE:=ha (by intro e;have:=congrArg List.length e;simp at this;subst this;simp at aL)
   have SZ:=hr k _ _ (Zc aL) (Zc fv)
   have VX:=SZ
   obtain ⟨a1,dJ,b1,o1,e1,_⟩:=VX
   rw [cg] at e1
   rw [e1] at SZ
   have c0:w.cell? ⟨b,o+k*1,none⟩=some (.slice a1 ess[k].length dJ):=by rw [← e1];exact (hc k _ (Ak aL)).2 0 _ rfl
   have sG:=Et ess (k+1)
   have hs:(ess.take (k+1)).flatten.length=(ess.take k).flatten.length+ess[k].length:=by rw [ru fv,Zg]
   (refine Jr<|JA rfl<|Jn<|Jq<|Jd rfl fun ar=>Jk<|Jq<|J0<|Jr<|ab (fH cE ar) rfl ?_;refine ab (ag (.of rfl) (At.base c0 rfl)) rfl ?_;refine Ja rfl<|Jn<|Jg<|Jv rfl<|Jv rfl ?_)
   with_reducible apply fX
   case hx=>exact Is.of rfl
   case hy=>exact Is.of rfl
   case ht=>exact .here
   case hsrc=>exact fun w' au=>SZ.keeps au.keeps
   case h1=>exact yp _
   case hz=>exact rfl
   case hsz=>exact rfl
   case hb0=>exact rfl
   case hb=>rw [cg];omega
   case hd=>rfl
   intro v'
   rw [cg]
   refine Ja rfl<|Jx<|Jj<|Jt<|Jg<|JB rfl (by omega)<|Jv rfl<|Jn ?_
   apply aK (k+1,v') (show k+1≤vs.length by omega) (show vs.length-(k+1)<vs.length-k by omega)
   case hs1=>exact cd
   case ht=>
    show bo _ [row 9 1 v' (ess.take (k+1)).flatten.length (iT (ess.take (k+1)).flatten).flatten] _
    rw [hs,ru fv,Ld,List.flatten_append]
    exact .cons .here .nil
  ·obtain rfl:k=vs.length:=by omega
   have rn:vs.length=ess.length:=hl
   rw [rn,List.take_length]
   refine Jr<|JA rfl<|Jn<|Jq<|Jc rfl fun ar=>Jp<|Jl<|Jo<|Jt<|Jr<|Jv rfl<|Ja rfl<|Jn<|Je ?_
   first | with_reducible apply aM | with_reducible apply aN
   case he=>exact dp rfl rfl
   case hR=>
    intro w' au
    exact aB v trivial (by exact .cons .here .nil) au rfl
theorem Rd.one {w:World} {v:Value} {sz:Nat} {xs:List (List Value)} (h:Rd w v sz xs):v.oneCell'=true:=by
 obtain ⟨a,cap,b,o,rfl,_⟩:=h;rfl
def vX {α:Type} (bf:List ByteArray) (nm:α→ByteArray) (ck:α→Int) (l:List α) (k:Nat):Int:=(l[k]?.map fun x=>aW [bO (!jO (nm x)) 8,bO (iK (bf++(l.take k).map nm) (nm x)) 9,ck x]).getD 0
def eV {α:Type} (pI:Int) (bf:List ByteArray) (nm:α→ByteArray) (ck:α→Int) (l:List α):Int:=if pI<(l.length:Int) then 5 else iL (vX bf nm ck l) l.length
theorem nN {α:Type} {bf:List ByteArray} {nm:α→ByteArray} {ck:α→Int} {l:List α} {k:Nat} (h:k<l.length):vX bf nm ck l k=aW [bO (!jO (nm l[k])) 8,bO (iK (bf++(l.take k).map nm) (nm l[k])) 9,ck l[k]]:=by
 unfold vX;rw [Zc h];rfl
def ep (r:Ro) (m:Int):Int:=bO (decide (m<0)||decide (r.ma≤m)) 10
theorem Ei {r:Ro} {s d t p:Value} (m:Int) {w w1:World} (h:RR w1 r s d t p):aj Tryz.prog 136 [RA r s d t p,.int .i64 m] w (.int .i64 (ep r m)):=by
 have h1:=Rd.one h.sr
 have h2:=Rd.one h.de
 have h3:=Rd.one h.ti
 have h4:=Rd.one h.po
 unfold RA
 refine ah Tryz.func136 rfl rfl ?_
 (refine Jr<|Jy rfl rfl fun _ _=>Ja rfl<|Ji<|Jv rfl<|JA rfl<|Jv rfl<|je rfl rfl rfl rfl ?_;refine aF rfl rfl inferInstance (fun hg bj=>(ao (.of rfl) ae)) rfl ?_;refine aF rfl rfl inferInstance (fun hg bj=>(ag (.bE hg rfl) (At.lit .here rfl))) rfl ?_;refine aF rfl rfl inferInstance (fun hg bj=>(yB (.bE hg rfl) (.bE hg rfl))) rfl ?_;refine ab (bR (.of rfl) rfl) rfl ?_;refine ai aZ rfl (fun w' au=>(dO _ 10 w')) ?_;refine Ja rfl<|Jn<|Je<|JT ?_)
 rfl
theorem HB (x:Sr) (w:World):aj Tryz.prog 139 [.agg x.cells.toArray] w (.string x.nm):=by
 unfold Sr.cells
 refine ah Tryz.func139 rfl rfl ?_
 (refine Jr<|Jy rfl rfl fun _ _=>Ja rfl<|Ji<|bF rfl rfl ae ?_;refine JL rfl .here rfl<|Ja rfl<|Jn<|Je<|JT ?_)
 rfl
theorem CH (x:De) (w:World):aj Tryz.prog 124 [.agg x.cells.toArray] w (.string x.nm):=by
 unfold De.cells
 refine ah Tryz.func124 rfl rfl ?_
 (refine Jr<|Jy rfl rfl fun _ _=>Ja rfl<|Ji<|bF rfl rfl ae ?_;refine JL rfl .here rfl<|Ja rfl<|Jn<|Je<|JT ?_)
 rfl
theorem HA (x:Ti) (w:World):aj Tryz.prog 119 [.agg x.cells.toArray] w (.string x.nm):=by
 unfold Ti.cells
 refine ah Tryz.func119 rfl rfl ?_
 (refine Jr<|Jy rfl rfl fun _ _=>Ja rfl<|Ji<|bF rfl rfl ae ?_;refine JL rfl .here rfl<|Ja rfl<|Jn<|Je<|JT ?_)
 rfl
set_option maxHeartbeats 1000000 in
theorem BA {lv bv:Value} {l:List Sr} {bf:List ByteArray} (pI:Int) {ck:Sr→Int} {f1 f2:FuncId} {first2 cap:List Value} [bS Tryz.prog f1] [bS Tryz.prog f2] {w:World} (h:Rd w lv 2 (vF l)) (hb:Rd w bv 1 (iT bf)) (hn:bf.length+l.length≤1000)
  (u7:∀ x∈l,∀ w',aG [] w w'→aj Tryz.prog f1 [.agg x.cells.toArray] w' (.string x.nm)) (u6:∀ x∈l,∀ w',aG [] w w'→aj Tryz.prog f2 (first2++[.agg x.cells.toArray]++cap) w' (.int .i64 (ck x))) :
  aj Tryz.prog 138 [lv,.int .i64 pI,bv,.func (.func f1) #[] #[],.func (.func f2) first2.toArray cap.toArray] w (.int .i64 (eV pI bf Sr.nm ck l)):=by
 obtain ⟨a,cp,b,o,rfl,db,bT,ha,hc⟩:=h
 rw [cu] at *
 unfold maxLen at bT
 unfold eV
 refine ah Tryz.func138 rfl rfl ?_
 (refine Jr<|Ja rfl<|Jn<|Jq<|Jr<|Jv rfl<|JI rfl<|Jv rfl<|JE rfl<|Jn<|gm rfl (fun ar=>?_) fun ar=>?_;refine Jr<|Ja rfl<|Jn<|Ju<|JT ?_;rotate_left;refine Jk<|Jr<|Jv rfl ?_;rotate_right)
 ·rw [if_pos (by omega)]
 rw [if_neg (by omega)]
 refine JN bI rfl (fun w1 aS=>vn (hb.keeps aS.keeps) (by omega)) ?_
 intro v0 _
 dsimp only [id_eq,Zb,Za]
 refine Ja rfl<|Jn<|Jq<|Jr<|Jv rfl<|JI rfl<|Jv rfl<|Jn<|J0 ?_
 refine aX (ι:=Nat×Value) (fun x=>x.1≤l.length∧∀ i,i<x.1→vX bf Sr.nm ck l i=0) (fun x=>[(24,.int .i64 x.1),(23,.int .i64 l.length),(22,.slice a l.length cp),(11,x.2),(3,.func (.func f1) #[] #[]),(4,.func (.func f2) first2.toArray cap.toArray)]) (fun x=>[row 9 1 x.2 (bf++(l.take x.1).map Sr.nm).length (aO (bf++(l.take x.1).map Sr.nm))]) (fun x=>l.length-x.1) ?_ ?_
 ·apply aJ (0,v0) ⟨Zi _,fun i hi=>absurd hi (Nat.not_lt_zero _)⟩
  case hs1=>exact cd
  case ht=>
   rw [show bf++(l.take 0).map Sr.nm=bf by simp]
   exact .cons .here .nil
 rintro ⟨k,v⟩ ⟨hk,hf⟩
 dsimp only at hk hf ⊢
 by_cases aL:k<l.length
 ·have cE:=ha (gB aL)
  have aC:=(hc k _ (fm aL)).2
  have BZ:=u7 _ (Zj aL)
  have iQ:=u6 _ (Zj aL)
  have hE:=nN (bf:=bf) (nm:=Sr.nm) (ck:=ck) aL
  have htk:bf++(l.take (k+1)).map Sr.nm=(bf++(l.take k).map Sr.nm)++[(l[k]).nm]:=by
   rw [List.take_succ_eq_append_getElem aL,List.map_append,Zh];rfl
  have hlen:(bf++(l.take k).map Sr.nm).length=bf.length+k:=by
   rw [Zg,Zd,List.length_take];omega
  have Iu:∀ (w':World),Rd w' v 1 (iT (bf++(l.take k).map Sr.nm))→aj Tryz.prog 179 [v,.string (l[k]).nm] w' (.bool (iK (bf++(l.take k).map Sr.nm) (l[k]).nm)):=fun w' hr=>oy _ hr
  generalize hB:bf++(l.take k).map Sr.nm=B at hE htk hlen Iu ⊢
  have tL:B.length=B.length:=rfl
  generalize l[k]=x at aC BZ iQ hE htk Iu
  have a7:aO (B++[x.nm])=aO B++[.string x.nm]:=by rw [eO];rfl
  have H6:(B++[x.nm]).length=B.length+1:=by simp
  unfold Sr.cells at aC BZ iQ
  (refine Jr<|JA rfl<|Jn<|Jq<|Jd rfl fun ar=>Jk<|Jq<|J0<|Jr<|ab (fH cE ar) rfl ?_;refine ab (iv (eF.base aC rfl)) rfl ?_;refine Jz rfl rfl fun _ _=>aq (.of rfl) (.of rfl) .here rfl rfl (gF rfl rfl) (bC rfl) an ?_;refine Ji<|Jv rfl<|ab (cz .here) rfl ?_;refine ai bI rfl (fun w' au=>(BZ w' (Mem.keeps au))) ?_;refine Ja rfl<|Jn<|Jq<|Jq ?_)
  with_reducible refine cC 12 (by kernel_rfl) ?_
  (refine ak kG rfl ?_;refine aT bI rfl (fun w' au=>(CI _ w')) ?_;refine ak (eU (.of rfl)) rfl ?_;refine aT aZ rfl (fun w' au=>(dO _ 8 w')) ?_;refine ak kG rfl ?_;refine ak kG rfl ?_;refine aT aZ rfl (fun w' au=>(Iu w' (ez au (.there .here) tL))) ?_;refine aT aZ rfl (fun w' au=>(dO _ 9 w')) ?_;refine ak kG rfl ?_;refine ak (cz .here) rfl ?_;refine aT bI rfl (fun w' au=>(iQ w' (Mem.keeps au))) ?_;refine dX (aA (.cons (.of rfl) (.cons (.of rfl) (.cons (.of rfl) .nil))) rfl rfl rfl rfl) rfl rfl ?_)
  with_reducible refine df rfl fun bq mg=>?_
  (refine ai bI rfl (fun w' au=>(dI (Mem.dh au .here rfl rfl) (bP.cons (bP.cons (bP.cons bP.nil))))) ?_;refine Ja rfl<|Ji<|Jv rfl<|JD rfl<|Jn<|gm rfl (fun ar=>?_) fun ar=>?_;refine Jr<|Jv rfl<|Ja rfl<|Jn<|Ju<|Jm<|Jh<|Jh<|Jm<|Jh<|JT ?_;rotate_left;refine Jk<|Jg<|Jv rfl<|Jv rfl<|bb (aA (.cons (.of rfl) .nil) rfl rfl rfl rfl) rfl fun _ _=>?_;rotate_right)
  ·rw [← hE] at ar ⊢
   rw [eP hf aL ar]
  have hz:vX bf Sr.nm ck l k=0:=by rw [hE];exact Decidable.not_not.1 ar
  refine bB (.of rfl) (.of rfl) cX .here an (by rfl) (ed rfl) (by rfl) (by rfl) (by rfl) eH (by rfl) ?_
  intro v'
  refine Ja rfl<|Jx<|Jj<|Jt<|Jg<|JB rfl (by omega)<|Jv rfl<|Jn ?_
  apply aK (k+1,v') ⟨show k+1≤l.length by omega,fun i hi=>by
   by_cases e:i=k
   ·rw [e];exact hz
   ·exact hf i (by omega)⟩ (show l.length-(k+1)<l.length-k by omega)
  case hs1=>exact cd
  case ht=>
   show bo _ [row 9 1 v' (bf++(l.take (k+1)).map Sr.nm).length (aO (bf++(l.take (k+1)).map Sr.nm))] _
   rw [htk,a7,H6]
   exact .cons .here .nil
 ·obtain rfl:k=l.length:=by omega
  refine Jr<|JA rfl<|Jn<|Jq<|Jc rfl fun ar=>Jp<|Jl<|Jo<|Jt<|Jr<|Ja rfl<|Jn<|Je<|JT ?_
  rw [dN.2 hf]
set_option maxHeartbeats 1000000 in
theorem BB {lv bv:Value} {l:List De} {bf:List ByteArray} (pI:Int) {ck:De→Int} {f1 f2:FuncId} {first2 cap:List Value} [bS Tryz.prog f1] [bS Tryz.prog f2] {w:World} (h:Rd w lv 3 (vi l)) (hb:Rd w bv 1 (iT bf)) (hn:bf.length+l.length≤1000)
  (u7:∀ x∈l,∀ w',aG [] w w'→aj Tryz.prog f1 [.agg x.cells.toArray] w' (.string x.nm)) (u6:∀ x∈l,∀ w',aG [] w w'→aj Tryz.prog f2 (first2++[.agg x.cells.toArray]++cap) w' (.int .i64 (ck x))) :
  aj Tryz.prog 141 [lv,.int .i64 pI,bv,.func (.func f1) #[] #[],.func (.func f2) first2.toArray cap.toArray] w (.int .i64 (eV pI bf De.nm ck l)):=by
 obtain ⟨a,cp,b,o,rfl,db,bT,ha,hc⟩:=h
 rw [bU] at *
 unfold maxLen at bT
 unfold eV
 refine ah Tryz.func141 rfl rfl ?_
 (refine Jr<|Ja rfl<|Jn<|Jq<|Jr<|Jv rfl<|JI rfl<|Jv rfl<|JE rfl<|Jn<|gm rfl (fun ar=>?_) fun ar=>?_;refine Jr<|Ja rfl<|Jn<|Ju<|JT ?_;rotate_left;refine Jk<|Jr<|Jv rfl ?_;rotate_right)
 ·rw [if_pos (by omega)]
 rw [if_neg (by omega)]
 refine JN bI rfl (fun w1 aS=>vn (hb.keeps aS.keeps) (by omega)) ?_
 intro v0 _
 dsimp only [id_eq,Zb,Za]
 refine Ja rfl<|Jn<|Jq<|Jr<|Jv rfl<|JI rfl<|Jv rfl<|Jn<|J0 ?_
 refine aX (ι:=Nat×Value) (fun x=>x.1≤l.length∧∀ i,i<x.1→vX bf De.nm ck l i=0) (fun x=>[(24,.int .i64 x.1),(23,.int .i64 l.length),(22,.slice a l.length cp),(11,x.2),(3,.func (.func f1) #[] #[]),(4,.func (.func f2) first2.toArray cap.toArray)]) (fun x=>[row 9 1 x.2 (bf++(l.take x.1).map De.nm).length (aO (bf++(l.take x.1).map De.nm))]) (fun x=>l.length-x.1) ?_ ?_
 ·apply aJ (0,v0) ⟨Zi _,fun i hi=>absurd hi (Nat.not_lt_zero _)⟩
  case hs1=>exact cd
  case ht=>
   rw [show bf++(l.take 0).map De.nm=bf by simp]
   exact .cons .here .nil
 rintro ⟨k,v⟩ ⟨hk,hf⟩
 dsimp only at hk hf ⊢
 by_cases aL:k<l.length
 ·have cE:=ha (gl aL)
  have aC:=(hc k _ (eX aL)).2
  have BZ:=u7 _ (Zj aL)
  have iQ:=u6 _ (Zj aL)
  have hE:=nN (bf:=bf) (nm:=De.nm) (ck:=ck) aL
  have htk:bf++(l.take (k+1)).map De.nm=(bf++(l.take k).map De.nm)++[(l[k]).nm]:=by
   rw [List.take_succ_eq_append_getElem aL,List.map_append,Zh];rfl
  have hlen:(bf++(l.take k).map De.nm).length=bf.length+k:=by
   rw [Zg,Zd,List.length_take];omega
  have Iu:∀ (w':World),Rd w' v 1 (iT (bf++(l.take k).map De.nm))→aj Tryz.prog 179 [v,.string (l[k]).nm] w' (.bool (iK (bf++(l.take k).map De.nm) (l[k]).nm)):=fun w' hr=>oy _ hr
  generalize hB:bf++(l.take k).map De.nm=B at hE htk hlen Iu ⊢
  have tL:B.length=B.length:=rfl
  generalize l[k]=x at aC BZ iQ hE htk Iu
  have a7:aO (B++[x.nm])=aO B++[.string x.nm]:=by rw [eO];rfl
  have H6:(B++[x.nm]).length=B.length+1:=by simp
  unfold De.cells at aC BZ iQ
  (refine Jr<|JA rfl<|Jn<|Jq<|Jd rfl fun ar=>Jk<|Jq<|J0<|Jr<|ab (fH cE ar) rfl ?_;refine ab (iv (eF.base aC rfl)) rfl ?_;refine Jz rfl rfl fun _ _=>aq (.of rfl) (.of rfl) .here rfl rfl (fh rfl rfl rfl) (bC rfl) an ?_;refine Ji<|Jv rfl<|ab (cz .here) rfl ?_;refine ai bI rfl (fun w' au=>(BZ w' (Mem.keeps au))) ?_;refine Ja rfl<|Jn<|Jq<|Jq ?_)
  with_reducible refine cC 12 (by kernel_rfl) ?_
  (refine ak kG rfl ?_;refine aT bI rfl (fun w' au=>(CI _ w')) ?_;refine ak (eU (.of rfl)) rfl ?_;refine aT aZ rfl (fun w' au=>(dO _ 8 w')) ?_;refine ak kG rfl ?_;refine ak kG rfl ?_;refine aT aZ rfl (fun w' au=>(Iu w' (ez au (.there .here) tL))) ?_;refine aT aZ rfl (fun w' au=>(dO _ 9 w')) ?_;refine ak kG rfl ?_;refine ak (cz .here) rfl ?_;refine aT bI rfl (fun w' au=>(iQ w' (Mem.keeps au))) ?_;refine dX (aA (.cons (.of rfl) (.cons (.of rfl) (.cons (.of rfl) .nil))) rfl rfl rfl rfl) rfl rfl ?_)
  with_reducible refine df rfl fun bq mg=>?_
  (refine ai bI rfl (fun w' au=>(dI (Mem.dh au .here rfl rfl) (bP.cons (bP.cons (bP.cons bP.nil))))) ?_;refine Ja rfl<|Ji<|Jv rfl<|JD rfl<|Jn<|gm rfl (fun ar=>?_) fun ar=>?_;refine Jr<|Jv rfl<|Ja rfl<|Jn<|Ju<|Jm<|Jh<|Jh<|Jm<|Jh<|JT ?_;rotate_left;refine Jk<|Jg<|Jv rfl<|Jv rfl<|bb (aA (.cons (.of rfl) .nil) rfl rfl rfl rfl) rfl fun _ _=>?_;rotate_right)
  ·rw [← hE] at ar ⊢
   rw [eP hf aL ar]
  have hz:vX bf De.nm ck l k=0:=by rw [hE];exact Decidable.not_not.1 ar
  refine bB (.of rfl) (.of rfl) cX .here an (by rfl) (ed rfl) (by rfl) (by rfl) (by rfl) eH (by rfl) ?_
  intro v'
  refine Ja rfl<|Jx<|Jj<|Jt<|Jg<|JB rfl (by omega)<|Jv rfl<|Jn ?_
  apply aK (k+1,v') ⟨show k+1≤l.length by omega,fun i hi=>by
   by_cases e:i=k
   ·rw [e];exact hz
   ·exact hf i (by omega)⟩ (show l.length-(k+1)<l.length-k by omega)
  case hs1=>exact cd
  case ht=>
   show bo _ [row 9 1 v' (bf++(l.take (k+1)).map De.nm).length (aO (bf++(l.take (k+1)).map De.nm))] _
   rw [htk,a7,H6]
   exact .cons .here .nil
 ·obtain rfl:k=l.length:=by omega
  refine Jr<|JA rfl<|Jn<|Jq<|Jc rfl fun ar=>Jp<|Jl<|Jo<|Jt<|Jr<|Ja rfl<|Jn<|Je<|JT ?_
  rw [dN.2 hf]
set_option maxHeartbeats 1000000 in
theorem Bz {lv bv:Value} {l:List Ti} {bf:List ByteArray} (pI:Int) {ck:Ti→Int} {f1 f2:FuncId} {first2 cap:List Value} [bS Tryz.prog f1] [bS Tryz.prog f2] {w:World} (h:Rd w lv 3 (ui l)) (hb:Rd w bv 1 (iT bf)) (hn:bf.length+l.length≤1000)
  (u7:∀ x∈l,∀ w',aG [] w w'→aj Tryz.prog f1 [.agg x.cells.toArray] w' (.string x.nm)) (u6:∀ x∈l,∀ w',aG [] w w'→aj Tryz.prog f2 (first2++[.agg x.cells.toArray]++cap) w' (.int .i64 (ck x))) :
  aj Tryz.prog 144 [lv,.int .i64 pI,bv,.func (.func f1) #[] #[],.func (.func f2) first2.toArray cap.toArray] w (.int .i64 (eV pI bf Ti.nm ck l)):=by
 obtain ⟨a,cp,b,o,rfl,db,bT,ha,hc⟩:=h
 rw [bJ] at *
 unfold maxLen at bT
 unfold eV
 refine ah Tryz.func144 rfl rfl ?_
 (refine Jr<|Ja rfl<|Jn<|Jq<|Jr<|Jv rfl<|JI rfl<|Jv rfl<|JE rfl<|Jn<|gm rfl (fun ar=>?_) fun ar=>?_;refine Jr<|Ja rfl<|Jn<|Ju<|JT ?_;rotate_left;refine Jk<|Jr<|Jv rfl ?_;rotate_right)
 ·rw [if_pos (by omega)]
 rw [if_neg (by omega)]
 refine JN bI rfl (fun w1 aS=>vn (hb.keeps aS.keeps) (by omega)) ?_
 intro v0 _
 dsimp only [id_eq,Zb,Za]
 refine Ja rfl<|Jn<|Jq<|Jr<|Jv rfl<|JI rfl<|Jv rfl<|Jn<|J0 ?_
 refine aX (ι:=Nat×Value) (fun x=>x.1≤l.length∧∀ i,i<x.1→vX bf Ti.nm ck l i=0) (fun x=>[(24,.int .i64 x.1),(23,.int .i64 l.length),(22,.slice a l.length cp),(11,x.2),(3,.func (.func f1) #[] #[]),(4,.func (.func f2) first2.toArray cap.toArray)]) (fun x=>[row 9 1 x.2 (bf++(l.take x.1).map Ti.nm).length (aO (bf++(l.take x.1).map Ti.nm))]) (fun x=>l.length-x.1) ?_ ?_
 ·apply aJ (0,v0) ⟨Zi _,fun i hi=>absurd hi (Nat.not_lt_zero _)⟩
  case hs1=>exact cd
  case ht=>
   rw [show bf++(l.take 0).map Ti.nm=bf by simp]
   exact .cons .here .nil
 rintro ⟨k,v⟩ ⟨hk,hf⟩
 dsimp only at hk hf ⊢
 by_cases aL:k<l.length
 ·have cE:=ha (eT aL)
  have aC:=(hc k _ (dQ aL)).2
  have BZ:=u7 _ (Zj aL)
  have iQ:=u6 _ (Zj aL)
  have hE:=nN (bf:=bf) (nm:=Ti.nm) (ck:=ck) aL
  have htk:bf++(l.take (k+1)).map Ti.nm=(bf++(l.take k).map Ti.nm)++[(l[k]).nm]:=by
   rw [List.take_succ_eq_append_getElem aL,List.map_append,Zh];rfl
  have hlen:(bf++(l.take k).map Ti.nm).length=bf.length+k:=by
   rw [Zg,Zd,List.length_take];omega
  have Iu:∀ (w':World),Rd w' v 1 (iT (bf++(l.take k).map Ti.nm))→aj Tryz.prog 179 [v,.string (l[k]).nm] w' (.bool (iK (bf++(l.take k).map Ti.nm) (l[k]).nm)):=fun w' hr=>oy _ hr
  generalize hB:bf++(l.take k).map Ti.nm=B at hE htk hlen Iu ⊢
  have tL:B.length=B.length:=rfl
  generalize l[k]=x at aC BZ iQ hE htk Iu
  have a7:aO (B++[x.nm])=aO B++[.string x.nm]:=by rw [eO];rfl
  have H6:(B++[x.nm]).length=B.length+1:=by simp
  unfold Ti.cells at aC BZ iQ
  (refine Jr<|JA rfl<|Jn<|Jq<|Jd rfl fun ar=>Jk<|Jq<|J0<|Jr<|ab (fH cE ar) rfl ?_;refine ab (iv (eF.base aC rfl)) rfl ?_;refine Jz rfl rfl fun _ _=>aq (.of rfl) (.of rfl) .here rfl rfl (fh rfl rfl rfl) (bC rfl) an ?_;refine Ji<|Jv rfl<|ab (cz .here) rfl ?_;refine ai bI rfl (fun w' au=>(BZ w' (Mem.keeps au))) ?_;refine Ja rfl<|Jn<|Jq<|Jq ?_)
  with_reducible refine cC 12 (by kernel_rfl) ?_
  (refine ak kG rfl ?_;refine aT bI rfl (fun w' au=>(CI _ w')) ?_;refine ak (eU (.of rfl)) rfl ?_;refine aT aZ rfl (fun w' au=>(dO _ 8 w')) ?_;refine ak kG rfl ?_;refine ak kG rfl ?_;refine aT aZ rfl (fun w' au=>(Iu w' (ez au (.there .here) tL))) ?_;refine aT aZ rfl (fun w' au=>(dO _ 9 w')) ?_;refine ak kG rfl ?_;refine ak (cz .here) rfl ?_;refine aT bI rfl (fun w' au=>(iQ w' (Mem.keeps au))) ?_;refine dX (aA (.cons (.of rfl) (.cons (.of rfl) (.cons (.of rfl) .nil))) rfl rfl rfl rfl) rfl rfl ?_)
  with_reducible refine df rfl fun bq mg=>?_
  (refine ai bI rfl (fun w' au=>(dI (Mem.dh au .here rfl rfl) (bP.cons (bP.cons (bP.cons bP.nil))))) ?_;refine Ja rfl<|Ji<|Jv rfl<|JD rfl<|Jn<|gm rfl (fun ar=>?_) fun ar=>?_;refine Jr<|Jv rfl<|Ja rfl<|Jn<|Ju<|Jm<|Jh<|Jh<|Jm<|Jh<|JT ?_;rotate_left;refine Jk<|Jg<|Jv rfl<|Jv rfl<|bb (aA (.cons (.of rfl) .nil) rfl rfl rfl rfl) rfl fun _ _=>?_;rotate_right)
  ·rw [← hE] at ar ⊢
   rw [eP hf aL ar]
  have hz:vX bf Ti.nm ck l k=0:=by rw [hE];exact Decidable.not_not.1 ar
  refine bB (.of rfl) (.of rfl) cX .here an (by rfl) (ed rfl) (by rfl) (by rfl) (by rfl) eH (by rfl) ?_
  intro v'
  refine Ja rfl<|Jx<|Jj<|Jt<|Jg<|JB rfl (by omega)<|Jv rfl<|Jn ?_
  apply aK (k+1,v') ⟨show k+1≤l.length by omega,fun i hi=>by
   by_cases e:i=k
   ·rw [e];exact hz
   ·exact hf i (by omega)⟩ (show l.length-(k+1)<l.length-k by omega)
  case hs1=>exact cd
  case ht=>
   show bo _ [row 9 1 v' (bf++(l.take (k+1)).map Ti.nm).length (aO (bf++(l.take (k+1)).map Ti.nm))] _
   rw [htk,a7,H6]
   exact .cons .here .nil
 ·obtain rfl:k=l.length:=by omega
  refine Jr<|JA rfl<|Jn<|Jq<|Jc rfl fun ar=>Jp<|Jl<|Jo<|Jt<|Jr<|Ja rfl<|Jn<|Je<|JT ?_
  rw [dN.2 hf]
end Go.Proofs.A1
namespace Go.SL
open Go
section
variable {P:Program} {c:Cx} {sl:aI} {hs:List a8} {dst:Option Tmp} {ty:TypeId} {pos:String} {af:Array Edge} {g:Option (Nat×Bool)}
variable {κ:Type} [DecidableEq κ] {kv:κ→Value} {kind:TypeDesc}
theorem Cq {t kt et:TypeId} {x y:Operand} {b:Nat} {k:κ} {l:List (κ×Value)} {z:Value} [hu:iH P t (.map kt et)] [FB:iH P kt kind] [hz:lG P et z] (hk:KeyLaw kind kv) (hx:Is sl x (.map (some b))) (hy:Is sl y (kv k)) (hl:Looks c hs b kv l) :
  cL P c sl hs ⟨dst,.lookup t x y true,ty,pos,af,g⟩ (.tuple #[(en k l).getD z,.bool (en k l).isSome]):=
 ⟨by
   simp,fun a w ha hm=>by
  obtain ⟨es,ck,h1,h2⟩:=hl w hm
  have hg:(getObj b).run P w=.ok (.map es ck) w:=by simp [getObj,Sem.run,h1]
  have we:=hk.flat P kt es.isEmpty w k FB.eq
  rcases findNow_spec hk k es.toList l 0 h2.eq with ⟨a1,a2⟩ | ⟨j,v,a1,a2,_⟩
  ·have:(Instr.findKey kt (kv k) es.toList).run P w=.ok none w:=by
    simp [Instr.findKey,aV FB.eq,a2]
   simp [execOp,hx a ha,hy a ha,Instr.lookup,aV hu.eq,hg,we,this,a1,hP (t:=et) (v:=z)]
  ·have:(Instr.findKey kt (kv k) es.toList).run P w=.ok (some (0+j,v)) w:=by
    simp [Instr.findKey,aV FB.eq,a2]
   simp [execOp,hx a ha,hy a ha,Instr.lookup,aV hu.eq,hg,we,this,a1]⟩
end
end Go.SL
namespace Go.Proofs.A1
open Go Go.SL
def lg (a b c:Int):Value:=.agg #[.int .i64 a,.int .i64 b,.int .i64 c]
abbrev PM:=List (ByteArray×Value)
def vH (l:List Sr):Nat→PM
 | 0=>[]
 | k + 1 => match l[k]? with
  | some x=>mm x.nm (lg (-1) (-1) x.mx) (vH l k)
  | none=>vH l k
def BW (m:PM) (l:List De):Nat→PM
 | 0=>m
 | k + 1 => match l[k]? with
  | some x=>mm x.nm (lg (k:Nat) x.mx (-1)) (BW m l k)
  | none=>BW m l k
def Kw (m:PM) (n:Nat) (l:List Ti):Nat→PM
 | 0=>m
 | k + 1 => match l[k]? with
  | some x=>mm x.nm (lg ((n:Int)+(k:Nat)) x.fr x.to) (Kw m n l k)
  | none=>Kw m n l k
def nO (r:Ro):PM:=Kw (BW (vH r.sr r.sr.length) r.de r.de.length) r.de.length r.ti r.ti.length
theorem Hk {l:List Sr} {k:Nat} (h:k<l.length):vH l (k+1)=mm (l[k]).nm (lg (-1) (-1) (l[k]).mx) (vH l k):=by rw [vH,Zc h]
theorem Hl {m:PM} {l:List De} {k:Nat} (h:k<l.length):BW m l (k+1)=mm (l[k]).nm (lg (k:Nat) (l[k]).mx (-1)) (BW m l k):=by rw [BW,Zc h]
theorem Hj {m:PM} {n:Nat} {l:List Ti} {k:Nat} (h:k<l.length):Kw m n l (k+1)=mm (l[k]).nm (lg ((n:Int)+(k:Nat)) (l[k]).fr (l[k]).to) (Kw m n l k):=by rw [Kw,Zc h]
set_option maxHeartbeats 1000000 in
theorem DU {r:Ro} {s d t p:Value} {w:World} (h:RR w r s d t p) (cG:r.de.length+r.ti.length≤1000000):bd Tryz.prog 186 [RA r s d t p] w [] (fun _:Nat=>True) (fun b=>.map (some b)) (fun b=>[mp (fun s:ByteArray=>Value.string s) b (nO r)]):=by
 have h1:=Rd.one h.sr
 have h2:=Rd.one h.de
 have h3:=Rd.one h.ti
 have h4:=Rd.one h.po
 have hs:=h.sr
 have hd:=h.de
 have wa:=h.ti
 obtain ⟨a1,dJ,Gd,F6,rfl,ng,gr,kF,jJ⟩:=hs
 obtain ⟨a2,cU,Gc,F5,rfl,jt,eA,iW,jq⟩:=hd
 obtain ⟨a3,dC,FY,Fg,rfl,lC,fD,qY,oe⟩:=wa
 rw [cu] at *
 rw [bU] at *
 rw [bJ] at *
 unfold maxLen at gr eA fD
 unfold RA
 refine aQ Tryz.func186 rfl rfl ?_
 refine Jr<|Jy rfl rfl fun _ _=>Ja rfl<|Ji ?_
 rename_i b1 sH
 refine z8 rfl ?_
 intro bm UY
 (refine Ja rfl<|Jn<|Jq<|Jr<|bF rfl rfl ae ?_;refine JL rfl (.there .here) rfl<|JI rfl<|Jv rfl<|Jn<|J0 ?_)
 refine aX (fun k:Nat=>k≤r.sr.length) (fun k=>[(14,.int .i64 k),(13,.int .i64 r.sr.length),(12,.slice a1 r.sr.length dJ),(3,.map (some bm)),(1,.pointer (some ⟨b1,0,none⟩))]) (fun k=>[mp (fun s:ByteArray=>Value.string s) bm (vH r.sr k),JP b1 r (.slice a1 r.sr.length dJ) (.slice a2 r.de.length cU) (.slice a3 r.ti.length dC) p]) (fun k=>r.sr.length-k) ?_ ?_
 ·apply aJ 0 (show 0≤r.sr.length from Zi _)
  case hs1=>exact cd
  case ht=>
   exact .cons .here (.cons .here .nil)
 intro k hk
 by_cases aL:k<r.sr.length
 ·have cE:=kF (gB aL)
  have aC:=(jJ k _ (fm aL)).2
  have ko:vH r.sr (k+1)=_:=Hk aL
  unfold Sr.cells at aC
  unfold lg at ko
  generalize r.sr[k]=x at aC ko
  (refine Jr<|JA rfl<|Jn<|Jq<|Jd rfl fun ar=>Jk<|Jq<|J0<|Jr<|ab (fH cE ar) rfl ?_;refine ab (iv (eF.base aC rfl)) rfl ?_;refine Jz rfl rfl fun _ _=>aq (.of rfl) (.of rfl) .here rfl rfl (gF rfl rfl) (bC rfl) an ?_;refine Jn<|Jg<|Jv rfl<|bF rfl rfl ae ?_;refine JL rfl .here rfl<|bF rfl rfl ae ?_;refine JL rfl .here rfl<|ab (aU (.cons (.of rfl) (.cons (.of rfl) (.cons (.of rfl) .nil))) an) rfl ?_)
  refine mz HN (.of rfl) (.of rfl) (.of rfl) (.there .here) ?_
  refine Jx<|Jj<|Jt<|Jg<|JB rfl (by omega)<|Jv rfl<|Jn ?_
  apply aK (k+1) (show k+1≤r.sr.length by omega) (show r.sr.length-(k+1)<r.sr.length-k by omega)
  case hs1=>exact cd
  case ht=>
   show bo _ [mp (fun s:ByteArray=>Value.string s) bm (vH r.sr (k+1)),JP b1 r (.slice a1 r.sr.length dJ) (.slice a2 r.de.length cU) (.slice a3 r.ti.length dC) p] _
   rw [ko]
   exact .cons .here (.cons (.there .here) .nil)
 obtain rfl:k=r.sr.length:=by omega
 (refine Jr<|JA rfl<|Jn<|Jq<|Jc rfl fun ar=>Jp<|Jl<|Jo<|Jt<|Jq<|Jr<|bF rfl rfl ae ?_;refine JL rfl (.there .here) rfl<|JI rfl<|Jv rfl<|Jn<|J0 ?_)
 refine aX (fun k:Nat=>k≤r.de.length) (fun k=>[(28,.int .i64 k),(27,.int .i64 r.de.length),(26,.slice a2 r.de.length cU),(3,.map (some bm)),(1,.pointer (some ⟨b1,0,none⟩))]) (fun k=>[mp (fun s:ByteArray=>Value.string s) bm (BW (vH r.sr r.sr.length) r.de k),JP b1 r (.slice a1 r.sr.length dJ) (.slice a2 r.de.length cU) (.slice a3 r.ti.length dC) p]) (fun k=>r.de.length-k) ?_ ?_
 ·apply aJ 0 (show 0≤r.de.length from Zi _)
  case hs1=>exact cd
  case ht=>
   exact .cons .here (.cons .here .nil)
 intro k hk
 by_cases aL:k<r.de.length
 ·have cE:=iW (gl aL)
  have aC:=(jq k _ (eX aL)).2
  have ko:BW (vH r.sr r.sr.length) r.de (k+1)=_:=Hl aL
  unfold De.cells at aC
  unfold lg at ko
  generalize r.de[k]=x at aC ko
  (refine Jr<|JA rfl<|Jn<|Jq<|Jd rfl fun ar=>Jk<|Jq<|J0<|Jr<|Jv rfl<|ab (fH cE ar) rfl ?_;refine ab (iv (eF.base aC rfl)) rfl ?_;refine Jz rfl rfl fun _ _=>Ja rfl<|aq (.of rfl) (.of rfl) .here rfl rfl (fh rfl rfl rfl) (bC rfl) an ?_;refine Jn<|Jg<|Jv rfl<|bF rfl rfl ae ?_;refine JL rfl .here rfl<|Jv rfl<|bF rfl rfl ae ?_;refine JL rfl .here rfl<|ab (aU (.cons (.of rfl) (.cons (.of rfl) (.cons (.of rfl) .nil))) an) rfl ?_)
  refine mz HN (.of rfl) (.of rfl) (.of rfl) (.there .here) ?_
  refine Jx<|Jj<|Jt<|Jg<|JB rfl (by omega)<|Jv rfl<|Jn ?_
  apply aK (k+1) (show k+1≤r.de.length by omega) (show r.de.length-(k+1)<r.de.length-k by omega)
  case hs1=>exact cd
  case ht=>
   show bo _ [mp (fun s:ByteArray=>Value.string s) bm (BW (vH r.sr r.sr.length) r.de (k+1)),JP b1 r (.slice a1 r.sr.length dJ) (.slice a2 r.de.length cU) (.slice a3 r.ti.length dC) p] _
   rw [ko]
   exact .cons .here (.cons (.there .here) .nil)
 obtain rfl:k=r.de.length:=by omega
 (refine Jr<|JA rfl<|Jn<|Jq<|Jc rfl fun ar=>Jp<|Jl<|Jo<|Jt<|Jq<|Jr<|bF rfl rfl ae ?_;refine JL rfl (.there .here) rfl<|JI rfl<|Jv rfl<|Jn<|J0 ?_)
 refine aX (fun k:Nat=>k≤r.ti.length) (fun k=>[(44,.int .i64 k),(43,.int .i64 r.ti.length),(42,.slice a3 r.ti.length dC),(3,.map (some bm)),(1,.pointer (some ⟨b1,0,none⟩))]) (fun k=>[mp (fun s:ByteArray=>Value.string s) bm (Kw (BW (vH r.sr r.sr.length) r.de r.de.length) r.de.length r.ti k),JP b1 r (.slice a1 r.sr.length dJ) (.slice a2 r.de.length cU) (.slice a3 r.ti.length dC) p]) (fun k=>r.ti.length-k) ?_ ?_
 ·apply aJ 0 (show 0≤r.ti.length from Zi _)
  case hs1=>exact cd
  case ht=>
   exact .cons .here (.cons .here .nil)
 intro k hk
 by_cases aL:k<r.ti.length
 ·have cE:=qY (eT aL)
  have aC:=(oe k _ (dQ aL)).2
  have ko:Kw (BW (vH r.sr r.sr.length) r.de r.de.length) r.de.length r.ti (k+1)=_:=Hj aL
  unfold Ti.cells at aC
  unfold lg at ko
  generalize r.ti[k]=x at aC ko
  (refine Jr<|JA rfl<|Jn<|Jq<|Jd rfl fun ar=>Jk<|Jq<|J0<|Jr<|Jv rfl<|ab (fH cE ar) rfl ?_;refine ab (iv (eF.base aC rfl)) rfl ?_;refine Jz rfl rfl fun _ _=>Ja rfl<|aq (.of rfl) (.of rfl) .here rfl rfl (fh rfl rfl rfl) (bC rfl) an ?_;refine Jn<|Jg<|Jv rfl<|bF rfl rfl ae ?_;refine JL rfl .here rfl<|bF rfl rfl ae ?_;refine JL rfl bN rfl<|JI rfl<|Jv rfl<|JB rfl (by omega)<|bF rfl rfl ae ?_;refine JL rfl .here rfl<|bF rfl rfl ae ?_;refine JL rfl .here rfl<|ab (aU (.cons (.of rfl) (.cons (.of rfl) (.cons (.of rfl) .nil))) an) rfl ?_)
  refine mz HN (.of rfl) (.of rfl) (.of rfl) (.there .here) ?_
  refine Jx<|Jj<|Jt<|Jg<|JB rfl (by omega)<|Jv rfl<|Jn ?_
  apply aK (k+1) (show k+1≤r.ti.length by omega) (show r.ti.length-(k+1)<r.ti.length-k by omega)
  case hs1=>exact cd
  case ht=>
   show bo _ [mp (fun s:ByteArray=>Value.string s) bm (Kw (BW (vH r.sr r.sr.length) r.de r.de.length) r.de.length r.ti (k+1)),JP b1 r (.slice a1 r.sr.length dJ) (.slice a2 r.de.length cU) (.slice a3 r.ti.length dC) p] _
   rw [ko]
   exact .cons .here (.cons (.there .here) .nil)
 obtain rfl:k=r.ti.length:=by omega
 refine Jr<|JA rfl<|Jn<|Jq<|Jc rfl fun ar=>Jp<|Jl<|Jo<|Jt<|Jr<|Jv rfl<|Ja rfl<|Jn<|Je ?_
 first | with_reducible apply aM | with_reducible apply aN
 case he=>exact dp rfl rfl
 case hR=>
  intro w' au
  exact aB bm trivial (show bo _ [mp (fun s:ByteArray=>Value.string s) bm (nO r)] _ from by unfold nO;exact .cons .here .nil) au rfl
theorem ch {w w':World} {a:Addr} {v:Value} (h:w.cell? a=some v) (hs:a.spot=none) (hk:aG [] w w'):w'.cell? a=some v:=by
 have hb:=World.block_lt_of_cell? w a h
 obtain ⟨b,o,s⟩:=a
 subst hs
 have:=hk.block b hb (by simp)
 rw [← h]
 simp [World.cell?,this]
theorem uq {P:Program} {c:Cx} {sl:aI} {hs:List a8} {dst:Option Tmp} {ty:TypeId} {pos:String} {af:Array Edge} {g:Option (Nat×Bool)} {x y z:Operand} {q:Bool} {v u V:Value} (hx:Is sl x (.bool q)) (hy:Is sl y v) (hz:Is sl z u) (e:(bif q then v else u)=V):cL P c sl hs ⟨dst,.pick x y z,ty,pos,af,g⟩ V:=e ▸ tz hx hy hz
theorem oS {α:Type} (p:α→Bool) (l:List α):(gK p l = -1∧l.find? p=none)∨∃ i,∃ h:i<l.length,gK p l=(i:Nat)∧l.find? p=some l[i]:=by
 cases hf:l.find? p with
 | none =>
  rw [List.find?_eq_none] at hf
  refine .inl ⟨fx fun i hi=>?_,rfl⟩
  simpa [hi] using hf l[i] (Zj hi)
 | some x =>
  obtain ⟨hp,i,hi,rfl,hb⟩:=List.find?_eq_some_iff_getElem.1 hf
  refine .inr ⟨i,hi,gj (fun j hj=>?_) hi hp,rfl⟩
  have:=hb j hj
  simpa [show j<l.length by omega] using this
theorem PR (x:Po) {b1 b2:Nat} {v:Int} {o:ByteArray} {w:World} (f1:w.cell? ⟨b1,0,none⟩=some (.int .i64 v)) (f2:w.cell? ⟨b2,0,none⟩=some (.string o)) :
  aj Tryz.prog 298 [.agg x.cells.toArray,.pointer (some ⟨b1,0,none⟩),.pointer (some ⟨b2,0,none⟩)] w (.bool (Dj v o x)):=by
 unfold Po.cells
 refine ah Tryz.func298 rfl rfl ?_
 (refine Jr<|Jy rfl rfl fun _ _=>Ja rfl<|Ji<|ab (cz .here) rfl ?_;refine ab (ag (.of rfl) (At.base f1 rfl)) rfl ?_;refine ab (ag (.of rfl) (At.base f2 rfl)) rfl ?_;refine bF rfl rfl ae ?_;refine JL rfl .here rfl<|ab (aU (.cons (.of rfl) (.cons (.of rfl) (.cons (.of rfl) .nil))) an) rfl ?_;refine ab (tB (.of rfl) (.of rfl) (jH (eZ (eZ lz))) rfl) rfl ?_;refine Ja rfl<|Jn<|Je<|JT ?_)
 simp [Dj]
theorem OY (x:Po) {b1 b2:Nat} {v:Int} {o:ByteArray} {w:World} (f1:w.cell? ⟨b1,0,none⟩=some (.int .i64 v)) (f2:w.cell? ⟨b2,0,none⟩=some (.string o)) :
  aj Tryz.prog 302 [.agg x.cells.toArray,.pointer (some ⟨b1,0,none⟩),.pointer (some ⟨b2,0,none⟩)] w (.bool (y6 v o x)):=by
 unfold Po.cells
 refine ah Tryz.func302 rfl rfl ?_
 (refine Jr<|Jy rfl rfl fun _ _=>Ja rfl<|Ji<|ab (cz .here) rfl ?_;refine ab (ag (.of rfl) (At.base f1 rfl)) rfl ?_;refine bF rfl rfl ae ?_;refine JL rfl .here rfl<|ab (ag (.of rfl) (At.base f2 rfl)) rfl ?_;refine ab (aU (.cons (.of rfl) (.cons (.of rfl) (.cons (.of rfl) .nil))) an) rfl ?_;refine ab (tB (.of rfl) (.of rfl) (jH (eZ (eZ lz))) rfl) rfl ?_;refine Ja rfl<|Jn<|Je<|JT ?_)
 simp [y6]
theorem y5 {r:Ro} {s d t p:Value} (v:Int) (o:ByteArray) {w:World} (h:RR w r s d t p):aj Tryz.prog 223 [RA r s d t p,.int .i64 v,.string o] w (.tuple #[.string ((ee r.po v o).getD ⟨#[]⟩),.bool (ee r.po v o).isSome]):=by
 have h1:=Rd.one h.sr
 have h2:=Rd.one h.de
 have h3:=Rd.one h.ti
 have hp:=h.po
 obtain ⟨a,cp,b,o',rfl,db,bT,ha,hc⟩:=hp
 rw [cN] at *
 unfold maxLen at bT
 unfold RA
 refine ah Tryz.func223 rfl rfl ?_
 (refine Jr<|Jy rfl rfl fun _ _=>Jy rfl rfl fun _ _=>Jy rfl rfl fun _ _=>Ja rfl<|Ja rfl<|Ji<|bF rfl rfl ae ?_;refine JL rfl bN rfl<|ab (bn .nil (.cons (.of rfl) (.cons (.of rfl) .nil))) rfl ?_)
 rename_i b3 sZ b4 u9 b5 KF
 with_reducible apply ai
 case hr=>exact aZ
 case hd=>rfl
 case hc=>
  intro w' au
  have f1:w'.cell? ⟨b4,0,none⟩=some (.int .i64 v):=At.lit (by exact Take.there .here) rfl w' au
  have f2:w'.cell? ⟨b5,0,none⟩=some (.string o):=At.lit (by exact .here) rfl w' au
  exact y7 (f:=298) (p:=Dj v o) (first:=[]) (cap:=[.pointer (some ⟨b4,0,none⟩),.pointer (some ⟨b5,0,none⟩)]) (h.po.keeps au.keeps)
   (fun x hx w2 eC=>PR x (ch f1 rfl eC) (ch f2 rfl eC))
 have mw:ee r.po v o=(r.po.find? (Dj v o)).map Po.ip:=rfl
 rcases oS (Dj v o) r.po with ⟨e1,e2⟩ | ⟨i,hi,e1,e2⟩
 ·rw [e1]
  rw [e2] at mw
  rw [mw]
  refine Ja rfl<|Jn<|Jq<|Jr<|Jv rfl<|JA rfl<|Jn<|Jd rfl fun ar=>Jr<|Ja rfl<|Ja rfl<|Jn<|Ju<|oJ rfl (fF rfl rfl rfl) ?_
  rfl
 ·rw [e1]
  rw [e2] at mw
  rw [mw]
  have cE:=ha (jZ hi)
  have aC:=(hc i _ (ib hi)).2
  unfold Po.cells at aC
  have jq:=aC 2 _ rfl
  (refine Ja rfl<|Jn<|Jq<|Jr<|Jv rfl<|JA rfl<|Jn<|Jc rfl fun ar=>Jk<|Jr<|bF rfl rfl ae ?_;refine JL rfl bN rfl<|Jv rfl<|ab (az (.of rfl) (.of rfl) cE (by omega) (by omega) ba) rfl ?_;refine bF rfl rfl ae ?_;refine ab (ag (.of rfl) (At.base jq rfl)) rfl ?_;refine Ja rfl<|Ja rfl<|Jn<|Je<|oJ rfl (fF rfl rfl rfl) ?_)
  rfl
theorem Gp {r:Ro} {s d t p:Value} (v:Int) (o:ByteArray) {w:World} (h:RR w r s d t p):aj Tryz.prog 239 [RA r s d t p,.int .i64 v,.string o] w (.bool (nj r.po v o)):=by
 have h1:=Rd.one h.sr
 have h2:=Rd.one h.de
 have h3:=Rd.one h.ti
 have h4:=Rd.one h.po
 unfold RA
 refine ah Tryz.func239 rfl rfl ?_
 (refine Jr<|Jy rfl rfl fun _ _=>Jy rfl rfl fun _ _=>Jy rfl rfl fun _ _=>Ja rfl<|Ji<|bF rfl rfl ae ?_;refine JL rfl bN rfl<|ab (bn .nil (.cons (.of rfl) (.cons (.of rfl) .nil))) rfl ?_)
 rename_i b3 sZ b4 u9 b5 KF
 with_reducible apply ai
 case hr=>exact aZ
 case hd=>rfl
 case hc=>
  intro w' au
  have f1:w'.cell? ⟨b4,0,none⟩=some (.int .i64 v):=At.lit (by exact Take.there .here) rfl w' au
  have f2:w'.cell? ⟨b5,0,none⟩=some (.string o):=At.lit (by exact .here) rfl w' au
  exact ME (f:=302) (p:=y6 v o) (first:=[]) (cap:=[.pointer (some ⟨b4,0,none⟩),.pointer (some ⟨b5,0,none⟩)]) (h.po.keeps au.keeps)
   (fun x hx w2 eC=>OY x (ch f1 rfl eC) (ch f2 rfl eC))
 refine Ja rfl<|Jn<|Je<|JT ?_
 rfl
theorem uD {r:Ro} {s d t p:Value} (v:Int) (o:ByteArray) {w w1:World} (h:RR w1 r s d t p) :
  bd Tryz.prog 116 [RA r s d t p,.int .i64 v,.string o] w [] (fun _:Nat×Nat×Nat=>True) (fun x=>.func (.func 222) #[] #[.pointer (some ⟨x.1,0,none⟩),.pointer (some ⟨x.2.1,0,none⟩),.pointer (some ⟨x.2.2,0,none⟩)])
   (fun x=>[bA x.1 (.cells #[.string o] 9 (0,0)),JP x.2.1 r s d t p,bA x.2.2 (.cells #[.int .i64 v] 3 (0,0))]):=by
 have h1:=Rd.one h.sr
 have h2:=Rd.one h.de
 have h3:=Rd.one h.ti
 have h4:=Rd.one h.po
 unfold RA
 refine aQ Tryz.func116 rfl rfl ?_
 (refine Jr<|Jy rfl rfl fun _ _=>Jy rfl rfl fun _ _=>Jy rfl rfl fun _ _=>Ja rfl<|Ji<|ab (bn .nil (.cons (.of rfl) (.cons (.of rfl) (.cons (.of rfl) .nil)))) rfl ?_;refine Ja rfl<|Jn<|Je ?_)
 rename_i b3 sZ b4 u9 b5 KF
 first | with_reducible apply aM | with_reducible apply aN
 case he=>exact dp rfl rfl
 case hR=>
  intro w' au
  exact aB (b5,b3,b4) trivial (by exact .cons .here (.cons (.there .here) (.cons .here .nil))) au rfl
structure RO (md:List Nat) (r:Ro) (s d t p:Value):Prop where
 sr:Out md s (vF r.sr)
 de:Out md d (vi r.de)
 ti:Out md t (ui r.ti)
 po:Out md p (sU r.po)
theorem RO.nil {r:Ro} {s d t p:Value}:RO [] r s d t p:=⟨Out.nil _ _,Out.nil _ _,Out.nil _ _,Out.nil _ _⟩
theorem RR.iV {md:List Nat} {w w':World} {r:Ro} {s d t p:Value} (h:RR w r s d t p) (hn:RO md r s d t p) (hk:aG md w w'):RR w' r s d t p:=⟨h.sr.iV hn.sr hk,h.de.iV hn.de hk,h.ti.iV hn.ti hk,h.po.iV hn.po hk⟩
theorem RR.out {md fp:List Nat} {w0:World} {r:Ro} {s d t p:Value} (h:RR w0 r s d t p) (hn:RO md r s d t p) (hF:∀ b∈fp,b∈md∨w0.heap.size≤b):RO fp r s d t p:=⟨h.sr.out (by omega) hn.sr hF,h.de.out (by omega) hn.de hF,h.ti.out (by omega) hn.ti hF,h.po.out (by omega) hn.po hF⟩
def vZ (po:List Po) (v:Int) (k:Nat) (o:ByteArray):List (List Value):=(eQ po v k o).map fun x=>[.string x]
theorem qK (po:List Po) (v:Int) (k:Nat) (o:ByteArray):(vZ po v k o).length=(eQ po v k o).length:=by simp [vZ]
theorem CO {po:List Po} {v:Int} {k:Nat} {o a:ByteArray} (h:lS po v k o=some a):lS po v (k+1) o=ee po v a:=by
 rw [jI,h]
 show (ee po v a).bind (lS po v 0)=_
 cases ee po v a <;> rfl
theorem ED {po:List Po} {v:Int} {k K:Nat} {o a:ByteArray} (h:lS po v k o=some a) (hk:k≤K) (hn:ee po v a=none∨k=K):(eQ po v K o).length=k:=by
 have hl:=jK po v K o
 have h1:k≤(eQ po v K o).length:=by
  cases k with
  | zero=>exact Zi _
  | succ k =>
   have:=mU (po:=po) (v:=v) (o:=o) (show k<K by omega)
   rw [h] at this
   exact (List.getElem?_eq_some_iff.1 this).1
 rcases hn with hn | rfl
 ·by_cases e:k=K
  ·omega
  ·have:=mU (po:=po) (v:=v) (o:=o) (show k<K by omega)
   rw [CO h,hn,List.getElem?_eq_none_iff] at this
   omega
 ·omega
theorem LI {po:List Po} {v:Int} {k K:Nat} {o a i:ByteArray} (h:lS po v k o=some a) (hk:k<K) (hi:ee po v a=some i):(vZ po v K o)[k]? = some [.string i]:=by
 unfold vZ
 rw [List.getElem?_map,mU hk,CO h,hi];rfl
set_option maxHeartbeats 1000000 in
theorem CD {r:Ro} {s d t p:Value} {b1 b2 b3:Nat} (v:Int) (o:ByteArray) {w0 w:World} {md:List Nat} (h:RR w0 r s d t p) (hn:RO md r s d t p) (cG:r.ti.length≤1000000) :
  Iter Tryz.prog 222 [] [.pointer (some ⟨b1,0,none⟩),.pointer (some ⟨b2,0,none⟩),.pointer (some ⟨b3,0,none⟩)] [bA b1 (.cells #[.string o] 9 (0,0)),JP b2 r s d t p,bA b3 (.cells #[.int .i64 v] 3 (0,0))] (vZ r.po v (r.ti.length+1) o) w0 md w:=by
 intro l fp J E hB hF kQ hs hy
 have hR:=h.iV hn hB
 have hO:=h.out hn hF
 rw [qK]
 have h1:=Rd.one hR.sr
 have h2:=Rd.one hR.de
 have h4:=Rd.one hR.po
 have hti:=hR.ti
 obtain ⟨a,cp,b,o',rfl,db,bT,ha,hc⟩:=hti
 rw [bJ] at *
 unfold maxLen at bT
 refine dV Tryz.func222 rfl rfl kQ hs ?_
 (refine Jr<|JL rfl (.there .here) rfl<|Ja rfl<|Ji<|bF rfl rfl ae ?_;refine JL rfl bN rfl<|JI rfl<|JB rfl (by omega)<|Jv rfl<|Jn<|J0 ?_)
 refine aX (ι:=Nat×ByteArray) (fun x=>x.1≤r.ti.length+1∧lS r.po v x.1 o=some x.2) (fun x=>[(13,.int .i64 (x.1:Nat)),(12,.int .i64 ((r.ti.length:Int)+1)),(5,.string x.2),(0,.func (.yield l) #[] #[]),(2,.pointer (some ⟨b2,0,none⟩)),(3,.pointer (some ⟨b3,0,none⟩))])
  (fun x=>[J x.1,bA b1 (.cells #[.string o] 9 (0,0)),JP b2 r s d (.slice a r.ti.length cp) p,bA b3 (.cells #[.int .i64 v] 3 (0,0))]) (fun x=>r.ti.length+1-x.1) ?_ ?_
 ·apply aJ (0,o) ⟨Zi _,rfl⟩
  case hs1=>exact cd
  case ht=>(try simp only [Ze,Zf,Za]);exact .cons .here (.cons .here (.cons .here (.cons .here .nil)))
 rintro ⟨k,at_⟩ ⟨hk,hit⟩
 dsimp only at hk hit ⊢
 by_cases aL:k<r.ti.length+1
 ·have Tp:∀ w',aG fp w w'→aj Tryz.prog 223 [.agg #[.int .i64 r.lv,.int .i64 r.ma,s,d,.slice a r.ti.length cp,p],.int .i64 v,.string at_] w' (.tuple #[.string ((ee r.po v at_).getD ⟨#[]⟩),.bool (ee r.po v at_).isSome]):=fun w' hk=>y5 v at_ (hR.iV hO hk)
  cases hi:ee r.po v at_ with
  | none =>
   have mw:∀ w',aG fp w w'→aj Tryz.prog 223 [.agg #[.int .i64 r.lv,.int .i64 r.ma,s,d,.slice a r.ti.length cp,p],.int .i64 v,.string at_] w' (.tuple #[.string ⟨#[]⟩,.bool false]):=fun w' hk=>by
    have:=Tp w' hk
    rwa [hi] at this
   have a7:=ED hit hk (.inl hi)
   (refine Jr<|JA rfl<|Jn<|Jq<|Jd rfl fun ar=>Jk<|Jq<|J0<|Jr<|ab (cz bN) rfl ?_;refine JL rfl cX rfl<|Jv rfl<|ai eh rfl (fun w' au=>(mw w' (Mem.keeps au))) ?_;refine Jv rfl<|JJ rfl rfl<|JJ rfl rfl<|Ja rfl<|Ja rfl<|Jn<|Jq<|Jr<|Jv rfl<|JH rfl<|Jv rfl<|je rfl rfl rfl rfl ?_;refine je rfl rfl rfl rfl ?_;refine ew rfl rfl rfl rfl ?_;refine aF rfl rfl inferInstance (fun hg bj=>(eU (.bE bj rfl))) rfl ?_;refine ab (bR (.of rfl) rfl) rfl ?_;refine Jn<|cB (.of rfl) ?_;refine Ju<|Jm<|Jh<|Jh<|Jm ?_)
   first | with_reducible apply aM | with_reducible apply aN
   case he=>exact py rfl
   case hR=>
    intro w' au
    exact aB true trivial (show bo _ [J (eQ r.po v (r.ti.length+1) o).length,_,_,_] _ by rw [a7];exact .cons .here (.cons .here (.cons .here (.cons .here .nil)))) au rfl
  | some nx =>
   have mw:∀ w',aG fp w w'→aj Tryz.prog 223 [.agg #[.int .i64 r.lv,.int .i64 r.ma,s,d,.slice a r.ti.length cp,p],.int .i64 v,.string at_] w' (.tuple #[.string nx,.bool true]):=fun w' hk=>by
    have:=Tp w' hk
    rwa [hi] at this
   have SC:=hy k _ (LI hit aL hi)
   have WA:lS r.po v (k+1) o=some nx:=by rw [CO hit,hi]
   (refine Jr<|JA rfl<|Jn<|Jq<|Jd rfl fun ar=>Jk<|Jq<|J0<|Jr<|ab (cz bN) rfl ?_;refine JL rfl cX rfl<|Jv rfl<|ai eh rfl (fun w' au=>(mw w' (Mem.keeps au))) ?_;refine Jv rfl<|JJ rfl rfl<|JJ rfl rfl<|Ja rfl<|Ja rfl<|Jn<|Jq<|Jr<|Jv rfl<|JH rfl<|Jv rfl<|JK rfl rfl<|Jv rfl<|JK rfl rfl<|Jv rfl<|JK rfl rfl ?_)
   with_reducible apply wG hB hF SC
   case hx=>exact Is.of rfl
   case ha=>exact .cons (.of rfl) .nil
   case hd=>rfl
   case ht=>exact .here
   intro q
   cases q with
   | false =>
    simp only [cond_false]
    (refine JK rfl rfl<|JH rfl<|ab (uq (.of rfl) (.of rfl) (.of rfl) rfl) rfl ?_;refine Jn<|cB (.of rfl) ?_;refine Ju<|Jm<|Jh<|Jh<|Jm ?_)
    first | with_reducible apply aM | with_reducible apply aN
    case he=>exact py rfl
    case hR=>
     intro w' au
     exact aB false trivial (by exact .cons .here (.cons .here (.cons .here (.cons .here .nil)))) au rfl
   | true =>
    simp only [cond_true]
    (refine JK rfl rfl<|JH rfl<|ab (uq (.of rfl) (.of rfl) (.of rfl) rfl) rfl ?_;refine Jn<|bL (.of rfl) ?_;refine Jk<|Jg<|Jv rfl<|Ja rfl<|Jx<|Jj<|Jt<|Jg<|JB rfl (by omega)<|Jv rfl<|Jn ?_)
    apply aK (k+1,nx) ⟨show k+1≤r.ti.length+1 by omega,WA⟩ (show r.ti.length+1-(k+1)<r.ti.length+1-k by omega)
    case hs1=>exact cd
    case ht=>(try simp only [Ze,Zf,Za]);exact .cons .here (.cons .here (.cons .here (.cons .here .nil)))
 ·obtain rfl:k=r.ti.length+1:=by omega
  have a7:=ED hit hk (.inr rfl)
  refine Jr<|JA rfl<|Jn<|Jq<|Jc rfl fun ar=>Jp<|Jl<|Jo ?_
  first | with_reducible apply aM | with_reducible apply aN
  case he=>exact py rfl
  case hR=>
   intro w' au
   exact aB true trivial (show bo _ [J (eQ r.po v (r.ti.length+1) o).length,_,_,_] _ by rw [a7];exact .cons .here (.cons .here (.cons .here (.cons .here .nil)))) au rfl
def RC (r:Ro) (s d t p:Value):List Value:=[.int .i64 r.lv,.int .i64 r.ma,s,d,t,p]
def BR (w:World) (b:Nat) (cs:List Value):Prop:=∀ (j:Nat) (u:Value),cs[j]? = some u→w.cell? ⟨b,0+j,none⟩=some u
theorem BR.keeps {w w':World} {b:Nat} {cs:List Value} (h:BR w b cs) (hk:aG [] w w'):BR w' b cs:=fun j u hu=>ch (h j u hu) rfl hk
theorem BR.of {c:Cx} {hs hs':List a8} {w:World} (hm:Mem c hs w) {b:Nat} {cs:List Value} {E:TypeId} {fz:Nat×Nat} (ht:Take hs (bA b (.cells cs.toArray E fz)) hs'):BR w b cs:=fun j u hu=>by
 rw [Nat.zero_add]
 exact At.kz ht hu w hm
theorem AD {P:Program} {c:Cx} {sl:aI} {hs:List a8} {dst:Option Tmp} {ty:TypeId} {pos:String} {af:Array Edge} {g:Option (Nat×Bool)} {t u:TypeId} {x y:Operand} {a b:Bool} [hu:iH P t .bool] (hx:Is sl x (.bool a)) (hy:Is sl y (.bool b)) :
  cL P c sl hs ⟨dst,.binOp .neq t x y u,ty,pos,af,g⟩ (.bool (a != b)):=
 iB hx hy fun w=>by
  have:(Op.equal t (.bool a) (.bool b)).run P w=.ok (a==b) w:=by
   exact D7 (d:=9999) (by rw [hu.eq];rfl) (fun k h=>by rw [hu.eq] at h;cases h) (fun h=>by rw [hu.eq] at h;cases h) (fun _=>⟨a,rfl⟩) rfl
  simp [zq,binOp,this,bne]
def Hw (r:Ro) (v:Int) (x:Ti):Bool:=fV r.po v x.nm != nj r.po v x.nm
def KG (r:Ro) (v:Int) (x:Ti):Bool:=iK (eQ r.po v (r.ti.length+1) x.nm) x.nm
theorem LN {r:Ro} {s d t p:Value} (v:Int) (x:Ti) {b1 b2:Nat} {w:World} (h:RR w r s d t p) (hA:BR w b1 (RC r s d t p)) (f2:w.cell? ⟨b2,0,none⟩=some (.int .i64 v)) :
  aj Tryz.prog 238 [.agg x.cells.toArray,.pointer (some ⟨b1,0,none⟩),.pointer (some ⟨b2,0,none⟩)] w (.bool (Hw r v x)):=by
 have h1:=Rd.one h.sr
 have h2:=Rd.one h.de
 have h3:=Rd.one h.ti
 have h4:=Rd.one h.po
 have jR:∀ (j:Nat) (u:Value),[Value.int .i64 r.lv,.int .i64 r.ma,s,d,t,p][j]? = some u→w.cell? ⟨b1,0+j,none⟩=some u:=hA
 unfold Ti.cells
 refine ah Tryz.func238 rfl rfl ?_
 (refine Jr<|Jy rfl rfl fun _ _=>Ja rfl<|Ji<|ab (iv (eF.base jR rfl)) rfl ?_;refine ab (ag (.of rfl) (At.base f2 rfl)) rfl ?_;refine bF rfl rfl ae ?_;refine JL rfl .here rfl ?_)
 refine ai eh rfl (fun w' au=>y5 (s:=s) (d:=d) (t:=t) (p:=p) v x.nm (h.keeps au.keeps)) ?_
 (refine Jv rfl<|JJ rfl rfl<|JJ rfl rfl<|Ja rfl<|Ja rfl<|Ji<|Jv rfl<|ab (iv (eF.base jR rfl)) rfl ?_;refine ab (ag (.of rfl) (At.base f2 rfl)) rfl ?_;refine bF rfl rfl ae ?_;refine JL rfl .here rfl ?_)
 refine ai eh rfl (fun w' au=>Gp (s:=s) (d:=d) (t:=t) (p:=p) v x.nm (h.keeps au.keeps)) ?_
 skip
 refine ab (AD (.of rfl) (.of rfl)) rfl ?_
 refine Ja rfl<|Jn<|Je<|JT ?_
 rfl
theorem Pz {r:Ro} {s d t p:Value} (v:Int) {w:World} (h:RR w r s d t p):aj Tryz.prog 150 [RA r s d t p,.int .i64 v] w (.bool (r.ti.any (Hw r v))):=by
 have h1:=Rd.one h.sr
 have h2:=Rd.one h.de
 have h3:=Rd.one h.ti
 have h4:=Rd.one h.po
 unfold RA
 refine ah Tryz.func150 rfl rfl ?_
 (refine Jr<|Jy rfl rfl fun _ _=>Jy rfl rfl fun _ _=>Ja rfl<|Ji<|bF rfl rfl ae ?_;refine JL rfl (.there .here) rfl<|ab (bn .nil (.cons (.of rfl) (.cons (.of rfl) .nil))) rfl ?_)
 rename_i b3 sZ b4 u9
 with_reducible apply ai
 case hr=>exact aZ
 case hd=>rfl
 case hc=>
  intro w' au
  have hA:BR w' b3 [.int .i64 r.lv,.int .i64 r.ma,s,d,t,p]:=BR.of au (by exact Take.there .here)
  have f2:w'.cell? ⟨b4,0,none⟩=some (.int .i64 v):=At.lit (by exact .here) rfl w' au
  have hR:=h.keeps au.keeps
  exact zi (f:=238) (p:=Hw r v) (first:=[]) (cap:=[.pointer (some ⟨b3,0,none⟩),.pointer (some ⟨b4,0,none⟩)]) hR.ti
   (fun x hx w2 eC=>LN v x (hR.keeps eC) (hA.keeps eC) (ch f2 rfl eC))
 refine Ja rfl<|Jn<|Je<|JT ?_
 rfl
theorem OL {r:Ro} {s d t p:Value} {q:Int→Bool} {f:FuncId} {first cap:List Value} [bS Tryz.prog f] {w w1:World} (h:RR w1 r s d t p) (Bb:r.lv≤1000000)
  (cn:∀ v:Int,0≤v→v<r.lv→∀ w',aG [] w w'→aj Tryz.prog f (first++[.int .i64 v]++cap) w' (.bool (q v))) :
  aj Tryz.prog 148 [RA r s d t p,.func (.func f) first.toArray cap.toArray] w (.bool ((List.range r.lv.toNat).any fun i=>q (i:Nat))):=by
 have h1:=Rd.one h.sr
 have h2:=Rd.one h.de
 have h3:=Rd.one h.ti
 have h4:=Rd.one h.po
 unfold RA
 refine ah Tryz.func148 rfl rfl ?_
 (refine Jr<|Jy rfl rfl fun _ _=>Ja rfl<|Jn<|Jq<|Jr<|bF rfl rfl ae ?_;refine JL rfl .here rfl<|Jv rfl<|Jn<|J0 ?_)
 refine aX (ι:=Nat) (fun k=>k≤r.lv.toNat∧∀ i,i<k→q (i:Nat)=false) (fun k=>[(8,.int .i64 (k:Nat)),(7,.int .i64 r.lv),(1,.func (.func f) first.toArray cap.toArray)]) (fun k=>[]) (fun k=>r.lv.toNat-k) ?_ ?_
 ·apply aJ 0 ⟨Zi _,fun i h=>by omega⟩
  case hs1=>exact cd
  case ht=>(try simp only [Ze,Zf,Za]);exact .nil
 rintro k ⟨hk,hz⟩
 by_cases aL:k<r.lv.toNat
 ·have Eg:((k:Nat):Int)<r.lv:=by omega
  refine Jr<|JA rfl<|Jn<|Jq<|Jd rfl fun ar=>Jk<|Jq<|J0<|Jr<|Jv rfl<|Ja rfl<|Ji<|Jv rfl<|Jv rfl ?_
  refine ai bI rfl (fun w' au=>cn (k:Nat) (by omega) Eg w' au.keeps) ?_
  cases hq:q (k:Nat) with
  | true =>
   have e:(List.range r.lv.toNat).any (fun i=>q (i:Nat))=true:=List.any_eq_true.2 ⟨k,List.mem_range.2 aL,hq⟩
   rw [e]
   (refine Jn<|cB (.of rfl) ?_;refine Jr<|Ja rfl<|Jn<|Je<|Jm<|Jh<|Jh<|Jm<|Jh<|JT ?_)
   rfl
  | false =>
   (refine Jn<|bL (.of rfl) ?_;refine Jw<|Jj<|Jt<|Jg<|JB rfl (by omega)<|Jv rfl<|Jn ?_)
   have HZ:∀ i,i<k+1→q (i:Nat)=false:=fun i hi=>by
    by_cases e:i=k
    ·rw [e];exact hq
    ·exact hz i (by omega)
   apply aK (k+1) ⟨show k+1≤r.lv.toNat by omega,HZ⟩ (show r.lv.toNat-(k+1)<r.lv.toNat-k by omega)
   case hs1=>exact cd
   case ht=>(try simp only [Ze,Zf,Za]);exact .nil
 ·have e:(List.range r.lv.toNat).any (fun i=>q (i:Nat))=false:=by
   rw [List.any_eq_false]
   intro i hi
   simp [hz i (by have:=List.mem_range.1 hi;omega)]
  rw [e]
  refine Jr<|JA rfl<|Jn<|Jq<|Jc rfl fun ar=>Jp<|Jl<|Jo<|Jt<|Jr<|Ja rfl<|Jn<|Je<|JT ?_
  rfl
theorem QS {po:List Po} {v:Int} {K:Nat} {o:ByteArray}:lS po v (eQ po v K o).length o=some (gD po v K o):=by
 unfold gD
 rcases Nat.eq_zero_or_pos (eQ po v K o).length with h | h
 ·rw [List.length_eq_zero_iff.1 h];rfl
 ·obtain ⟨k,hk⟩:∃ k,(eQ po v K o).length=k+1:=⟨(eQ po v K o).length-1,by omega⟩
  have hl:=jK po v K o
  have:=mU (po:=po) (v:=v) (o:=o) (show k<K by omega)
  rw [hk,← this,List.getLast?_eq_getElem?,hk,Nat.add_sub_cancel,Zc (by omega)];rfl
theorem CC {po:List Po} {v:Int} {k K:Nat} {o:ByteArray} {vs:List Value} (h:(vZ po v K o)[k]? = some vs):∃ a,lS po v (k+1) o=some a∧vs=[.string a]∧(eQ po v K o)[k]? = some a:=by
 unfold vZ at h
 rw [List.getElem?_map,Option.map_eq_some_iff] at h
 obtain ⟨a,ha,rfl⟩:=h
 have hl:=jK po v K o
 have hk:=(List.getElem?_eq_some_iff.1 ha).1
 exact ⟨a,by rw [← mU (k:=K) (by omega)];exact ha,rfl,ha⟩
theorem IP {r:Ro} {s d t p:Value} (v:Int) (x:Ti) {b1 b2:Nat} {w:World} (h:RR w r s d t p) (cG:r.ti.length≤1000000) (hA:BR w b1 (RC r s d t p)) (f2:w.cell? ⟨b2,0,none⟩=some (.int .i64 v)) :
  aj Tryz.prog 237 [.agg x.cells.toArray,.pointer (some ⟨b1,0,none⟩),.pointer (some ⟨b2,0,none⟩)] w (.bool (KG r v x)):=by
 have h1:=Rd.one h.sr
 have h2:=Rd.one h.de
 have h3:=Rd.one h.ti
 have h4:=Rd.one h.po
 have jR:∀ (j:Nat) (u:Value),[Value.int .i64 r.lv,.int .i64 r.ma,s,d,t,p][j]? = some u→w.cell? ⟨b1,0+j,none⟩=some u:=hA
 unfold Ti.cells
 refine ah Tryz.func237 rfl rfl ?_
 (refine Jr<|Jy rfl rfl fun _ _=>Jz rfl rfl fun _ _=>Jn<|Jq<|Jr<|ab (iv (eF.base jR rfl)) rfl ?_;refine ab (ag (.of rfl) (At.base f2 rfl)) rfl ?_;refine bF rfl rfl ae ?_;refine JL rfl (.there .here) rfl ?_)
 rename_i b3 sZ b4 u9
 refine JN eh rfl (fun w1 aS=>uD v x.nm (h.keeps aS.keeps)) ?_
 intro y _
 dsimp only [id_eq,Zb,Za]
 refine Jn<|J0 ?_
 refine iY (ps:=[11]) (f:=222) (first:=[]) (cap:=[.pointer (some ⟨y.1,0,none⟩),.pointer (some ⟨y.2.1,0,none⟩),.pointer (some ⟨y.2.2,0,none⟩)]) (ι:=Unit) (κ:=Unit) (rst:=[]) ?hg
  [bA y.1 (.cells #[.string x.nm] 9 (0,0)),JP y.2.1 r s d t p,bA y.2.2 (.cells #[.int .i64 v] 3 (0,0))] (vZ r.po v (r.ti.length+1) x.nm) ?hit
  (fun k _=>iK ((eQ r.po v (r.ti.length+1) x.nm).take k) x.nm=false) (fun _=>[bA b4 (.cells #[.bool false] 4 (0,0)),bA b3 (.cells #[.string x.nm,.int .i64 x.fr,.int .i64 x.to] 187 (0,0))])
  (fun _=>KG r v x=true) (fun _=>[bA b4 (.cells #[.bool true] 4 (0,0)),bA b3 (.cells #[.string x.nm,.int .i64 x.fr,.int .i64 x.to] 187 (0,0))]) (fun _=>.ret) () (by rw [Ze];rfl) ?ht ?hlen ?hps ?round ?kn ?kj
 case hg=>exact Is.of rfl
 case hit=>intro w' au;exact CD v x.nm h RO.nil cG
 case ht=>
  dsimp only [Zb,Za]
  exact .cons cX (.cons cX (.cons .here (.cons .here (.cons .here .nil))))
 case hlen=>intro vs nY;obtain ⟨x,_,rfl⟩:=List.mem_map.1 nY;rfl
 case hps=>intro t ht;simp only [List.mem_cons,List.not_mem_nil,or_false] at ht;rcases ht with rfl;exact Nat.le_of_ble_eq_true rfl
 case kj=>
  intro y D hy
  rw [hy]
  dsimp only [Zb,Za]
  refine Je<|Jm<|Jh ?_
  first | with_reducible apply aM | with_reducible apply aN
  case he=>exact Ex rfl inferInstance rfl (At.lit .here rfl)
  case hR=>exact fun w' au=>⟨rfl,au.keeps⟩
 case kn=>
  intro _ D hq
  rw [qK,List.take_length] at hq
  have vI:KG r v x=false:=hq
  rw [vI]
  dsimp only [Zb,Za]
  (refine Jj<|Jt<|Jr<|aq (.of rfl) (.of rfl) .here rfl rfl (ed rfl) (bC rfl) an ?_;refine Jn<|Je ?_)
  first | with_reducible apply aM | with_reducible apply aN
  case he=>exact Ex rfl inferInstance rfl (At.lit .here rfl)
  case hR=>exact fun w' au=>⟨rfl,au.keeps⟩
 case round=>
  intro l0 rc W fp k u vs hsz hk hq hB hF
  obtain ⟨a,hit,rfl,Bf⟩:=CC hk
  obtain ⟨aL,Iq⟩:=List.getElem?_eq_some_iff.1 Bf
  have htk:(eQ r.po v (r.ti.length+1) x.nm).take (k+1)=(eQ r.po v (r.ti.length+1) x.nm).take k++[a]:=by rw [List.take_succ_eq_append_getElem aL,Iq]
  dsimp only [List.zip_cons_cons,List.zip_nil_right,lN,Zb,Za]
  refine Jg<|Ja rfl<|Jn ?_
  with_reducible apply lX
  case ht=>exact .here
  (refine J0<|Jr<|Jv rfl<|bF rfl rfl ae ?_;refine JL rfl bN rfl<|ab (dR (.of rfl) (.of rfl)) rfl ?_;refine Jn<|gm rfl (fun ar=>?_) fun ar=>?_;refine Jr<|aq (.of rfl) (.of rfl) (.there .here) rfl rfl (ed rfl) (bC rfl) an ?_;refine Jn<|Je<|Jm ?_;rotate_left;refine Jw<|Jj ?_;rotate_right)
  ·apply K0 () rfl
   case ht=>exact Take.there .here
   case hy=>
    refine fb.2 ?_
    have:=List.mem_of_getElem? Bf
    rwa [ar] at this
   case h2=>exact .cons .here (.cons .here .nil)
  ·apply lq ()
   case ht=>exact .here
   case hx=>
    show iK ((eQ r.po v (r.ti.length+1) x.nm).take (k+1)) x.nm=false
    rw [htk]
    unfold iK at hq ⊢
    rw [List.any_append,hq]
    simp
    exact fun e=>ar e.symm
   case h2=>exact .cons .here (.cons .here .nil)
theorem Dd (x:Sr) (o:ByteArray) {b2:Nat} {w:World} (f2:w.cell? ⟨b2,0,none⟩=some (.string o)) :
  aj Tryz.prog 228 [.agg x.cells.toArray,.pointer (some ⟨b2,0,none⟩)] w (.bool (decide (x.nm=o))):=by
 unfold Sr.cells
 refine ah Tryz.func228 rfl rfl ?_
 (refine Jr<|Jy rfl rfl fun _ _=>Ja rfl<|Ji<|bF rfl rfl ae ?_;refine JL rfl .here rfl<|ab (ag (.of rfl) (At.base f2 rfl)) rfl ?_;refine ab (dR (.of rfl) (.of rfl)) rfl ?_;refine Ja rfl<|Jn<|Je<|JT ?_)
 rfl
theorem M1 {r:Ro} {s d t p:Value} (v:Int) {w:World} (h:RR w r s d t p) (cG:r.ti.length≤1000000):aj Tryz.prog 149 [RA r s d t p,.int .i64 v] w (.bool (r.ti.any (KG r v))):=by
 have h1:=Rd.one h.sr
 have h2:=Rd.one h.de
 have h3:=Rd.one h.ti
 have h4:=Rd.one h.po
 unfold RA
 refine ah Tryz.func149 rfl rfl ?_
 (refine Jr<|Jy rfl rfl fun _ _=>Jy rfl rfl fun _ _=>Ja rfl<|Ji<|bF rfl rfl ae ?_;refine JL rfl (.there .here) rfl<|ab (bn .nil (.cons (.of rfl) (.cons (.of rfl) .nil))) rfl ?_)
 rename_i b3 sZ b4 u9
 with_reducible apply ai
 case hr=>exact aZ
 case hd=>rfl
 case hc=>
  intro w' au
  have hA:BR w' b3 [.int .i64 r.lv,.int .i64 r.ma,s,d,t,p]:=BR.of au (by exact Take.there .here)
  have f2:w'.cell? ⟨b4,0,none⟩=some (.int .i64 v):=At.lit (by exact .here) rfl w' au
  have hR:=h.keeps au.keeps
  exact zi (f:=237) (p:=KG r v) (first:=[]) (cap:=[.pointer (some ⟨b3,0,none⟩),.pointer (some ⟨b4,0,none⟩)]) hR.ti
   (fun x hx w2 eC=>IP v x (hR.keeps eC) cG (hA.keeps eC) (ch f2 rfl eC))
 refine Ja rfl<|Jn<|Je<|JT ?_
 rfl
def jB (r:Ro) (v:Int) (o:ByteArray):ByteArray:=if r.sr.any (fun x=>decide (x.nm=gD r.po v (r.ti.length+1) o)) then gD r.po v (r.ti.length+1) o else ⟨#[]⟩
theorem oY {r:Ro} {s d t p:Value} (v:Int) (o:ByteArray) {w:World} (h:RR w r s d t p) (cG:r.ti.length≤1000000):aj Tryz.prog 126 [RA r s d t p,.int .i64 v,.string o] w (.string (jB r v o)):=by
 have h1:=Rd.one h.sr
 have h2:=Rd.one h.de
 have h3:=Rd.one h.ti
 have h4:=Rd.one h.po
 unfold RA
 refine ah Tryz.func126 rfl rfl ?_
 (refine Jr<|Jy rfl rfl fun _ _=>Ja rfl<|Ji<|Jv rfl<|Jz rfl rfl fun _ _=>aq (.of rfl) (.of rfl) .here rfl rfl (ed rfl) (bC rfl) an ?_;refine Jn<|Jq<|Jr<|ab (cz (.there .here)) rfl ?_;refine Jv rfl<|Jv rfl ?_)
 rename_i b3 sZ b7 TC
 refine JN eh rfl (fun w1 aS=>uD v o (h.keeps aS.keeps)) ?_
 intro y _
 dsimp only [id_eq,Zb,Za]
 refine Jn<|J0 ?_
 refine iY (ps:=[14]) (f:=222) (first:=[]) (cap:=[.pointer (some ⟨y.1,0,none⟩),.pointer (some ⟨y.2.1,0,none⟩),.pointer (some ⟨y.2.2,0,none⟩)]) (ι:=ByteArray) (κ:=Empty) (rst:=[JP b3 r s d t p]) ?hg
  [bA y.1 (.cells #[.string o] 9 (0,0)),JP y.2.1 r s d t p,bA y.2.2 (.cells #[.int .i64 v] 3 (0,0))] (vZ r.po v (r.ti.length+1) o) ?hit
  (fun k a=>lS r.po v k o=some a) (fun a=>[bA b7 (.cells #[.string a] 9 (0,0))])
  (fun _=>False) (fun _=>[]) (fun _=>.ret) o rfl ?ht ?hlen ?hps ?round ?kn ?kj
 case hg=>exact Is.of rfl
 case hit=>intro w' au;exact CD v o h RO.nil cG
 case ht=>
  dsimp only [Zb,Za]
  exact .cons cX (.cons .here (.cons .here (.cons .here .nil)))
 case hlen=>intro vs nY;obtain ⟨x,_,rfl⟩:=List.mem_map.1 nY;rfl
 case hps=>intro t ht;simp only [List.mem_cons,List.not_mem_nil,or_false] at ht;rcases ht with rfl;exact Nat.le_of_ble_eq_true rfl
 case kj=>
  intro y D hy
  exact hy.elim
 case kn=>
  intro a D hq
  rw [qK,QS,Option.some.injEq] at hq
  have tM:jB r v o=if r.sr.any (fun x=>decide (x.nm=a)) then a else ⟨#[]⟩:=by rw [← hq];rfl
  rw [tM]
  dsimp only [Zb,Za]
  (refine Jj<|Jt<|Jq<|Jr<|bF rfl rfl ae ?_;refine JL rfl eR rfl<|ab (bn .nil (.cons (.of rfl) .nil)) rfl ?_)
  with_reducible apply ai
  case hr=>exact aZ
  case hd=>rfl
  case hc=>
   intro w' au
   have f2:w'.cell? ⟨b7,0,none⟩=some (.string a):=At.lit (by exact .here) rfl w' au
   exact MD (f:=228) (p:=fun x=>decide (x.nm=a)) (first:=[]) (cap:=[.pointer (some ⟨b7,0,none⟩)]) (h.keeps au.keeps).sr
    (fun x hx w2 eC=>Dd x a (ch f2 rfl eC))
  cases r.sr.any (fun x=>decide (x.nm=a)) with
  | true =>
   (refine Jn<|cB (.of rfl) ?_;refine Jr<|JL rfl .here rfl<|Ja rfl<|Jn<|Ju ?_)
   first | with_reducible apply aM | with_reducible apply aN
   case he=>exact dp rfl rfl
   case hR=>exact fun w' au=>⟨rfl,au.keeps⟩
  | false =>
   (refine Jn<|bL (.of rfl) ?_;refine Jk<|Jr<|Ja rfl<|Jn<|Je ?_)
   first | with_reducible apply aM | with_reducible apply aN
   case he=>exact dp rfl rfl
   case hR=>exact fun w' au=>⟨rfl,au.keeps⟩
 case round=>
  intro l0 rc W fp k a0 vs hsz hk hq hB hF
  obtain ⟨a,hit,rfl,Bf⟩:=CC hk
  dsimp only [List.zip_cons_cons,List.zip_nil_right,lN,Zb,Za]
  refine Jg<|Ja rfl<|Jn ?_
  with_reducible apply lX
  case ht=>exact .here
  (refine J0<|Jg<|Jv rfl<|aq (.of rfl) (.of rfl) (.there .here) rfl rfl (ed rfl) (bC rfl) an ?_;refine Jx<|Jj ?_)
  apply lq a
  case ht=>exact Take.there .here
  case hx=>exact hit
  case h2=>
   exact .cons .here .nil
theorem qe {k k':ByteArray} {v:Value}:∀ {l:List (ByteArray×Value)},en k' (mm k v l)=if k'=k then some v else en k' l
 | []=>by simp [mm,en]
 | (x, u) :: r => by
  simp only [mm]
  split
  ·rename_i e;subst e;simp only [en];split <;> rfl
  ·rename_i e
   simp only [en]
   rw [qe]
   by_cases h:k'=x
   ·rw [if_pos h,if_pos h,if_neg (fun q=>e (q.symm.trans h))]
   ·rw [if_neg h,if_neg h]
theorem HI {α:Type} {l:List α} {key:α→ByteArray} {val:Nat→α→Value} {f:Nat→PM} (hs:∀ k (h:k<l.length),f (k+1)=mm (key l[k]) (val k l[k]) (f k)) (s:ByteArray) :
  (∀ k,k≤l.length→(∀ j (hj:j<l.length),j<k→key l[j]≠s)→en s (f k)=en s (f 0)) ∧
  (∀ k,k≤l.length→∀ i (hi:i<l.length),i<k→key l[i]=s→(∀ j (hj:j<l.length),i<j→j<k→key l[j]≠s)→en s (f k)=some (val i l[i])):=by
 constructor
 ·intro k
  induction k with
  | zero=>intro _ _;rfl
  | succ k ih =>
   intro hk hne
   rw [hs k (by omega),qe,if_neg (fun e=>hne k (by omega) (by omega) e.symm)]
   exact ih (by omega) fun j hj h=>hne j hj (by omega)
 ·intro k
  induction k with
  | zero=>intro _ i _ h;omega
  | succ k ih =>
   intro hk i hi RE he hne
   rw [hs k (by omega),qe]
   by_cases e:i=k
   ·subst e
    rw [if_pos he.symm]
   ·rw [if_neg (fun q=>hne k (by omega) (by omega) (by omega) q.symm)]
    exact ih (by omega) i hi (by omega) he fun j hj h h'=>hne j hj h (by omega)
theorem uL {α:Type} {l:List α} {key:α→ByteArray} {val:Nat→α→Value} {f:Nat→PM} (hs:∀ k (h:k<l.length),f (k+1)=mm (key l[k]) (val k l[k]) (f k)) (s:ByteArray) :
  (s ∉ l.map key→en s (f l.length)=en s (f 0))∧((l.map key).Nodup→∀ i (hi:i<l.length),key l[i]=s→en s (f l.length)=some (val i l[i])):=by
 obtain ⟨h1,h2⟩:=HI hs s
 constructor
 ·intro hn
  exact h1 _ (Nat.le_refl _) fun j hj _ e=>hn (List.mem_map.2 ⟨_,Zj hj,e⟩)
 ·intro hd i hi he
  refine h2 _ (Nat.le_refl _) i hi hi he fun j hj xE _ e=>?_
  have:=(List.pairwise_iff_getElem.1 hd) i j (by rw [Zd];exact hi) (by rw [Zd];exact hj) xE
  rw [List.getElem_map,List.getElem_map,he,e] at this
  exact this rfl
structure B3 (r:Ro):Prop where
 nd:(dZ r).Nodup
theorem B3.parts {r:Ro} (h:B3 r):(cm r).Nodup∧(ct r).Nodup∧(cQ r).Nodup∧(∀ s∈cm r,s ∉ ct r)∧(∀ s∈cm r,s ∉ cQ r)∧(∀ s∈ct r,s ∉ cQ r):=by
 have:=h.nd
 unfold dZ at this
 rw [List.nodup_append] at this
 obtain ⟨h1,h2,h3⟩:=this
 rw [List.nodup_append] at h1
 obtain ⟨h4,h5,h6⟩:=h1
 exact ⟨h4,h5,h2,fun s hs hd=>h6 s hs s hd rfl,fun s hs ht=>h3 s (List.mem_append_left _ hs) s ht rfl,fun s hs ht=>h3 s (List.mem_append_right _ hs) s ht rfl⟩
theorem dz {l:List ByteArray} {s:ByteArray} (h:s∈l):0≤bu l s:=by
 have:=(not_congr (cj (l:=l) (s:=s))).2 (not_not_intro h)
 omega
theorem rT {l:List ByteArray} {s:ByteArray} (hd:l.Nodup) {i:Nat} (h:i<l.length) (e:l[i]=s):bu l s=(i:Nat):=
 pQ h e fun j hj q=>by
  have:=(List.pairwise_iff_getElem.1 hd) j i (by omega) h hj
  exact this (q.trans e.symm)
theorem pF {r:Ro} (hd:B3 r) (s:ByteArray):en s (nO r)=if iK (dZ r) s then some (lg (dS r s) (ka r s) (jz r s)) else none:=by
 obtain ⟨n1,n2,n3,d1,d2,d3⟩:=hd.parts
 have hS:=uL (l:=r.sr) (key:=Sr.nm) (val:=fun _ x=>lg (-1) (-1) x.mx) (f:=vH r.sr) (fun k h=>Hk h) s
 have hD:=uL (l:=r.de) (key:=De.nm) (val:=fun k x=>lg (k:Nat) x.mx (-1)) (f:=BW (vH r.sr r.sr.length) r.de) (fun k h=>Hl h) s
 have hT:=uL (l:=r.ti) (key:=Ti.nm) (val:=fun k x=>lg ((r.de.length:Int)+(k:Nat)) x.fr x.to) (f:=Kw (BW (vH r.sr r.sr.length) r.de r.de.length) r.de.length r.ti) (fun k h=>Hj h) s
 change (s ∉ cQ r→en s (nO r)=en s (BW (vH r.sr r.sr.length) r.de r.de.length))∧((cQ r).Nodup→_) at hT
 change (s ∉ ct r→en s (BW (vH r.sr r.sr.length) r.de r.de.length)=en s (vH r.sr r.sr.length))∧((ct r).Nodup→_) at hD
 change (s ∉ cm r→en s (vH r.sr r.sr.length)=en s [])∧((cm r).Nodup→_) at hS
 have dU:iK (dZ r) s=true↔(s∈cm r∨s∈ct r)∨s∈cQ r:=by rw [fb];unfold dZ;rw [List.mem_append,List.mem_append]
 by_cases ht:s∈cQ r
 ·rw [if_pos (dU.2 (.inr ht))]
  obtain ⟨i,hi,e⟩:=List.getElem_of_mem ht
  have sY:i<r.ti.length:=by unfold cQ at hi;rwa [Zd] at hi
  have e':(r.ti[i]).nm=s:=by simpa [cQ] using e
  have hf:=rT n3 hi e
  have f1:bu (ct r) s<0:=cj.2 fun h=>d3 s h ht
  have f2:bu (cm r) s<0:=cj.2 fun h=>d2 s h ht
  refine (hT.2 n3 i sY e').trans ?_
  unfold dS ka jz
  rw [if_neg (by omega),if_pos (by rw [hf];omega),if_neg (by omega),if_pos (by rw [hf];omega),if_neg (by omega),if_pos (by rw [hf];omega),hf,Int.toNat_natCast,List.getD_eq_getElem?_getD,Zc sY]
  rfl
 ·rw [hT.1 ht]
  have f3:bu (cQ r) s<0:=cj.2 ht
  by_cases vK:s∈ct r
  ·rw [if_pos (dU.2 (.inl (.inr vK)))]
   obtain ⟨i,hi,e⟩:=List.getElem_of_mem vK
   have sY:i<r.de.length:=by unfold ct at hi;rwa [Zd] at hi
   have e':(r.de[i]).nm=s:=by simpa [ct] using e
   have hf:=rT n2 hi e
   have f2:bu (cm r) s<0:=cj.2 fun h=>d1 s h vK
   refine (hD.2 n2 i sY e').trans ?_
   unfold dS ka jz
   rw [if_pos (by rw [hf];omega),if_pos (by rw [hf];omega),if_neg (by omega),if_neg (by omega),hf,Int.toNat_natCast,List.getD_eq_getElem?_getD,Zc sY]
   rfl
  ·rw [hD.1 vK]
   have f1:bu (ct r) s<0:=cj.2 vK
   by_cases hs:s∈cm r
   ·rw [if_pos (dU.2 (.inl (.inl hs)))]
    obtain ⟨i,hi,e⟩:=List.getElem_of_mem hs
    have sY:i<r.sr.length:=by unfold cm at hi;rwa [Zd] at hi
    have e':(r.sr[i]).nm=s:=by simpa [cm] using e
    have hf:=rT n1 hi e
    refine (hS.2 n1 i sY e').trans ?_
    unfold dS ka jz
    rw [if_neg (by omega),if_neg (by omega),if_neg (by omega),if_neg (by omega),if_pos (by rw [hf];omega),hf,Int.toNat_natCast,List.getD_eq_getElem?_getD,Zc sY]
    rfl
   ·rw [hS.1 hs,if_neg (fun h=>by rcases dU.1 h with (h | h) | h <;> contradiction)]
    rfl
def j7 (x y:Int):Int:=if x<y then -1 else if y<x then 1 else 0
def lj:List Int→List Int→Int
 | [],[]=>0
 | [],_::_=>-1
 | _::_,[]=>1
 | x::a,y::b=>if j7 x y≠0 then j7 x y else lj a b
theorem iq {x y:Int}:j7 x y=0↔x=y:=by
 unfold j7
 split
 ·constructor <;> intro h <;> omega
 ·split <;> constructor <;> intro h <;> omega
theorem I1:∀ b:List Int,lj [] b=if 0<b.length then -1 else 0
 | []=>rfl
 | _::_=>rfl
theorem FP {a b:List Int} {k:Nat} (ha:k<a.length) (hb:k<b.length):lj (a.drop k) (b.drop k)=if j7 a[k] b[k]≠0 then j7 a[k] b[k] else lj (a.drop (k+1)) (b.drop (k+1)):=by
 rw [List.drop_eq_getElem_cons ha,List.drop_eq_getElem_cons hb];rfl
end Go.Proofs.A1
