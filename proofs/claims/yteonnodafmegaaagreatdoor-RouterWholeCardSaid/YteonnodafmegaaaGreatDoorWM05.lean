/- Parts of the proof: K5 K6 GkLook K7 K8 K9 K9q. -/
import Derived.Test.YteonnodafmegaaaGreatDoorWM04
import Derived.Test.YteonnodafmegaaaGreatDoorWM03
import Derived.Test.YteonnodafmegaaaGreatDoorWM02
set_option linter.unusedSectionVars false
set_option linter.unusedVariables false
set_option linter.unusedSimpArgs false
namespace Go.Proofs.A1
open Go Go.SL
theorem FZ {c:Cx} {D:List Nat} {sl:aH} {hs hs':List bd} {X:Act→World→Prop} {E:TypeId} {g:Nat} {xs:List Value} (n sz:Nat) (ht:Take hs (bH g (.cells xs.toArray E (0,0))) hs') (hl:xs.length=n*sz) (hn:Nat.ble n 1000=true)
  (k:Tr c D sl (row E sz (.slice (some ⟨g,0,none⟩) n n) n xs::hs') X):Tr c D sl hs X:=
 cN (cur:=[]) (by rw [ZU];exact ht) (Zz _) (by have:=Zav hn;unfold maxLen;omega) (by rw [ZU];exact hl) hl k
theorem bZ {c:Cx} {D:List Nat} {sl:aH} {hs hs':List bd} {X:Act→World→Prop} {E:TypeId} {g:Nat} {xs ys:List Value} (n sz:Nat) (ht:Take hs (bH g (.cells xs.toArray E (0,0))) hs') (he:xs=ys) (hl:ys.length=n*sz) (hn:Nat.ble n 1000=true)
  (k:Tr c D sl (row E sz (.slice (some ⟨g,0,none⟩) n n) n ys::hs') X):Tr c D sl hs X:=by
 subst he
 exact FZ n sz ht hl hn k
def jg (l:List ByteArray) (x:ByteArray):Bool:=l.any fun y=>decide (x=y)
theorem eV {l:List ByteArray} {x:ByteArray}:jg l x=true↔x∈l:=by
 unfold jg;rw [ZM]
 constructor
 ·rintro ⟨y,hy,h⟩
  rw [decide_eq_true_iff] at h;rw [h];exact hy
 ·intro h;exact ⟨x,h,by simp⟩
theorem IU {lv:Value} {l:List ByteArray} (x:ByteArray) {w:World} (h:Rd w lv 1 (im l)) :
  aj Tryz.prog 181 [lv,.string x] w (.int .i64 (fT (fun y=>decide (x=y)) l)):=by
 obtain ⟨a,cp,b,o,rfl,dj,bV,ha,hc⟩:=h
 rw [bW] at *
 unfold maxLen at bV
 refine ah Tryz.func181 rfl rfl ?_
 refine Jr<|Ja rfl<|Jn<|Jq<|Jr<|Jv rfl<|JI rfl<|Jv rfl<|Jn<|J0 ?_
 refine aW (fun k:Nat=>k≤l.length∧∀ i,i<k→(l[i]?.map fun y=>decide (x=y)).getD false=false) (fun k=>[(8,.int .i64 k),(7,.int .i64 l.length),(0,.slice a l.length cp),(1,.string x)]) (fun _=>[]) (fun k=>l.length-k) ?_ ?_
 ·apply aI 0 ⟨Zi _,fun i h=>by omega⟩
  case hs1=>exact cg
  case ht=>(try simp only [Ze,Zf,Za]);exact .nil
 rintro k ⟨hk,hf⟩
 by_cases aM:k<l.length
 ·have cG:=ha (lf aM)
  have c0:w.cell? ⟨b,o+k*1,none⟩=some (.string l[k]):=(hc k _ (ji aM)).2 0 _ rfl
  have hps:(l[k]?.map fun y=>decide (x=y)).getD false=decide (x=l[k]):=by simp [aM]
  (refine Jr<|JA rfl<|Jn<|Jq<|Jd rfl fun az=>Jk<|Jq<|J0<|Jr<|Jv rfl<|Ja rfl<|Ji<|Jv rfl<|Jv rfl<|Jv rfl<|ab (fM cG az) rfl<|ab (ag (.of rfl) (At.base c0 rfl)) rfl<|ab (dG (.of rfl) (.of rfl)) rfl<|Jn<|gm rfl (fun az=>?_) fun az=>?_;refine Jr<|Jv rfl<|Ja rfl<|Jn<|Je<|Jm<|Jh<|Jh<|Jm<|Jh<|JT ?_;rotate_left;refine Jw<|Jj<|Jt<|Jg<|JB rfl (by omega)<|Jv rfl<|Jn ?_;rotate_right)
  ·rw [gy hf aM (by simpa using az)]
  ·apply aK (k+1) ⟨by omega,fun i hi=>by
    by_cases e:i=k
    ·rw [e,hps];simpa using az
    ·exact hf i (by omega)⟩ (by omega)
   case hs1=>exact cg
   case ht=>(try simp only [Ze,Zf,Za]);exact .nil
 ·obtain rfl:k=l.length:=by omega
  refine Jr<|JA rfl<|Jn<|Jq<|Jc rfl fun az=>Jp<|Jl<|Jo<|Jt<|Jr<|Ja rfl<|Jn<|Je<|JT ?_
  rw [fA hf]
theorem oO {lv:Value} {l:List ByteArray} (x:ByteArray) {w:World} (h:Rd w lv 1 (im l)) :
  aj Tryz.prog 179 [lv,.string x] w (.bool (jg l x)):=by
 have iT:∀ w',aJ [] w w'→aj Tryz.prog 181 [lv,.string x] w' (.int .i64 (fT (fun y=>decide (x=y)) l)):=fun w' hk=>IU x (h.keeps hk)
 have e:jg l x=l.any fun y=>decide (x=y):=rfl
 rw [e,← je]
 refine ah Tryz.func179 rfl rfl ?_
 (refine Jr<|Ja rfl<|Ji<|Jv rfl<|Jv rfl<|ai bj rfl (fun w' aA=>(iT w' (Mem.keeps aA)))<|JG rfl<|Ja rfl<|Jn<|Je<|JT ?_)
 rfl
theorem Nc {lv:Value} {l:List Int} (x:Int) {w:World} (h:Rd w lv 1 (ints l)) :
  aj Tryz.prog 241 [lv,.int .i64 x] w (.int .i64 (fT (fun y=>decide (x=y)) l)):=by
 obtain ⟨a,cp,b,o,rfl,dj,bV,ha,hc⟩:=h
 rw [c8] at *
 unfold maxLen at bV
 refine ah Tryz.func241 rfl rfl ?_
 refine Jr<|Ja rfl<|Jn<|Jq<|Jr<|Jv rfl<|JI rfl<|Jv rfl<|Jn<|J0 ?_
 refine aW (fun k:Nat=>k≤l.length∧∀ i,i<k→(l[i]?.map fun y=>decide (x=y)).getD false=false) (fun k=>[(8,.int .i64 k),(7,.int .i64 l.length),(0,.slice a l.length cp),(1,.int .i64 x)]) (fun _=>[]) (fun k=>l.length-k) ?_ ?_
 ·apply aI 0 ⟨Zi _,fun i h=>by omega⟩
  case hs1=>exact cg
  case ht=>(try simp only [Ze,Zf,Za]);exact .nil
 rintro k ⟨hk,hf⟩
 by_cases aM:k<l.length
 ·have cG:=ha (jC aM)
  have c0:w.cell? ⟨b,o+k*1,none⟩=some (.int .i64 l[k]):=(hc k _ (ib aM)).2 0 _ rfl
  have hps:(l[k]?.map fun y=>decide (x=y)).getD false=decide (x=l[k]):=by simp [aM]
  (refine Jr<|JA rfl<|Jn<|Jq<|Jd rfl fun az=>Jk<|Jq<|J0<|Jr<|Jv rfl<|Ja rfl<|Ji<|Jv rfl<|Jv rfl<|Jv rfl<|ab (fM cG az) rfl<|ab (ag (.of rfl) (At.base c0 rfl)) rfl<|JC rfl<|Jn<|gm rfl (fun az=>?_) fun az=>?_;refine Jr<|Jv rfl<|Ja rfl<|Jn<|Je<|Jm<|Jh<|Jh<|Jm<|Jh<|JT ?_;rotate_left;refine Jw<|Jj<|Jt<|Jg<|JB rfl (by omega)<|Jv rfl<|Jn ?_;rotate_right)
  ·rw [gy hf aM (by simpa using az)]
  ·apply aK (k+1) ⟨by omega,fun i hi=>by
    by_cases e:i=k
    ·rw [e,hps];simpa using az
    ·exact hf i (by omega)⟩ (by omega)
   case hs1=>exact cg
   case ht=>(try simp only [Ze,Zf,Za]);exact .nil
 ·obtain rfl:k=l.length:=by omega
  refine Jr<|JA rfl<|Jn<|Jq<|Jc rfl fun az=>Jp<|Jl<|Jo<|Jt<|Jr<|Ja rfl<|Jn<|Je<|JT ?_
  rw [fA hf]
theorem ly {lv:Value} {l:List Int} (x:Int) {w:World} (h:Rd w lv 1 (ints l)) :
  aj Tryz.prog 154 [lv,.int .i64 x] w (.bool (l.contains x)):=by
 have iT:∀ w',aJ [] w w'→aj Tryz.prog 241 [lv,.int .i64 x] w' (.int .i64 (fT (fun y=>decide (x=y)) l)):=fun w' hk=>Nc x (h.keeps hk)
 have e:l.contains x=l.any fun y=>decide (x=y):=by
  rw [List.contains_eq_any_beq];rfl
 rw [e,← je]
 refine ah Tryz.func154 rfl rfl ?_
 (refine Jr<|Ja rfl<|Ji<|Jv rfl<|Jv rfl<|ai bj rfl (fun w' aA=>(iT w' (Mem.keeps aA)))<|JG rfl<|Ja rfl<|Jn<|Je<|JT ?_)
 rfl
theorem vU {lv:Value} {l:List ByteArray} {w:World} (h:Rd w lv 1 (im l)) (hl:l.length≤1000) :
  bu Tryz.prog 234 [lv] w [] (fun _:Value=>True) id (fun v=>[row 9 1 v l.length (aL l)]):=by
 have h':=h
 obtain ⟨a,cp,b,o,rfl,dj,bV,ha,hc⟩:=h
 refine aS Tryz.func234 rfl rfl ?_
 cases a with
 | none =>
  have qk:l=[]:=by
   cases l with
   | nil=>rfl
   | cons x r=>exact absurd (ha (by simp [im])) (by simp)
  subst qk
  (refine Jr<|Ja rfl<|Jn<|Jq<|Jr<|Jv rfl<|ab (gD (.of rfl) (.of rfl)) rfl<|Jn<|cP (.of rfl)<|Jr<|Ja rfl<|Jn<|Ju ?_)
  refine aQ 9 1 ?_
  first | with_reducible apply aO | with_reducible apply aP
  case he=>exact dH rfl rfl
  case hR=>
   intro w' aA
   exact aG (.slice none 0 0) trivial (by exact .cons .here .nil) aA rfl
 | some ad =>
  (refine Jr<|Ja rfl<|Jn<|Jq<|Jr<|Jv rfl<|ab (gD (.of rfl) (.of rfl)) rfl<|Jn<|bK (.of rfl)<|Jk<|Jr<|br (aC .nil rfl rfl rfl rfl) rfl fun _ _=>Jv rfl ?_)
  rename_i bq nq
  refine bZ (g:=bq) (E:=9) (ys:=[]) 0 1 (by exact .here) rfl rfl rfl ?_
  with_reducible apply gY
  case hx=>exact Is.of rfl
  case hy=>exact Is.of rfl
  case ht=>exact .here
  case hsrc=>exact fun w' aA=>h'.keeps aA.keeps
  case h1=>exact zh l
  case hz=>exact rfl
  case hsz=>exact rfl
  case hb0=>exact rfl
  case hb=>rw [bW];omega
  case hd=>rfl
  intro v'
  rw [bW,← qS,ZC,Za]
  refine Ja rfl<|Jn<|Je ?_
  first | with_reducible apply aO | with_reducible apply aP
  case he=>exact dH rfl rfl
  case hR=>
   intro w' aA
   exact aG v' trivial (by exact .cons .here .nil) aA rfl
theorem Mk (l:List Sr):nZ l=(uL l).flatten:=rfl
theorem GU {lv:Value} {l:List Sr} {w:World} (h:Rd w lv 2 (uL l)) (hl:l.length≤1000) :
  bu Tryz.prog 266 [lv] w [] (fun _:Value=>True) id (fun v=>[row 186 2 v l.length (nZ l)]):=by
 have h':=h
 obtain ⟨a,cp,b,o,rfl,dj,bV,ha,hc⟩:=h
 refine aS Tryz.func266 rfl rfl ?_
 cases a with
 | none =>
  have qk:l=[]:=by
   cases l with
   | nil=>rfl
   | cons x r=>exact absurd (ha (by simp [uL])) (by simp)
  subst qk
  (refine Jr<|Ja rfl<|Jn<|Jq<|Jr<|Jv rfl<|ab (gD (.of rfl) (.of rfl)) rfl<|Jn<|cP (.of rfl)<|Jr<|Ja rfl<|Jn<|Ju ?_)
  refine aQ 186 2 ?_
  first | with_reducible apply aO | with_reducible apply aP
  case he=>exact dH rfl rfl
  case hR=>
   intro w' aA
   exact aG (.slice none 0 0) trivial (by exact .cons .here .nil) aA rfl
 | some ad =>
  (refine Jr<|Ja rfl<|Jn<|Jq<|Jr<|Jv rfl<|ab (gD (.of rfl) (.of rfl)) rfl<|Jn<|bK (.of rfl)<|Jk<|Jr ?_)
  with_reducible apply br
  case hr=>exact kK
  case hd=>rfl
  intro bq nq
  refine Lq rfl rfl ?_
  refine bZ (g:=bq) (E:=186) (ys:=[]) 0 2 (by exact .here) rfl rfl rfl ?_
  with_reducible apply gY
  case hx=>exact Is.of rfl
  case hy=>exact Is.of rfl
  case ht=>exact .here
  case hsrc=>exact fun w' aA=>h'.keeps aA.keeps
  case h1=>exact Mm l
  case hz=>exact rfl
  case hsz=>exact rfl
  case hb0=>exact rfl
  case hb=>rw [cO];omega
  case hd=>rfl
  intro v'
  rw [cO,ZC,Za,← Mk]
  refine Ja rfl<|Jn<|Je ?_
  first | with_reducible apply aO | with_reducible apply aP
  case he=>exact dH rfl rfl
  case hR=>
   intro w' aA
   exact aG v' trivial (by exact .cons .here .nil) aA rfl
theorem N1 (l:List De):iZ l=(uy l).flatten:=rfl
theorem GW {lv:Value} {l:List De} {w:World} (h:Rd w lv 3 (uy l)) (hl:l.length≤1000) :
  bu Tryz.prog 267 [lv] w [] (fun _:Value=>True) id (fun v=>[row 90 3 v l.length (iZ l)]):=by
 have h':=h
 obtain ⟨a,cp,b,o,rfl,dj,bV,ha,hc⟩:=h
 refine aS Tryz.func267 rfl rfl ?_
 cases a with
 | none =>
  have qk:l=[]:=by
   cases l with
   | nil=>rfl
   | cons x r=>exact absurd (ha (by simp [uy])) (by simp)
  subst qk
  (refine Jr<|Ja rfl<|Jn<|Jq<|Jr<|Jv rfl<|ab (gD (.of rfl) (.of rfl)) rfl<|Jn<|cP (.of rfl)<|Jr<|Ja rfl<|Jn<|Ju ?_)
  refine aQ 90 3 ?_
  first | with_reducible apply aO | with_reducible apply aP
  case he=>exact dH rfl rfl
  case hR=>
   intro w' aA
   exact aG (.slice none 0 0) trivial (by exact .cons .here .nil) aA rfl
 | some ad =>
  (refine Jr<|Ja rfl<|Jn<|Jq<|Jr<|Jv rfl<|ab (gD (.of rfl) (.of rfl)) rfl<|Jn<|bK (.of rfl)<|Jk<|Jr ?_)
  with_reducible apply br
  case hr=>exact kK
  case hd=>rfl
  intro bq nq
  refine Lq rfl rfl ?_
  refine bZ (g:=bq) (E:=90) (ys:=[]) 0 3 (by exact .here) rfl rfl rfl ?_
  with_reducible apply gY
  case hx=>exact Is.of rfl
  case hy=>exact Is.of rfl
  case ht=>exact .here
  case hsrc=>exact fun w' aA=>h'.keeps aA.keeps
  case h1=>exact N3 l
  case hz=>exact rfl
  case hsz=>exact rfl
  case hb0=>exact rfl
  case hb=>rw [cn];omega
  case hd=>rfl
  intro v'
  rw [cn,ZC,Za,← N1]
  refine Ja rfl<|Jn<|Je ?_
  first | with_reducible apply aO | with_reducible apply aP
  case he=>exact dH rfl rfl
  case hR=>
   intro w' aA
   exact aG v' trivial (by exact .cons .here .nil) aA rfl
theorem L7 (l:List Ti):pV l=(tX l).flatten:=rfl
theorem GS {lv:Value} {l:List Ti} {w:World} (h:Rd w lv 3 (tX l)) (hl:l.length≤1000) :
  bu Tryz.prog 268 [lv] w [] (fun _:Value=>True) id (fun v=>[row 187 3 v l.length (pV l)]):=by
 have h':=h
 obtain ⟨a,cp,b,o,rfl,dj,bV,ha,hc⟩:=h
 refine aS Tryz.func268 rfl rfl ?_
 cases a with
 | none =>
  have qk:l=[]:=by
   cases l with
   | nil=>rfl
   | cons x r=>exact absurd (ha (by simp [tX])) (by simp)
  subst qk
  (refine Jr<|Ja rfl<|Jn<|Jq<|Jr<|Jv rfl<|ab (gD (.of rfl) (.of rfl)) rfl<|Jn<|cP (.of rfl)<|Jr<|Ja rfl<|Jn<|Ju ?_)
  refine aQ 187 3 ?_
  first | with_reducible apply aO | with_reducible apply aP
  case he=>exact dH rfl rfl
  case hR=>
   intro w' aA
   exact aG (.slice none 0 0) trivial (by exact .cons .here .nil) aA rfl
 | some ad =>
  (refine Jr<|Ja rfl<|Jn<|Jq<|Jr<|Jv rfl<|ab (gD (.of rfl) (.of rfl)) rfl<|Jn<|bK (.of rfl)<|Jk<|Jr ?_)
  with_reducible apply br
  case hr=>exact kK
  case hd=>rfl
  intro bq nq
  refine Lq rfl rfl ?_
  refine bZ (g:=bq) (E:=187) (ys:=[]) 0 3 (by exact .here) rfl rfl rfl ?_
  with_reducible apply gY
  case hx=>exact Is.of rfl
  case hy=>exact Is.of rfl
  case ht=>exact .here
  case hsrc=>exact fun w' aA=>h'.keeps aA.keeps
  case h1=>exact L9 l
  case hz=>exact rfl
  case hsz=>exact rfl
  case hb0=>exact rfl
  case hb=>rw [cd];omega
  case hd=>rfl
  intro v'
  rw [cd,ZC,Za,← L7]
  refine Ja rfl<|Jn<|Je ?_
  first | with_reducible apply aO | with_reducible apply aP
  case he=>exact dH rfl rfl
  case hR=>
   intro w' aA
   exact aG v' trivial (by exact .cons .here .nil) aA rfl
theorem zG (l:List Po):fO l=(td l).flatten:=rfl
theorem M3 {lv:Value} {l:List Sr} {g:Sr→ByteArray} {f:FuncId} {first cap:List Value} [bR Tryz.prog f] {w:World} (h:Rd w lv 2 (uL l)) (hn:l.length≤1000000)
  (cz:∀ x∈l,∀ w',aJ [] w w'→aj Tryz.prog f (first++[.agg x.cells.toArray]++cap) w' (.string (g x))) :
  bu Tryz.prog 140 [lv,.func (.func f) first.toArray cap.toArray] w [] (fun _:Value=>True) id (fun v=>[row 9 1 v l.length (aL (l.map g))]):=by
 obtain ⟨a,cp,b,o,rfl,dj,bV,ha,hc⟩:=h
 rw [cO] at *
 unfold maxLen at bV
 refine aS Tryz.func140 rfl rfl ?_
 refine Jr<|Ja rfl<|Ji<|Ja rfl<|Jn<|Jq<|Jr<|Jv rfl<|JI rfl<|Jv rfl<|Jn<|J0 ?_
 refine aQ 9 1 ?_
 refine aW (ι:=Nat×Value) (fun x=>x.1≤l.length) (fun x=>[(10,.int .i64 x.1),(9,.int .i64 l.length),(8,.slice a l.length cp),(5,x.2),(1,.func (.func f) first.toArray cap.toArray)]) (fun x=>[row 9 1 x.2 x.1 (aL ((l.take x.1).map g))]) (fun x=>l.length-x.1) ?_ ?_
 ·apply aI (0,.slice none 0 0) (Zi _)
  case hs1=>exact cg
  case ht=>
   exact .cons .here .nil
 rintro ⟨k,v⟩ hk
 dsimp only at hk ⊢
 by_cases aM:k<l.length
 ·have cG:=ha (iM aM)
  have aB:=(hc k _ (fN aM)).2
  have iT:=cz _ (Zj aM)
  have I4:aL ((l.take (k+1)).map g)=aL ((l.take k).map g)++[.string (g l[k])]:=by
   rw [Zn aM,Zs,eU];rfl
  generalize g l[k]=gk at iT I4
  unfold Sr.cells at aB iT
  (refine Jr<|JA rfl<|Jn<|Jq<|Jd rfl fun az=>Jk<|Jq<|J0<|Jr<|ab (fM cG az) rfl<|ab (gW (ew.base aB rfl)) rfl<|Jz rfl rfl fun _ _=>aq (.of rfl) (.of rfl) .here rfl rfl (fY rfl rfl) (bG rfl) ak<|Jn<|Jg<|Jv rfl<|Jv rfl<|ab (cR .here) rfl ?_)
  refine ai bN rfl (fun w' aA=>(iT w' (Mem.keeps aA))) ?_
  refine br (aC (.cons (.of rfl) .nil) rfl rfl rfl rfl) rfl (fun _ _=>?_)
  refine bF (.of rfl) (.of rfl) bL .here ak (by rfl) (en rfl) (by rfl) (by rfl) (by rfl) eC (by rfl) ?_
  intro v'
  refine Ja rfl<|Jx<|Jj<|Jt<|Jg<|JB rfl (by omega)<|Jv rfl<|Jn ?_
  apply aK (k+1,v') (by show k+1≤l.length;omega) (by show l.length-(k+1)<l.length-k;omega)
  case hs1=>exact cg
  case ht=>
   show bD _ [row 9 1 v' (k+1) (aL ((l.take (k+1)).map g))] _
   rw [I4]
   exact .cons .here .nil
 ·obtain rfl:k=l.length:=by omega
  rw [ZN]
  refine Jr<|JA rfl<|Jn<|Jq<|Jc rfl fun az=>Jp<|Jl<|Jo<|Jt<|Jr<|Jv rfl<|Ja rfl<|Jn<|Je ?_
  first | with_reducible apply aO | with_reducible apply aP
  case he=>exact dH rfl rfl
  case hR=>
   intro w' aA
   exact aG v trivial (by exact .cons .here .nil) aA rfl
theorem E0 {lv:Value} {l:List De} {g:De→ByteArray} {f:FuncId} {first cap:List Value} [bR Tryz.prog f] {w:World} (h:Rd w lv 3 (uy l)) (hn:l.length≤1000000)
  (cz:∀ x∈l,∀ w',aJ [] w w'→aj Tryz.prog f (first++[.agg x.cells.toArray]++cap) w' (.string (g x))) :
  bu Tryz.prog 143 [lv,.func (.func f) first.toArray cap.toArray] w [] (fun _:Value=>True) id (fun v=>[row 9 1 v l.length (aL (l.map g))]):=by
 obtain ⟨a,cp,b,o,rfl,dj,bV,ha,hc⟩:=h
 rw [cn] at *
 unfold maxLen at bV
 refine aS Tryz.func143 rfl rfl ?_
 refine Jr<|Ja rfl<|Ji<|Ja rfl<|Jn<|Jq<|Jr<|Jv rfl<|JI rfl<|Jv rfl<|Jn<|J0 ?_
 refine aQ 9 1 ?_
 refine aW (ι:=Nat×Value) (fun x=>x.1≤l.length) (fun x=>[(10,.int .i64 x.1),(9,.int .i64 l.length),(8,.slice a l.length cp),(5,x.2),(1,.func (.func f) first.toArray cap.toArray)]) (fun x=>[row 9 1 x.2 x.1 (aL ((l.take x.1).map g))]) (fun x=>l.length-x.1) ?_ ?_
 ·apply aI (0,.slice none 0 0) (Zi _)
  case hs1=>exact cg
  case ht=>
   exact .cons .here .nil
 rintro ⟨k,v⟩ hk
 dsimp only at hk ⊢
 by_cases aM:k<l.length
 ·have cG:=ha (fW aM)
  have aB:=(hc k _ (eR aM)).2
  have iT:=cz _ (Zj aM)
  have I4:aL ((l.take (k+1)).map g)=aL ((l.take k).map g)++[.string (g l[k])]:=by
   rw [Zn aM,Zs,eU];rfl
  generalize g l[k]=gk at iT I4
  unfold De.cells at aB iT
  (refine Jr<|JA rfl<|Jn<|Jq<|Jd rfl fun az=>Jk<|Jq<|J0<|Jr<|ab (fM cG az) rfl<|ab (gW (ew.base aB rfl)) rfl<|Jz rfl rfl fun _ _=>aq (.of rfl) (.of rfl) .here rfl rfl (fo rfl rfl rfl) (bG rfl) ak<|Jn<|Jg<|Jv rfl<|Jv rfl<|ab (cR .here) rfl ?_)
  refine ai bN rfl (fun w' aA=>(iT w' (Mem.keeps aA))) ?_
  refine br (aC (.cons (.of rfl) .nil) rfl rfl rfl rfl) rfl (fun _ _=>?_)
  refine bF (.of rfl) (.of rfl) bL .here ak (by rfl) (en rfl) (by rfl) (by rfl) (by rfl) eC (by rfl) ?_
  intro v'
  refine Ja rfl<|Jx<|Jj<|Jt<|Jg<|JB rfl (by omega)<|Jv rfl<|Jn ?_
  apply aK (k+1,v') (by show k+1≤l.length;omega) (by show l.length-(k+1)<l.length-k;omega)
  case hs1=>exact cg
  case ht=>
   show bD _ [row 9 1 v' (k+1) (aL ((l.take (k+1)).map g))] _
   rw [I4]
   exact .cons .here .nil
 ·obtain rfl:k=l.length:=by omega
  rw [ZN]
  refine Jr<|JA rfl<|Jn<|Jq<|Jc rfl fun az=>Jp<|Jl<|Jo<|Jt<|Jr<|Jv rfl<|Ja rfl<|Jn<|Je ?_
  first | with_reducible apply aO | with_reducible apply aP
  case he=>exact dH rfl rfl
  case hR=>
   intro w' aA
   exact aG v trivial (by exact .cons .here .nil) aA rfl
theorem M1 {lv:Value} {l:List Ti} {g:Ti→ByteArray} {f:FuncId} {first cap:List Value} [bR Tryz.prog f] {w:World} (h:Rd w lv 3 (tX l)) (hn:l.length≤1000000)
  (cz:∀ x∈l,∀ w',aJ [] w w'→aj Tryz.prog f (first++[.agg x.cells.toArray]++cap) w' (.string (g x))) :
  bu Tryz.prog 178 [lv,.func (.func f) first.toArray cap.toArray] w [] (fun _:Value=>True) id (fun v=>[row 9 1 v l.length (aL (l.map g))]):=by
 obtain ⟨a,cp,b,o,rfl,dj,bV,ha,hc⟩:=h
 rw [cd] at *
 unfold maxLen at bV
 refine aS Tryz.func178 rfl rfl ?_
 refine Jr<|Ja rfl<|Ji<|Ja rfl<|Jn<|Jq<|Jr<|Jv rfl<|JI rfl<|Jv rfl<|Jn<|J0 ?_
 refine aQ 9 1 ?_
 refine aW (ι:=Nat×Value) (fun x=>x.1≤l.length) (fun x=>[(10,.int .i64 x.1),(9,.int .i64 l.length),(8,.slice a l.length cp),(5,x.2),(1,.func (.func f) first.toArray cap.toArray)]) (fun x=>[row 9 1 x.2 x.1 (aL ((l.take x.1).map g))]) (fun x=>l.length-x.1) ?_ ?_
 ·apply aI (0,.slice none 0 0) (Zi _)
  case hs1=>exact cg
  case ht=>
   exact .cons .here .nil
 rintro ⟨k,v⟩ hk
 dsimp only at hk ⊢
 by_cases aM:k<l.length
 ·have cG:=ha (fw aM)
  have aB:=(hc k _ (eE aM)).2
  have iT:=cz _ (Zj aM)
  have I4:aL ((l.take (k+1)).map g)=aL ((l.take k).map g)++[.string (g l[k])]:=by
   rw [Zn aM,Zs,eU];rfl
  generalize g l[k]=gk at iT I4
  unfold Ti.cells at aB iT
  (refine Jr<|JA rfl<|Jn<|Jq<|Jd rfl fun az=>Jk<|Jq<|J0<|Jr<|ab (fM cG az) rfl<|ab (gW (ew.base aB rfl)) rfl<|Jz rfl rfl fun _ _=>aq (.of rfl) (.of rfl) .here rfl rfl (fo rfl rfl rfl) (bG rfl) ak<|Jn<|Jg<|Jv rfl<|Jv rfl<|ab (cR .here) rfl ?_)
  refine ai bN rfl (fun w' aA=>(iT w' (Mem.keeps aA))) ?_
  refine br (aC (.cons (.of rfl) .nil) rfl rfl rfl rfl) rfl (fun _ _=>?_)
  refine bF (.of rfl) (.of rfl) bL .here ak (by rfl) (en rfl) (by rfl) (by rfl) (by rfl) eC (by rfl) ?_
  intro v'
  refine Ja rfl<|Jx<|Jj<|Jt<|Jg<|JB rfl (by omega)<|Jv rfl<|Jn ?_
  apply aK (k+1,v') (by show k+1≤l.length;omega) (by show l.length-(k+1)<l.length-k;omega)
  case hs1=>exact cg
  case ht=>
   show bD _ [row 9 1 v' (k+1) (aL ((l.take (k+1)).map g))] _
   rw [I4]
   exact .cons .here .nil
 ·obtain rfl:k=l.length:=by omega
  rw [ZN]
  refine Jr<|JA rfl<|Jn<|Jq<|Jc rfl fun az=>Jp<|Jl<|Jo<|Jt<|Jr<|Jv rfl<|Ja rfl<|Jn<|Je ?_
  first | with_reducible apply aO | with_reducible apply aP
  case he=>exact dH rfl rfl
  case hR=>
   intro w' aA
   exact aG v trivial (by exact .cons .here .nil) aA rfl
theorem NL (n:Nat) (hn:n≤1000) (w:World):bu Tryz.prog 235 [.slice none 0 0,.int .i64 (n:Int)] w [] (fun _:Value=>True) id (fun v=>[row 9 1 v 0 []]):=by
 refine aS Tryz.func235 rfl rfl ?_
 (refine Jr<|Ja rfl<|Jn<|Jq<|Jr<|Jv rfl<|JA rfl<|Jn<|Jc rfl fun az=>Jk<|Jq<|Jr<|Jv rfl<|Jv rfl<|ab (q5 (.of rfl)) rfl<|Jv rfl<|JI rfl<|JS rfl (by omega)<|JS rfl (by omega)<|Ja rfl<|Ji<|Jv rfl<|JE rfl<|Jn<|gm rfl (fun az=>?_) fun az=>?_;refine Jg<|Jv rfl<|Jv rfl<|ab (q5 (.of rfl)) rfl<|ab (hY (.of rfl) (.of rfl) (by omega) (by omega)) rfl<|Jv rfl ?_;rotate_left;refine Jk<|Jr<|Jv rfl<|Ja rfl<|Jn<|Je ?_;rotate_right)
 ·rw [show (n:Int)-(((0:Nat):Int)-((0:Nat):Int))=(n:Int) by omega]
  with_reducible apply C6
  case hx=>exact Is.of rfl
  case hy=>exact Is.of rfl
  case h0=>omega
  case hz=>exact rfl
  case hsz=>exact rfl
  case hb0=>exact rfl
  case hb=>omega
  case hd=>rfl
  intro v'
  refine cU (E:=9) (sz:=1) (by exact .here) (by omega) fun g gL cur e oJ Gy DM B5=>?_
  subst e
  (refine Jv rfl<|JI rfl<|ab (hY (.of rfl) (.of rfl) (by omega) (by omega)) rfl<|Ja rfl<|Ji<|Jv rfl<|Ja rfl<|Jn<|Je ?_)
  rw [show Go.sliced (some ⟨g,0,none⟩) 0 (((0:Nat):Int)).toNat gL 1=.slice (some ⟨g,0,none⟩) 0 gL from Bg g gL 1]
  skip
  generalize hA:_++cur=al at DM ⊢
  refine cN (n:=0) (xs:=[]) (cur:=al) (cap:=gL) (g:=g) (E:=9) (sz:=1) (by rw [Za];exact .here) (Zi _) Gy DM rfl ?_
  first | with_reducible apply aO | with_reducible apply aP
  case he=>exact dH rfl rfl
  case hR=>
   intro w' aA
   exact aG (.slice (some ⟨g,0,none⟩) 0 gL) trivial (by exact .cons .here .nil) aA rfl
 ·refine aQ 9 1 ?_
  first | with_reducible apply aO | with_reducible apply aP
  case he=>exact dH rfl rfl
  case hR=>
   intro w' aA
   exact aG (.slice none 0 0) trivial (by exact .cons .here .nil) aA rfl
theorem Mg (a b:List ByteArray):im (a++b)=im a++im b:=by simp [im]
theorem rX {α:Type} {l:List (List α)} {k:Nat} (h:k<l.length):(l.take (k+1)).flatten=(l.take k).flatten++l[k]:=by
 rw [List.take_add_one,Zc h,Zac];simp
theorem Fu {α:Type} (l:List (List α)) (k:Nat):(l.take k).flatten.length≤l.flatten.length:=by
 conv=>rhs;rw [← ZZ k l]
 rw [Zac,Zg];omega
theorem Bh {α:Type} {l:List α} {k:Nat} (h:k<l.length):(l.map fun v=>[v])[k]? = some [l[k]]:=by simp [h]
theorem GQ {lv:Value} {vs:List Value} {ess:List (List ByteArray)} {w:World} (h:Rd w lv 1 (vs.map fun v=>[v])) (hl:vs.length=ess.length) (hr:∀ (i:Nat) (v:Value) (es:List ByteArray),vs[i]? = some v→ess[i]? = some es→Rd w v 1 (im es)) (hn:ess.flatten.length≤1000) :
  bu Tryz.prog 142 [lv] w [] (fun _:Value=>True) id (fun v=>[row 9 1 v ess.flatten.length (im ess.flatten).flatten]):=by
 obtain ⟨a,cp,b,o,rfl,dj,bV,ha,hc⟩:=h
 rw [Zd] at *
 unfold maxLen at bV
 refine aS Tryz.func142 rfl rfl ?_
 refine Jr<|Ja rfl<|Ji<|Ja rfl<|Jn<|Jq<|Jr<|Jv rfl<|JI rfl<|Jv rfl<|Jn<|J0 ?_
 refine aW (ι:=Nat) (fun k=>k≤vs.length) (fun k=>[(11,.int .i64 k),(10,.int .i64 vs.length),(9,.slice a vs.length cp),(0,.slice a vs.length cp),(3,.int .i64 (((ess.take k).flatten.length:Nat):Int))]) (fun _=>[]) (fun k=>vs.length-k) ?_ ?_
 ·apply aI (0:Nat) (show (0:Nat)≤vs.length from Zi _)
  case hs1=>exact cg
  case ht=>(try simp only [Ze,Zf,Za]);exact .nil
 intro k hk
 by_cases aM:k<vs.length
 ·have ep:k<ess.length:=by omega
  have cG:=ha (by intro e;have:=congrArg List.length e;simp at this;subst this;simp at aM)
  have TV:=hr k _ _ (Zc aM) (Zc ep)
  obtain ⟨a1,er,b1,o1,e1,_⟩:=TV
  rw [bW] at e1
  have c0:w.cell? ⟨b,o+k*1,none⟩=some (.slice a1 ess[k].length er):=by rw [← e1];exact (hc k _ (Bh aM)).2 0 _ rfl
  have sy:=Fu ess (k+1)
  have hs:((ess.take (k+1)).flatten.length:Int)=(ess.take k).flatten.length+ess[k].length:=by rw [rX ep,Zg];omega
  (refine Jr<|JA rfl<|Jn<|Jq<|Jd rfl fun az=>Jk<|Jq<|J0<|Jr<|ab (fM cG az) rfl<|ab (ag (.of rfl) (At.base c0 rfl)) rfl<|Ja rfl<|Ji<|Jv rfl<|Jv rfl<|JI rfl<|JB rfl (by omega)<|Ja rfl<|Ji<|Jv rfl<|JA rfl<|Jn<|Jc rfl fun az=>Jw<|Jj<|Jt<|Jg<|JB rfl (by omega)<|Jv rfl<|Jn ?_)
  apply aK (k+1) (show k+1≤vs.length by omega) (show vs.length-(k+1)<vs.length-k by omega)
  case hs1=>
   rw [hs]
   exact .cons rfl (.cons rfl (.cons rfl (.cons rfl (.cons rfl .nil))))
  case ht=>exact .nil
 ·obtain rfl:k=vs.length:=by omega
  rw [show ess.take vs.length=ess by rw [hl,ZN]]
  refine Jr<|JA rfl<|Jn<|Jq<|Jc rfl fun az=>Jp<|Jl<|Jo<|Jt<|Jr<|Jv rfl ?_
  refine JN bj rfl (fun w1 aR=>NL _ hn _) ?_
  intro v0 _
  dsimp only [id_eq,Zb,Za]
  refine Ja rfl<|Jn<|Jq<|Jr<|Jv rfl<|JI rfl<|Jv rfl<|Jn<|J0 ?_
  refine aW (ι:=Nat×Value) (fun x=>x.1≤vs.length) (fun x=>[(27,.int .i64 x.1),(26,.int .i64 vs.length),(25,.slice a vs.length cp),(6,x.2)]) (fun x=>[row 9 1 x.2 (ess.take x.1).flatten.length (im (ess.take x.1).flatten).flatten]) (fun x=>vs.length-x.1) ?_ ?_
  ·apply aI (0,v0) (Zi _)
   case hs1=>exact cg
   case ht=>
    exact .cons .here .nil
  rintro ⟨k,v⟩ hk
  dsimp only at hk ⊢
  by_cases aM:k<vs.length
  ·have ep:k<ess.length:=by omega
   have cG:=ha (by intro e;have:=congrArg List.length e;simp at this;subst this;simp at aM)
   have TV:=hr k _ _ (Zc aM) (Zc ep)
   have W6:=TV
   obtain ⟨a1,er,b1,o1,e1,_⟩:=W6
   rw [bW] at e1
   rw [e1] at TV
   have c0:w.cell? ⟨b,o+k*1,none⟩=some (.slice a1 ess[k].length er):=by rw [← e1];exact (hc k _ (Bh aM)).2 0 _ rfl
   have sy:=Fu ess (k+1)
   have hs:(ess.take (k+1)).flatten.length=(ess.take k).flatten.length+ess[k].length:=by rw [rX ep,Zg]
   (refine Jr<|JA rfl<|Jn<|Jq<|Jd rfl fun az=>Jk<|Jq<|J0<|Jr<|ab (fM cG az) rfl<|ab (ag (.of rfl) (At.base c0 rfl)) rfl<|Ja rfl<|Jn<|Jg<|Jv rfl<|Jv rfl ?_)
   with_reducible apply gY
   case hx=>exact Is.of rfl
   case hy=>exact Is.of rfl
   case ht=>exact .here
   case hsrc=>exact fun w' aA=>TV.keeps aA.keeps
   case h1=>exact zh _
   case hz=>exact rfl
   case hsz=>exact rfl
   case hb0=>exact rfl
   case hb=>rw [bW];omega
   case hd=>rfl
   intro v'
   rw [bW]
   refine Ja rfl<|Jx<|Jj<|Jt<|Jg<|JB rfl (by omega)<|Jv rfl<|Jn ?_
   apply aK (k+1,v') (show k+1≤vs.length by omega) (show vs.length-(k+1)<vs.length-k by omega)
   case hs1=>exact cg
   case ht=>
    show bD _ [row 9 1 v' (ess.take (k+1)).flatten.length (im (ess.take (k+1)).flatten).flatten] _
    rw [hs,rX ep,Mg,Zac]
    exact .cons .here .nil
  ·obtain rfl:k=vs.length:=by omega
   have rQ:vs.length=ess.length:=hl
   rw [rQ,ZN]
   refine Jr<|JA rfl<|Jn<|Jq<|Jc rfl fun az=>Jp<|Jl<|Jo<|Jt<|Jr<|Jv rfl<|Ja rfl<|Jn<|Je ?_
   first | with_reducible apply aO | with_reducible apply aP
   case he=>exact dH rfl rfl
   case hR=>
    intro w' aA
    exact aG v trivial (by exact .cons .here .nil) aA rfl
theorem Rd.one {w:World} {v:Value} {sz:Nat} {xs:List (List Value)} (h:Rd w v sz xs):v.oneCell'=true:=by
 obtain ⟨a,cap,b,o,rfl,_⟩:=h;rfl
def wQ {α:Type} (bf:List ByteArray) (nm:α→ByteArray) (ck:α→Int) (l:List α) (k:Nat):Int:=(l[k]?.map fun x=>aX [ch (!j6 (nm x)) 8,ch (jg (bf++(l.take k).map nm) (nm x)) 9,ck x]).getD 0
def fb {α:Type} (qd:Int) (bf:List ByteArray) (nm:α→ByteArray) (ck:α→Int) (l:List α):Int:=if qd<(l.length:Int) then 5 else jE (wQ bf nm ck l) l.length
theorem oo {α:Type} {bf:List ByteArray} {nm:α→ByteArray} {ck:α→Int} {l:List α} {k:Nat} (h:k<l.length):wQ bf nm ck l k=aX [ch (!j6 (nm l[k])) 8,ch (jg (bf++(l.take k).map nm) (nm l[k])) 9,ck l[k]]:=by
 unfold wQ;rw [Zc h];rfl
def fg (r:Ro) (m:Int):Int:=ch (decide (m<0)||decide (r.ma≤m)) 10
theorem Fg {r:Ro} {s d t p:Value} (m:Int) {w w1:World} (h:RR w1 r s d t p):aj Tryz.prog 136 [RA r s d t p,.int .i64 m] w (.int .i64 (fg r m)):=by
 have h1:=Rd.one h.sr
 have h2:=Rd.one h.de
 have h3:=Rd.one h.ti
 have h4:=Rd.one h.po
 unfold RA
 refine ah Tryz.func136 rfl rfl ?_
 (refine Jr<|Jy rfl rfl fun _ _=>Ja rfl<|Ji<|Jv rfl<|JA rfl<|Jv rfl<|il rfl rfl rfl rfl<|aD rfl rfl inferInstance (fun hg bA=>(au (.of rfl) ae)) rfl<|aD rfl rfl inferInstance (fun hg bA=>(ag (.bI hg rfl) (At.lit .here rfl))) rfl<|aD rfl rfl inferInstance (fun hg bA=>(uU (.bI hg rfl) (.bI hg rfl))) rfl<|ab (a7 (.of rfl) rfl) rfl<|ai bj rfl (fun w' aA=>(dV _ 10 w'))<|Ja rfl<|Jn<|Je<|JT ?_)
 rfl
theorem Ix (x:Sr) (w:World):aj Tryz.prog 139 [.agg x.cells.toArray] w (.string x.nm):=by
 unfold Sr.cells
 refine ah Tryz.func139 rfl rfl ?_
 (refine Jr<|Jy rfl rfl fun _ _=>Ja rfl<|Ji<|bS rfl rfl ae<|JL rfl .here rfl<|Ja rfl<|Jn<|Je<|JT ?_)
 rfl
theorem DE (x:De) (w:World):aj Tryz.prog 124 [.agg x.cells.toArray] w (.string x.nm):=by
 unfold De.cells
 refine ah Tryz.func124 rfl rfl ?_
 (refine Jr<|Jy rfl rfl fun _ _=>Ja rfl<|Ji<|bS rfl rfl ae<|JL rfl .here rfl<|Ja rfl<|Jn<|Je<|JT ?_)
 rfl
theorem Iw (x:Ti) (w:World):aj Tryz.prog 119 [.agg x.cells.toArray] w (.string x.nm):=by
 unfold Ti.cells
 refine ah Tryz.func119 rfl rfl ?_
 (refine Jr<|Jy rfl rfl fun _ _=>Ja rfl<|Ji<|bS rfl rfl ae<|JL rfl .here rfl<|Ja rfl<|Jn<|Je<|JT ?_)
 rfl
set_option maxHeartbeats 1000000 in
theorem Ct {lv bv:Value} {l:List Sr} {bf:List ByteArray} (qd:Int) {ck:Sr→Int} {f1 f2:FuncId} {first2 cap:List Value} [bR Tryz.prog f1] [bR Tryz.prog f2] {w:World} (h:Rd w lv 2 (uL l)) (hb:Rd w bv 1 (im bf)) (hn:bf.length+l.length≤1000)
  (vH:∀ x∈l,∀ w',aJ [] w w'→aj Tryz.prog f1 [.agg x.cells.toArray] w' (.string x.nm)) (vG:∀ x∈l,∀ w',aJ [] w w'→aj Tryz.prog f2 (first2++[.agg x.cells.toArray]++cap) w' (.int .i64 (ck x))) :
  aj Tryz.prog 138 [lv,.int .i64 qd,bv,.func (.func f1) #[] #[],.func (.func f2) first2.toArray cap.toArray] w (.int .i64 (fb qd bf Sr.nm ck l)):=by
 obtain ⟨a,cp,b,o,rfl,dj,bV,ha,hc⟩:=h
 rw [cO] at *
 unfold maxLen at bV
 unfold fb
 refine ah Tryz.func138 rfl rfl ?_
 (refine Jr<|Ja rfl<|Jn<|Jq<|Jr<|Jv rfl<|JI rfl<|Jv rfl<|JE rfl<|Jn<|gm rfl (fun az=>?_) fun az=>?_;refine Jr<|Ja rfl<|Jn<|Ju<|JT ?_;rotate_left;refine Jk<|Jr<|Jv rfl ?_;rotate_right)
 ·rw [if_pos (by omega)]
 rw [if_neg (by omega)]
 refine JN bN rfl (fun w1 aR=>vU (hb.keeps aR.keeps) (by omega)) ?_
 intro v0 _
 dsimp only [id_eq,Zb,Za]
 refine Ja rfl<|Jn<|Jq<|Jr<|Jv rfl<|JI rfl<|Jv rfl<|Jn<|J0 ?_
 refine aW (ι:=Nat×Value) (fun x=>x.1≤l.length∧∀ i,i<x.1→wQ bf Sr.nm ck l i=0) (fun x=>[(24,.int .i64 x.1),(23,.int .i64 l.length),(22,.slice a l.length cp),(11,x.2),(3,.func (.func f1) #[] #[]),(4,.func (.func f2) first2.toArray cap.toArray)]) (fun x=>[row 9 1 x.2 (bf++(l.take x.1).map Sr.nm).length (aL (bf++(l.take x.1).map Sr.nm))]) (fun x=>l.length-x.1) ?_ ?_
 ·apply aI (0,v0) ⟨Zi _,fun i hi=>absurd hi (ZP _)⟩
  case hs1=>exact cg
  case ht=>
   rw [show bf++(l.take 0).map Sr.nm=bf by simp]
   exact .cons .here .nil
 rintro ⟨k,v⟩ ⟨hk,hf⟩
 dsimp only at hk hf ⊢
 by_cases aM:k<l.length
 ·have cG:=ha (iM aM)
  have aB:=(hc k _ (fN aM)).2
  have CP:=vH _ (Zj aM)
  have eQ:=vG _ (Zj aM)
  have hE:=oo (bf:=bf) (nm:=Sr.nm) (ck:=ck) aM
  have htk:bf++(l.take (k+1)).map Sr.nm=(bf++(l.take k).map Sr.nm)++[(l[k]).nm]:=by
   rw [Zn aM,Zs,Zh];rfl
  have hlen:(bf++(l.take k).map Sr.nm).length=bf.length+k:=by
   rw [Zg,Zd,Zr];omega
  have DX:∀ (w':World),Rd w' v 1 (im (bf++(l.take k).map Sr.nm))→aj Tryz.prog 179 [v,.string (l[k]).nm] w' (.bool (jg (bf++(l.take k).map Sr.nm) (l[k]).nm)):=fun w' hr=>oO _ hr
  generalize hB:bf++(l.take k).map Sr.nm=B at hE htk hlen DX ⊢
  have qh:B.length=B.length:=rfl
  generalize l[k]=x at aB CP eQ hE htk DX
  have bh:aL (B++[x.nm])=aL B++[.string x.nm]:=by rw [eU];rfl
  have I6:(B++[x.nm]).length=B.length+1:=by simp
  unfold Sr.cells at aB CP eQ
  (refine Jr<|JA rfl<|Jn<|Jq<|Jd rfl fun az=>Jk<|Jq<|J0<|Jr<|ab (fM cG az) rfl<|ab (gW (ew.base aB rfl)) rfl<|Jz rfl rfl fun _ _=>aq (.of rfl) (.of rfl) .here rfl rfl (fY rfl rfl) (bG rfl) ak<|Ji<|Jv rfl<|ab (cR .here) rfl<|ai bN rfl (fun w' aA=>(CP w' (Mem.keeps aA)))<|Ja rfl<|Jn<|Jq<|Jq ?_)
  with_reducible refine cZ 12 (by kernel_rfl) ?_
  (refine ao l7 rfl<|aY bN rfl (fun w' aA=>(DF _ w'))<|ao (dU (.of rfl)) rfl<|aY bj rfl (fun w' aA=>(dV _ 8 w'))<|ao l7 rfl<|ao l7 rfl<|aY bj rfl (fun w' aA=>(DX w' (dM aA (.there .here) qh)))<|aY bj rfl (fun w' aA=>(dV _ 9 w'))<|ao l7 rfl<|ao (cR .here) rfl<|aY bN rfl (fun w' aA=>(eQ w' (Mem.keeps aA)))<|eB (aC (.cons (.of rfl) (.cons (.of rfl) (.cons (.of rfl) .nil))) rfl rfl rfl rfl) rfl rfl ?_)
  with_reducible refine dB rfl fun bq nq=>?_
  (refine ai bN rfl (fun w' aA=>(dO (Mem.dw aA .here rfl rfl) (bY.cons (bY.cons (bY.cons bY.nil)))))<|Ja rfl<|Ji<|Jv rfl<|JD rfl<|Jn<|gm rfl (fun az=>?_) fun az=>?_;refine Jr<|Jv rfl<|Ja rfl<|Jn<|Ju<|Jm<|Jh<|Jh<|Jm<|Jh<|JT ?_;rotate_left;refine Jk<|Jg<|Jv rfl<|Jv rfl<|br (aC (.cons (.of rfl) .nil) rfl rfl rfl rfl) rfl fun _ _=>?_;rotate_right)
  ·rw [← hE] at az ⊢
   rw [eW hf aM az]
  have hz:wQ bf Sr.nm ck l k=0:=by rw [hE];exact Zo.1 az
  refine bF (.of rfl) (.of rfl) cW .here ak (by rfl) (en rfl) (by rfl) (by rfl) (by rfl) eC (by rfl) ?_
  intro v'
  refine Ja rfl<|Jx<|Jj<|Jt<|Jg<|JB rfl (by omega)<|Jv rfl<|Jn ?_
  apply aK (k+1,v') ⟨show k+1≤l.length by omega,fun i hi=>by
   by_cases e:i=k
   ·rw [e];exact hz
   ·exact hf i (by omega)⟩ (show l.length-(k+1)<l.length-k by omega)
  case hs1=>exact cg
  case ht=>
   show bD _ [row 9 1 v' (bf++(l.take (k+1)).map Sr.nm).length (aL (bf++(l.take (k+1)).map Sr.nm))] _
   rw [htk,bh,I6]
   exact .cons .here .nil
 ·obtain rfl:k=l.length:=by omega
  refine Jr<|JA rfl<|Jn<|Jq<|Jc rfl fun az=>Jp<|Jl<|Jo<|Jt<|Jr<|Ja rfl<|Jn<|Je<|JT ?_
  rw [dS.2 hf]
set_option maxHeartbeats 1000000 in
theorem Cu {lv bv:Value} {l:List De} {bf:List ByteArray} (qd:Int) {ck:De→Int} {f1 f2:FuncId} {first2 cap:List Value} [bR Tryz.prog f1] [bR Tryz.prog f2] {w:World} (h:Rd w lv 3 (uy l)) (hb:Rd w bv 1 (im bf)) (hn:bf.length+l.length≤1000)
  (vH:∀ x∈l,∀ w',aJ [] w w'→aj Tryz.prog f1 [.agg x.cells.toArray] w' (.string x.nm)) (vG:∀ x∈l,∀ w',aJ [] w w'→aj Tryz.prog f2 (first2++[.agg x.cells.toArray]++cap) w' (.int .i64 (ck x))) :
  aj Tryz.prog 141 [lv,.int .i64 qd,bv,.func (.func f1) #[] #[],.func (.func f2) first2.toArray cap.toArray] w (.int .i64 (fb qd bf De.nm ck l)):=by
 obtain ⟨a,cp,b,o,rfl,dj,bV,ha,hc⟩:=h
 rw [cn] at *
 unfold maxLen at bV
 unfold fb
 refine ah Tryz.func141 rfl rfl ?_
 (refine Jr<|Ja rfl<|Jn<|Jq<|Jr<|Jv rfl<|JI rfl<|Jv rfl<|JE rfl<|Jn<|gm rfl (fun az=>?_) fun az=>?_;refine Jr<|Ja rfl<|Jn<|Ju<|JT ?_;rotate_left;refine Jk<|Jr<|Jv rfl ?_;rotate_right)
 ·rw [if_pos (by omega)]
 rw [if_neg (by omega)]
 refine JN bN rfl (fun w1 aR=>vU (hb.keeps aR.keeps) (by omega)) ?_
 intro v0 _
 dsimp only [id_eq,Zb,Za]
 refine Ja rfl<|Jn<|Jq<|Jr<|Jv rfl<|JI rfl<|Jv rfl<|Jn<|J0 ?_
 refine aW (ι:=Nat×Value) (fun x=>x.1≤l.length∧∀ i,i<x.1→wQ bf De.nm ck l i=0) (fun x=>[(24,.int .i64 x.1),(23,.int .i64 l.length),(22,.slice a l.length cp),(11,x.2),(3,.func (.func f1) #[] #[]),(4,.func (.func f2) first2.toArray cap.toArray)]) (fun x=>[row 9 1 x.2 (bf++(l.take x.1).map De.nm).length (aL (bf++(l.take x.1).map De.nm))]) (fun x=>l.length-x.1) ?_ ?_
 ·apply aI (0,v0) ⟨Zi _,fun i hi=>absurd hi (ZP _)⟩
  case hs1=>exact cg
  case ht=>
   rw [show bf++(l.take 0).map De.nm=bf by simp]
   exact .cons .here .nil
 rintro ⟨k,v⟩ ⟨hk,hf⟩
 dsimp only at hk hf ⊢
 by_cases aM:k<l.length
 ·have cG:=ha (fW aM)
  have aB:=(hc k _ (eR aM)).2
  have CP:=vH _ (Zj aM)
  have eQ:=vG _ (Zj aM)
  have hE:=oo (bf:=bf) (nm:=De.nm) (ck:=ck) aM
  have htk:bf++(l.take (k+1)).map De.nm=(bf++(l.take k).map De.nm)++[(l[k]).nm]:=by
   rw [Zn aM,Zs,Zh];rfl
  have hlen:(bf++(l.take k).map De.nm).length=bf.length+k:=by
   rw [Zg,Zd,Zr];omega
  have DX:∀ (w':World),Rd w' v 1 (im (bf++(l.take k).map De.nm))→aj Tryz.prog 179 [v,.string (l[k]).nm] w' (.bool (jg (bf++(l.take k).map De.nm) (l[k]).nm)):=fun w' hr=>oO _ hr
  generalize hB:bf++(l.take k).map De.nm=B at hE htk hlen DX ⊢
  have qh:B.length=B.length:=rfl
  generalize l[k]=x at aB CP eQ hE htk DX
  have bh:aL (B++[x.nm])=aL B++[.string x.nm]:=by rw [eU];rfl
  have I6:(B++[x.nm]).length=B.length+1:=by simp
  unfold De.cells at aB CP eQ
  (refine Jr<|JA rfl<|Jn<|Jq<|Jd rfl fun az=>Jk<|Jq<|J0<|Jr<|ab (fM cG az) rfl<|ab (gW (ew.base aB rfl)) rfl<|Jz rfl rfl fun _ _=>aq (.of rfl) (.of rfl) .here rfl rfl (fo rfl rfl rfl) (bG rfl) ak<|Ji<|Jv rfl<|ab (cR .here) rfl<|ai bN rfl (fun w' aA=>(CP w' (Mem.keeps aA)))<|Ja rfl<|Jn<|Jq<|Jq ?_)
  with_reducible refine cZ 12 (by kernel_rfl) ?_
  (refine ao l7 rfl<|aY bN rfl (fun w' aA=>(DF _ w'))<|ao (dU (.of rfl)) rfl<|aY bj rfl (fun w' aA=>(dV _ 8 w'))<|ao l7 rfl<|ao l7 rfl<|aY bj rfl (fun w' aA=>(DX w' (dM aA (.there .here) qh)))<|aY bj rfl (fun w' aA=>(dV _ 9 w'))<|ao l7 rfl<|ao (cR .here) rfl<|aY bN rfl (fun w' aA=>(eQ w' (Mem.keeps aA)))<|eB (aC (.cons (.of rfl) (.cons (.of rfl) (.cons (.of rfl) .nil))) rfl rfl rfl rfl) rfl rfl ?_)
  with_reducible refine dB rfl fun bq nq=>?_
  (refine ai bN rfl (fun w' aA=>(dO (Mem.dw aA .here rfl rfl) (bY.cons (bY.cons (bY.cons bY.nil)))))<|Ja rfl<|Ji<|Jv rfl<|JD rfl<|Jn<|gm rfl (fun az=>?_) fun az=>?_;refine Jr<|Jv rfl<|Ja rfl<|Jn<|Ju<|Jm<|Jh<|Jh<|Jm<|Jh<|JT ?_;rotate_left;refine Jk<|Jg<|Jv rfl<|Jv rfl<|br (aC (.cons (.of rfl) .nil) rfl rfl rfl rfl) rfl fun _ _=>?_;rotate_right)
  ·rw [← hE] at az ⊢
   rw [eW hf aM az]
  have hz:wQ bf De.nm ck l k=0:=by rw [hE];exact Zo.1 az
  refine bF (.of rfl) (.of rfl) cW .here ak (by rfl) (en rfl) (by rfl) (by rfl) (by rfl) eC (by rfl) ?_
  intro v'
  refine Ja rfl<|Jx<|Jj<|Jt<|Jg<|JB rfl (by omega)<|Jv rfl<|Jn ?_
  apply aK (k+1,v') ⟨show k+1≤l.length by omega,fun i hi=>by
   by_cases e:i=k
   ·rw [e];exact hz
   ·exact hf i (by omega)⟩ (show l.length-(k+1)<l.length-k by omega)
  case hs1=>exact cg
  case ht=>
   show bD _ [row 9 1 v' (bf++(l.take (k+1)).map De.nm).length (aL (bf++(l.take (k+1)).map De.nm))] _
   rw [htk,bh,I6]
   exact .cons .here .nil
 ·obtain rfl:k=l.length:=by omega
  refine Jr<|JA rfl<|Jn<|Jq<|Jc rfl fun az=>Jp<|Jl<|Jo<|Jt<|Jr<|Ja rfl<|Jn<|Je<|JT ?_
  rw [dS.2 hf]
set_option maxHeartbeats 1000000 in
theorem Cs {lv bv:Value} {l:List Ti} {bf:List ByteArray} (qd:Int) {ck:Ti→Int} {f1 f2:FuncId} {first2 cap:List Value} [bR Tryz.prog f1] [bR Tryz.prog f2] {w:World} (h:Rd w lv 3 (tX l)) (hb:Rd w bv 1 (im bf)) (hn:bf.length+l.length≤1000)
  (vH:∀ x∈l,∀ w',aJ [] w w'→aj Tryz.prog f1 [.agg x.cells.toArray] w' (.string x.nm)) (vG:∀ x∈l,∀ w',aJ [] w w'→aj Tryz.prog f2 (first2++[.agg x.cells.toArray]++cap) w' (.int .i64 (ck x))) :
  aj Tryz.prog 144 [lv,.int .i64 qd,bv,.func (.func f1) #[] #[],.func (.func f2) first2.toArray cap.toArray] w (.int .i64 (fb qd bf Ti.nm ck l)):=by
 obtain ⟨a,cp,b,o,rfl,dj,bV,ha,hc⟩:=h
 rw [cd] at *
 unfold maxLen at bV
 unfold fb
 refine ah Tryz.func144 rfl rfl ?_
 (refine Jr<|Ja rfl<|Jn<|Jq<|Jr<|Jv rfl<|JI rfl<|Jv rfl<|JE rfl<|Jn<|gm rfl (fun az=>?_) fun az=>?_;refine Jr<|Ja rfl<|Jn<|Ju<|JT ?_;rotate_left;refine Jk<|Jr<|Jv rfl ?_;rotate_right)
 ·rw [if_pos (by omega)]
 rw [if_neg (by omega)]
 refine JN bN rfl (fun w1 aR=>vU (hb.keeps aR.keeps) (by omega)) ?_
 intro v0 _
 dsimp only [id_eq,Zb,Za]
 refine Ja rfl<|Jn<|Jq<|Jr<|Jv rfl<|JI rfl<|Jv rfl<|Jn<|J0 ?_
 refine aW (ι:=Nat×Value) (fun x=>x.1≤l.length∧∀ i,i<x.1→wQ bf Ti.nm ck l i=0) (fun x=>[(24,.int .i64 x.1),(23,.int .i64 l.length),(22,.slice a l.length cp),(11,x.2),(3,.func (.func f1) #[] #[]),(4,.func (.func f2) first2.toArray cap.toArray)]) (fun x=>[row 9 1 x.2 (bf++(l.take x.1).map Ti.nm).length (aL (bf++(l.take x.1).map Ti.nm))]) (fun x=>l.length-x.1) ?_ ?_
 ·apply aI (0,v0) ⟨Zi _,fun i hi=>absurd hi (ZP _)⟩
  case hs1=>exact cg
  case ht=>
   rw [show bf++(l.take 0).map Ti.nm=bf by simp]
   exact .cons .here .nil
 rintro ⟨k,v⟩ ⟨hk,hf⟩
 dsimp only at hk hf ⊢
 by_cases aM:k<l.length
 ·have cG:=ha (fw aM)
  have aB:=(hc k _ (eE aM)).2
  have CP:=vH _ (Zj aM)
  have eQ:=vG _ (Zj aM)
  have hE:=oo (bf:=bf) (nm:=Ti.nm) (ck:=ck) aM
  have htk:bf++(l.take (k+1)).map Ti.nm=(bf++(l.take k).map Ti.nm)++[(l[k]).nm]:=by
   rw [Zn aM,Zs,Zh];rfl
  have hlen:(bf++(l.take k).map Ti.nm).length=bf.length+k:=by
   rw [Zg,Zd,Zr];omega
  have DX:∀ (w':World),Rd w' v 1 (im (bf++(l.take k).map Ti.nm))→aj Tryz.prog 179 [v,.string (l[k]).nm] w' (.bool (jg (bf++(l.take k).map Ti.nm) (l[k]).nm)):=fun w' hr=>oO _ hr
  generalize hB:bf++(l.take k).map Ti.nm=B at hE htk hlen DX ⊢
  have qh:B.length=B.length:=rfl
  generalize l[k]=x at aB CP eQ hE htk DX
  have bh:aL (B++[x.nm])=aL B++[.string x.nm]:=by rw [eU];rfl
  have I6:(B++[x.nm]).length=B.length+1:=by simp
  unfold Ti.cells at aB CP eQ
  (refine Jr<|JA rfl<|Jn<|Jq<|Jd rfl fun az=>Jk<|Jq<|J0<|Jr<|ab (fM cG az) rfl<|ab (gW (ew.base aB rfl)) rfl<|Jz rfl rfl fun _ _=>aq (.of rfl) (.of rfl) .here rfl rfl (fo rfl rfl rfl) (bG rfl) ak<|Ji<|Jv rfl<|ab (cR .here) rfl<|ai bN rfl (fun w' aA=>(CP w' (Mem.keeps aA)))<|Ja rfl<|Jn<|Jq<|Jq ?_)
  with_reducible refine cZ 12 (by kernel_rfl) ?_
  (refine ao l7 rfl<|aY bN rfl (fun w' aA=>(DF _ w'))<|ao (dU (.of rfl)) rfl<|aY bj rfl (fun w' aA=>(dV _ 8 w'))<|ao l7 rfl<|ao l7 rfl<|aY bj rfl (fun w' aA=>(DX w' (dM aA (.there .here) qh)))<|aY bj rfl (fun w' aA=>(dV _ 9 w'))<|ao l7 rfl<|ao (cR .here) rfl<|aY bN rfl (fun w' aA=>(eQ w' (Mem.keeps aA)))<|eB (aC (.cons (.of rfl) (.cons (.of rfl) (.cons (.of rfl) .nil))) rfl rfl rfl rfl) rfl rfl ?_)
  with_reducible refine dB rfl fun bq nq=>?_
  (refine ai bN rfl (fun w' aA=>(dO (Mem.dw aA .here rfl rfl) (bY.cons (bY.cons (bY.cons bY.nil)))))<|Ja rfl<|Ji<|Jv rfl<|JD rfl<|Jn<|gm rfl (fun az=>?_) fun az=>?_;refine Jr<|Jv rfl<|Ja rfl<|Jn<|Ju<|Jm<|Jh<|Jh<|Jm<|Jh<|JT ?_;rotate_left;refine Jk<|Jg<|Jv rfl<|Jv rfl<|br (aC (.cons (.of rfl) .nil) rfl rfl rfl rfl) rfl fun _ _=>?_;rotate_right)
  ·rw [← hE] at az ⊢
   rw [eW hf aM az]
  have hz:wQ bf Ti.nm ck l k=0:=by rw [hE];exact Zo.1 az
  refine bF (.of rfl) (.of rfl) cW .here ak (by rfl) (en rfl) (by rfl) (by rfl) (by rfl) eC (by rfl) ?_
  intro v'
  refine Ja rfl<|Jx<|Jj<|Jt<|Jg<|JB rfl (by omega)<|Jv rfl<|Jn ?_
  apply aK (k+1,v') ⟨show k+1≤l.length by omega,fun i hi=>by
   by_cases e:i=k
   ·rw [e];exact hz
   ·exact hf i (by omega)⟩ (show l.length-(k+1)<l.length-k by omega)
  case hs1=>exact cg
  case ht=>
   show bD _ [row 9 1 v' (bf++(l.take (k+1)).map Ti.nm).length (aL (bf++(l.take (k+1)).map Ti.nm))] _
   rw [htk,bh,I6]
   exact .cons .here .nil
 ·obtain rfl:k=l.length:=by omega
  refine Jr<|JA rfl<|Jn<|Jq<|Jc rfl fun az=>Jp<|Jl<|Jo<|Jt<|Jr<|Ja rfl<|Jn<|Je<|JT ?_
  rw [dS.2 hf]
end Go.Proofs.A1
namespace Go.SL
open Go
section
variable {P:Program} {c:Cx} {sl:aH} {hs:List bd} {dst:Option Tmp} {ty:TypeId} {pos:String} {af:Array Edge} {g:Option (Nat×Bool)}
variable {κ:Type} [DecidableEq κ] {kv:κ→Value} {kind:TypeDesc}
theorem Dp {t kt et:TypeId} {x y:Operand} {b:Nat} {k:κ} {l:List (κ×Value)} {z:Value} [hu:iV P t (.map kt et)] [GA:iV P kt kind] [hz:lZ P et z] (hk:KeyLaw kind kv) (hx:Is sl x (.map (some b))) (hy:Is sl y (kv k)) (hl:Looks c hs b kv l) :
  cY P c sl hs ⟨dst,.lookup t x y true,ty,pos,af,g⟩ (.tuple #[(eD k l).getD z,.bool (eD k l).isSome]):=
 ⟨by
   simp,fun a w ha hm=>by
  obtain ⟨es,ck,h1,h2⟩:=hl w hm
  have hg:(getObj b).run P w=.ok (.map es ck) w:=by simp [getObj,Sem.run,h1]
  have wy:=hk.flat P kt es.isEmpty w k GA.eq
  rcases findNow_spec hk k es.toList l 0 h2.eq with ⟨a1,a2⟩ | ⟨j,v,a1,a2,_⟩
  ·have:(Instr.findKey kt (kv k) es.toList).run P w=.ok none w:=by
    simp [Instr.findKey,aV GA.eq,a2]
   simp [execOp,hx a ha,hy a ha,Instr.lookup,aV hu.eq,hg,wy,this,a1,iv (t:=et) (v:=z)]
  ·have:(Instr.findKey kt (kv k) es.toList).run P w=.ok (some (0+j,v)) w:=by
    simp [Instr.findKey,aV GA.eq,a2]
   simp [execOp,hx a ha,hy a ha,Instr.lookup,aV hu.eq,hg,wy,this,a1]⟩
end
end Go.SL
namespace Go.Proofs.A1
open Go Go.SL
def lG (a b c:Int):Value:=.agg #[.int .i64 a,.int .i64 b,.int .i64 c]
abbrev PM:=List (ByteArray×Value)
def wu (l:List Sr):Nat→PM
 | 0=>[]
 | k + 1 => match l[k]? with
  | some x=>mN x.nm (lG (-1) (-1) x.mx) (wu l k)
  | none=>wu l k
def CL (m:PM) (l:List De):Nat→PM
 | 0=>m
 | k + 1 => match l[k]? with
  | some x=>mN x.nm (lG (k:Nat) x.mx (-1)) (CL m l k)
  | none=>CL m l k
def Lo (m:PM) (n:Nat) (l:List Ti):Nat→PM
 | 0=>m
 | k + 1 => match l[k]? with
  | some x=>mN x.nm (lG ((n:Int)+(k:Nat)) x.fr x.to) (Lo m n l k)
  | none=>Lo m n l k
def oq (r:Ro):PM:=Lo (CL (wu r.sr r.sr.length) r.de r.de.length) r.de.length r.ti r.ti.length
theorem Ia {l:List Sr} {k:Nat} (h:k<l.length):wu l (k+1)=mN (l[k]).nm (lG (-1) (-1) (l[k]).mx) (wu l k):=by rw [wu,Zc h]
theorem Ib {m:PM} {l:List De} {k:Nat} (h:k<l.length):CL m l (k+1)=mN (l[k]).nm (lG (k:Nat) (l[k]).mx (-1)) (CL m l k):=by rw [CL,Zc h]
theorem H9 {m:PM} {n:Nat} {l:List Ti} {k:Nat} (h:k<l.length):Lo m n l (k+1)=mN (l[k]).nm (lG ((n:Int)+(k:Nat)) (l[k]).fr (l[k]).to) (Lo m n l k):=by rw [Lo,Zc h]
set_option maxHeartbeats 1000000 in
theorem ES {r:Ro} {s d t p:Value} {w:World} (h:RR w r s d t p) (cT:r.de.length+r.ti.length≤1000000):bu Tryz.prog 186 [RA r s d t p] w [] (fun _:Nat=>True) (fun b=>.map (some b)) (fun b=>[mp (fun s:ByteArray=>Value.string s) b (oq r)]):=by
 have h1:=Rd.one h.sr
 have h2:=Rd.one h.de
 have h3:=Rd.one h.ti
 have h4:=Rd.one h.po
 have hs:=h.sr
 have hd:=h.de
 have B0:=h.ti
 obtain ⟨a1,er,Pt,OG,rfl,pM,jf,lW,kF⟩:=hs
 obtain ⟨a2,dA,Ps,OF,rfl,kE,fk,jD,jS⟩:=hd
 obtain ⟨a3,ee,KU,Ik,rfl,nD,gG,tM,ql⟩:=B0
 rw [cO] at *
 rw [cn] at *
 rw [cd] at *
 unfold maxLen at jf fk gG
 unfold RA
 refine aS Tryz.func186 rfl rfl ?_
 refine Jr<|Jy rfl rfl fun _ _=>Ja rfl<|Ji ?_
 rename_i b1 tw
 refine A8 rfl ?_
 intro bm VU
 (refine Ja rfl<|Jn<|Jq<|Jr<|bS rfl rfl ae<|JL rfl (.there .here) rfl<|JI rfl<|Jv rfl<|Jn<|J0 ?_)
 refine aW (fun k:Nat=>k≤r.sr.length) (fun k=>[(14,.int .i64 k),(13,.int .i64 r.sr.length),(12,.slice a1 r.sr.length er),(3,.map (some bm)),(1,.pointer (some ⟨b1,0,none⟩))]) (fun k=>[mp (fun s:ByteArray=>Value.string s) bm (wu r.sr k),JP b1 r (.slice a1 r.sr.length er) (.slice a2 r.de.length dA) (.slice a3 r.ti.length ee) p]) (fun k=>r.sr.length-k) ?_ ?_
 ·apply aI 0 (show 0≤r.sr.length from Zi _)
  case hs1=>exact cg
  case ht=>
   exact .cons .here (.cons .here .nil)
 intro k hk
 by_cases aM:k<r.sr.length
 ·have cG:=lW (iM aM)
  have aB:=(kF k _ (fN aM)).2
  have j9:wu r.sr (k+1)=_:=Ia aM
  unfold Sr.cells at aB
  unfold lG at j9
  generalize r.sr[k]=x at aB j9
  (refine Jr<|JA rfl<|Jn<|Jq<|Jd rfl fun az=>Jk<|Jq<|J0<|Jr<|ab (fM cG az) rfl<|ab (gW (ew.base aB rfl)) rfl<|Jz rfl rfl fun _ _=>aq (.of rfl) (.of rfl) .here rfl rfl (fY rfl rfl) (bG rfl) ak<|Jn<|Jg<|Jv rfl<|bS rfl rfl ae<|JL rfl .here rfl<|bS rfl rfl ae<|JL rfl .here rfl<|ab (aU (.cons (.of rfl) (.cons (.of rfl) (.cons (.of rfl) .nil))) ak) rfl ?_)
  refine mV IK (.of rfl) (.of rfl) (.of rfl) (.there .here) ?_
  refine Jx<|Jj<|Jt<|Jg<|JB rfl (by omega)<|Jv rfl<|Jn ?_
  apply aK (k+1) (show k+1≤r.sr.length by omega) (show r.sr.length-(k+1)<r.sr.length-k by omega)
  case hs1=>exact cg
  case ht=>
   show bD _ [mp (fun s:ByteArray=>Value.string s) bm (wu r.sr (k+1)),JP b1 r (.slice a1 r.sr.length er) (.slice a2 r.de.length dA) (.slice a3 r.ti.length ee) p] _
   rw [j9]
   exact .cons .here (.cons (.there .here) .nil)
 obtain rfl:k=r.sr.length:=by omega
 (refine Jr<|JA rfl<|Jn<|Jq<|Jc rfl fun az=>Jp<|Jl<|Jo<|Jt<|Jq<|Jr<|bS rfl rfl ae<|JL rfl (.there .here) rfl<|JI rfl<|Jv rfl<|Jn<|J0 ?_)
 refine aW (fun k:Nat=>k≤r.de.length) (fun k=>[(28,.int .i64 k),(27,.int .i64 r.de.length),(26,.slice a2 r.de.length dA),(3,.map (some bm)),(1,.pointer (some ⟨b1,0,none⟩))]) (fun k=>[mp (fun s:ByteArray=>Value.string s) bm (CL (wu r.sr r.sr.length) r.de k),JP b1 r (.slice a1 r.sr.length er) (.slice a2 r.de.length dA) (.slice a3 r.ti.length ee) p]) (fun k=>r.de.length-k) ?_ ?_
 ·apply aI 0 (show 0≤r.de.length from Zi _)
  case hs1=>exact cg
  case ht=>
   exact .cons .here (.cons .here .nil)
 intro k hk
 by_cases aM:k<r.de.length
 ·have cG:=jD (fW aM)
  have aB:=(jS k _ (eR aM)).2
  have j9:CL (wu r.sr r.sr.length) r.de (k+1)=_:=Ib aM
  unfold De.cells at aB
  unfold lG at j9
  generalize r.de[k]=x at aB j9
  (refine Jr<|JA rfl<|Jn<|Jq<|Jd rfl fun az=>Jk<|Jq<|J0<|Jr<|Jv rfl<|ab (fM cG az) rfl<|ab (gW (ew.base aB rfl)) rfl<|Jz rfl rfl fun _ _=>Ja rfl<|aq (.of rfl) (.of rfl) .here rfl rfl (fo rfl rfl rfl) (bG rfl) ak<|Jn<|Jg<|Jv rfl<|bS rfl rfl ae<|JL rfl .here rfl<|Jv rfl<|bS rfl rfl ae<|JL rfl .here rfl<|ab (aU (.cons (.of rfl) (.cons (.of rfl) (.cons (.of rfl) .nil))) ak) rfl ?_)
  refine mV IK (.of rfl) (.of rfl) (.of rfl) (.there .here) ?_
  refine Jx<|Jj<|Jt<|Jg<|JB rfl (by omega)<|Jv rfl<|Jn ?_
  apply aK (k+1) (show k+1≤r.de.length by omega) (show r.de.length-(k+1)<r.de.length-k by omega)
  case hs1=>exact cg
  case ht=>
   show bD _ [mp (fun s:ByteArray=>Value.string s) bm (CL (wu r.sr r.sr.length) r.de (k+1)),JP b1 r (.slice a1 r.sr.length er) (.slice a2 r.de.length dA) (.slice a3 r.ti.length ee) p] _
   rw [j9]
   exact .cons .here (.cons (.there .here) .nil)
 obtain rfl:k=r.de.length:=by omega
 (refine Jr<|JA rfl<|Jn<|Jq<|Jc rfl fun az=>Jp<|Jl<|Jo<|Jt<|Jq<|Jr<|bS rfl rfl ae<|JL rfl (.there .here) rfl<|JI rfl<|Jv rfl<|Jn<|J0 ?_)
 refine aW (fun k:Nat=>k≤r.ti.length) (fun k=>[(44,.int .i64 k),(43,.int .i64 r.ti.length),(42,.slice a3 r.ti.length ee),(3,.map (some bm)),(1,.pointer (some ⟨b1,0,none⟩))]) (fun k=>[mp (fun s:ByteArray=>Value.string s) bm (Lo (CL (wu r.sr r.sr.length) r.de r.de.length) r.de.length r.ti k),JP b1 r (.slice a1 r.sr.length er) (.slice a2 r.de.length dA) (.slice a3 r.ti.length ee) p]) (fun k=>r.ti.length-k) ?_ ?_
 ·apply aI 0 (show 0≤r.ti.length from Zi _)
  case hs1=>exact cg
  case ht=>
   exact .cons .here (.cons .here .nil)
 intro k hk
 by_cases aM:k<r.ti.length
 ·have cG:=tM (fw aM)
  have aB:=(ql k _ (eE aM)).2
  have j9:Lo (CL (wu r.sr r.sr.length) r.de r.de.length) r.de.length r.ti (k+1)=_:=H9 aM
  unfold Ti.cells at aB
  unfold lG at j9
  generalize r.ti[k]=x at aB j9
  (refine Jr<|JA rfl<|Jn<|Jq<|Jd rfl fun az=>Jk<|Jq<|J0<|Jr<|Jv rfl<|ab (fM cG az) rfl<|ab (gW (ew.base aB rfl)) rfl<|Jz rfl rfl fun _ _=>Ja rfl<|aq (.of rfl) (.of rfl) .here rfl rfl (fo rfl rfl rfl) (bG rfl) ak<|Jn<|Jg<|Jv rfl<|bS rfl rfl ae<|JL rfl .here rfl<|bS rfl rfl ae<|JL rfl bL rfl<|JI rfl<|Jv rfl<|JB rfl (by omega)<|bS rfl rfl ae<|JL rfl .here rfl<|bS rfl rfl ae<|JL rfl .here rfl<|ab (aU (.cons (.of rfl) (.cons (.of rfl) (.cons (.of rfl) .nil))) ak) rfl ?_)
  refine mV IK (.of rfl) (.of rfl) (.of rfl) (.there .here) ?_
  refine Jx<|Jj<|Jt<|Jg<|JB rfl (by omega)<|Jv rfl<|Jn ?_
  apply aK (k+1) (show k+1≤r.ti.length by omega) (show r.ti.length-(k+1)<r.ti.length-k by omega)
  case hs1=>exact cg
  case ht=>
   show bD _ [mp (fun s:ByteArray=>Value.string s) bm (Lo (CL (wu r.sr r.sr.length) r.de r.de.length) r.de.length r.ti (k+1)),JP b1 r (.slice a1 r.sr.length er) (.slice a2 r.de.length dA) (.slice a3 r.ti.length ee) p] _
   rw [j9]
   exact .cons .here (.cons (.there .here) .nil)
 obtain rfl:k=r.ti.length:=by omega
 refine Jr<|JA rfl<|Jn<|Jq<|Jc rfl fun az=>Jp<|Jl<|Jo<|Jt<|Jr<|Jv rfl<|Ja rfl<|Jn<|Je ?_
 first | with_reducible apply aO | with_reducible apply aP
 case he=>exact dH rfl rfl
 case hR=>
  intro w' aA
  exact aG bm trivial (show bD _ [mp (fun s:ByteArray=>Value.string s) bm (oq r)] _ from by unfold oq;exact .cons .here .nil) aA rfl
theorem cu {w w':World} {a:Addr} {v:Value} (h:w.cell? a=some v) (hs:a.spot=none) (hk:aJ [] w w'):w'.cell? a=some v:=by
 have hb:=World.block_lt_of_cell? w a h
 obtain ⟨b,o,s⟩:=a
 subst hs
 have:=hk.block b hb (by simp)
 rw [← h]
 simp [World.cell?,this]
theorem gC {P:Program} {c:Cx} {sl:aH} {hs:List bd} {dst:Option Tmp} {ty:TypeId} {pos:String} {af:Array Edge} {g:Option (Nat×Bool)} {x y z:Operand} {q:Bool} {v u V:Value} (hx:Is sl x (.bool q)) (hy:Is sl y v) (hz:Is sl z u) (e:(bif q then v else u)=V):cY P c sl hs ⟨dst,.pick x y z,ty,pos,af,g⟩ V:=e ▸ ub hx hy hz
theorem pe {α:Type} (p:α→Bool) (l:List α):(fT p l = -1∧l.find? p=none)∨∃ i,∃ h:i<l.length,fT p l=(i:Nat)∧l.find? p=some l[i]:=by
 cases hf:l.find? p with
 | none =>
  rw [ZaJ] at hf
  refine .inl ⟨fA fun i hi=>?_,rfl⟩
  simpa [hi] using hf l[i] (Zj hi)
 | some x =>
  obtain ⟨hp,i,hi,rfl,hb⟩:=ZaB.1 hf
  refine .inr ⟨i,hi,gy (fun j hj=>?_) hi hp,rfl⟩
  have:=hb j hj
  simpa [show j<l.length by omega] using this
theorem QA (x:Po) {b1 b2:Nat} {v:Int} {o:ByteArray} {w:World} (f1:w.cell? ⟨b1,0,none⟩=some (.int .i64 v)) (f2:w.cell? ⟨b2,0,none⟩=some (.string o)) :
  aj Tryz.prog 298 [.agg x.cells.toArray,.pointer (some ⟨b1,0,none⟩),.pointer (some ⟨b2,0,none⟩)] w (.bool (Ej v o x)):=by
 unfold Po.cells
 refine ah Tryz.func298 rfl rfl ?_
 (refine Jr<|Jy rfl rfl fun _ _=>Ja rfl<|Ji<|ab (cR .here) rfl<|ab (ag (.of rfl) (At.base f1 rfl)) rfl<|ab (ag (.of rfl) (At.base f2 rfl)) rfl<|bS rfl rfl ae<|JL rfl .here rfl<|ab (aU (.cons (.of rfl) (.cons (.of rfl) (.cons (.of rfl) .nil))) ak) rfl<|ab (ue (.of rfl) (.of rfl) (jZ (fj (fj lT))) rfl) rfl<|Ja rfl<|Jn<|Je<|JT ?_)
 simp [Ej]
theorem PR (x:Po) {b1 b2:Nat} {v:Int} {o:ByteArray} {w:World} (f1:w.cell? ⟨b1,0,none⟩=some (.int .i64 v)) (f2:w.cell? ⟨b2,0,none⟩=some (.string o)) :
  aj Tryz.prog 302 [.agg x.cells.toArray,.pointer (some ⟨b1,0,none⟩),.pointer (some ⟨b2,0,none⟩)] w (.bool (zX v o x)):=by
 unfold Po.cells
 refine ah Tryz.func302 rfl rfl ?_
 (refine Jr<|Jy rfl rfl fun _ _=>Ja rfl<|Ji<|ab (cR .here) rfl<|ab (ag (.of rfl) (At.base f1 rfl)) rfl<|bS rfl rfl ae<|JL rfl .here rfl<|ab (ag (.of rfl) (At.base f2 rfl)) rfl<|ab (aU (.cons (.of rfl) (.cons (.of rfl) (.cons (.of rfl) .nil))) ak) rfl<|ab (ue (.of rfl) (.of rfl) (jZ (fj (fj lT))) rfl) rfl<|Ja rfl<|Jn<|Je<|JT ?_)
 simp [zX]
theorem zU {r:Ro} {s d t p:Value} (v:Int) (o:ByteArray) {w:World} (h:RR w r s d t p):aj Tryz.prog 223 [RA r s d t p,.int .i64 v,.string o] w (.tuple #[.string ((ek r.po v o).getD ⟨#[]⟩),.bool (ek r.po v o).isSome]):=by
 have h1:=Rd.one h.sr
 have h2:=Rd.one h.de
 have h3:=Rd.one h.ti
 have hp:=h.po
 obtain ⟨a,cp,b,o',rfl,dj,bV,ha,hc⟩:=hp
 rw [c6] at *
 unfold maxLen at bV
 unfold RA
 refine ah Tryz.func223 rfl rfl ?_
 (refine Jr<|Jy rfl rfl fun _ _=>Jy rfl rfl fun _ _=>Jy rfl rfl fun _ _=>Ja rfl<|Ja rfl<|Ji<|bS rfl rfl ae<|JL rfl bL rfl<|ab (bC .nil (.cons (.of rfl) (.cons (.of rfl) .nil))) rfl ?_)
 rename_i b3 vI b4 wA b5 ND
 with_reducible apply ai
 case hr=>exact bj
 case hd=>rfl
 case hc=>
  intro w' aA
  have f1:w'.cell? ⟨b4,0,none⟩=some (.int .i64 v):=At.lit (by exact Take.there .here) rfl w' aA
  have f2:w'.cell? ⟨b5,0,none⟩=some (.string o):=At.lit (by exact .here) rfl w' aA
  exact zY (f:=298) (p:=Ej v o) (first:=[]) (cap:=[.pointer (some ⟨b4,0,none⟩),.pointer (some ⟨b5,0,none⟩)]) (h.po.keeps aA.keeps)
   (fun x hx w2 eF=>QA x (cu f1 rfl eF) (cu f2 rfl eF))
 have oG:ek r.po v o=(r.po.find? (Ej v o)).map Po.ip:=rfl
 rcases pe (Ej v o) r.po with ⟨e1,e2⟩ | ⟨i,hi,e1,e2⟩
 ·rw [e1]
  rw [e2] at oG
  rw [oG]
  refine Ja rfl<|Jn<|Jq<|Jr<|Jv rfl<|JA rfl<|Jn<|Jd rfl fun az=>Jr<|Ja rfl<|Ja rfl<|Jn<|Ju<|oW rfl (fV rfl rfl rfl) ?_
  rfl
 ·rw [e1]
  rw [e2] at oG
  rw [oG]
  have cG:=ha (ko hi)
  have aB:=(hc i _ (iy hi)).2
  unfold Po.cells at aB
  have jS:=aB 2 _ rfl
  (refine Ja rfl<|Jn<|Jq<|Jr<|Jv rfl<|JA rfl<|Jn<|Jc rfl fun az=>Jk<|Jr<|bS rfl rfl ae<|JL rfl bL rfl<|Jv rfl<|ab (ar (.of rfl) (.of rfl) cG (by omega) (by omega) bb) rfl<|bS rfl rfl ae<|ab (ag (.of rfl) (At.base jS rfl)) rfl<|Ja rfl<|Ja rfl<|Jn<|Je<|oW rfl (fV rfl rfl rfl) ?_)
  rfl
theorem Hg {r:Ro} {s d t p:Value} (v:Int) (o:ByteArray) {w:World} (h:RR w r s d t p):aj Tryz.prog 239 [RA r s d t p,.int .i64 v,.string o] w (.bool (nH r.po v o)):=by
 have h1:=Rd.one h.sr
 have h2:=Rd.one h.de
 have h3:=Rd.one h.ti
 have h4:=Rd.one h.po
 unfold RA
 refine ah Tryz.func239 rfl rfl ?_
 (refine Jr<|Jy rfl rfl fun _ _=>Jy rfl rfl fun _ _=>Jy rfl rfl fun _ _=>Ja rfl<|Ji<|bS rfl rfl ae<|JL rfl bL rfl<|ab (bC .nil (.cons (.of rfl) (.cons (.of rfl) .nil))) rfl ?_)
 rename_i b3 vI b4 wA b5 ND
 with_reducible apply ai
 case hr=>exact bj
 case hd=>rfl
 case hc=>
  intro w' aA
  have f1:w'.cell? ⟨b4,0,none⟩=some (.int .i64 v):=At.lit (by exact Take.there .here) rfl w' aA
  have f2:w'.cell? ⟨b5,0,none⟩=some (.string o):=At.lit (by exact .here) rfl w' aA
  exact NH (f:=302) (p:=zX v o) (first:=[]) (cap:=[.pointer (some ⟨b4,0,none⟩),.pointer (some ⟨b5,0,none⟩)]) (h.po.keeps aA.keeps)
   (fun x hx w2 eF=>PR x (cu f1 rfl eF) (cu f2 rfl eF))
 refine Ja rfl<|Jn<|Je<|JT ?_
 rfl
theorem u5 {r:Ro} {s d t p:Value} (v:Int) (o:ByteArray) {w w1:World} (h:RR w1 r s d t p) :
  bu Tryz.prog 116 [RA r s d t p,.int .i64 v,.string o] w [] (fun _:Nat×Nat×Nat=>True) (fun x=>.func (.func 222) #[] #[.pointer (some ⟨x.1,0,none⟩),.pointer (some ⟨x.2.1,0,none⟩),.pointer (some ⟨x.2.2,0,none⟩)])
   (fun x=>[bH x.1 (.cells #[.string o] 9 (0,0)),JP x.2.1 r s d t p,bH x.2.2 (.cells #[.int .i64 v] 3 (0,0))]):=by
 have h1:=Rd.one h.sr
 have h2:=Rd.one h.de
 have h3:=Rd.one h.ti
 have h4:=Rd.one h.po
 unfold RA
 refine aS Tryz.func116 rfl rfl ?_
 (refine Jr<|Jy rfl rfl fun _ _=>Jy rfl rfl fun _ _=>Jy rfl rfl fun _ _=>Ja rfl<|Ji<|ab (bC .nil (.cons (.of rfl) (.cons (.of rfl) (.cons (.of rfl) .nil)))) rfl<|Ja rfl<|Jn<|Je ?_)
 rename_i b3 vI b4 wA b5 ND
 first | with_reducible apply aO | with_reducible apply aP
 case he=>exact dH rfl rfl
 case hR=>
  intro w' aA
  exact aG (b5,b3,b4) trivial (by exact .cons .here (.cons (.there .here) (.cons .here .nil))) aA rfl
structure RO (md:List Nat) (r:Ro) (s d t p:Value):Prop where
 sr:Out md s (uL r.sr)
 de:Out md d (uy r.de)
 ti:Out md t (tX r.ti)
 po:Out md p (td r.po)
theorem RO.nil {r:Ro} {s d t p:Value}:RO [] r s d t p:=⟨Out.nil _ _,Out.nil _ _,Out.nil _ _,Out.nil _ _⟩
theorem RR.jB {md:List Nat} {w w':World} {r:Ro} {s d t p:Value} (h:RR w r s d t p) (hn:RO md r s d t p) (hk:aJ md w w'):RR w' r s d t p:=⟨h.sr.jB hn.sr hk,h.de.jB hn.de hk,h.ti.jB hn.ti hk,h.po.jB hn.po hk⟩
theorem RR.out {md fp:List Nat} {w0:World} {r:Ro} {s d t p:Value} (h:RR w0 r s d t p) (hn:RO md r s d t p) (hF:∀ b∈fp,b∈md∨w0.heap.size≤b):RO fp r s d t p:=⟨h.sr.out (by omega) hn.sr hF,h.de.out (by omega) hn.de hF,h.ti.out (by omega) hn.ti hF,h.po.out (by omega) hn.po hF⟩
def wV (po:List Po) (v:Int) (k:Nat) (o:ByteArray):List (List Value):=(eI po v k o).map fun x=>[.string x]
theorem rm (po:List Po) (v:Int) (k:Nat) (o:ByteArray):(wV po v k o).length=(eI po v k o).length:=by simp [wV]
theorem vn {po:List Po} {v:Int} {k:Nat} {o a:ByteArray} (h:mj po v k o=some a):mj po v (k+1) o=ek po v a:=by
 rw [j4,h]
 show (ek po v a).bind (mj po v 0)=_
 cases ek po v a <;> rfl
theorem FE {po:List Po} {v:Int} {k K:Nat} {o a:ByteArray} (h:mj po v k o=some a) (hk:k≤K) (hn:ek po v a=none∨k=K):(eI po v K o).length=k:=by
 have hl:=iC po v K o
 have h1:k≤(eI po v K o).length:=by
  cases k with
  | zero=>exact Zi _
  | succ k =>
   have:=ku (po:=po) (v:=v) (o:=o) (show k<K by omega)
   rw [h] at this
   exact (Zl.1 this).1
 rcases hn with hn | rfl
 ·by_cases e:k=K
  ·omega
  ·have:=ku (po:=po) (v:=v) (o:=o) (show k<K by omega)
   rw [vn h,hn,List.getElem?_eq_none_iff] at this
   omega
 ·omega
theorem MO {po:List Po} {v:Int} {k K:Nat} {o a i:ByteArray} (h:mj po v k o=some a) (hk:k<K) (hi:ek po v a=some i):(wV po v K o)[k]? = some [.string i]:=by
 unfold wV
 rw [ZF,ku hk,vn h,hi];rfl
set_option maxHeartbeats 1000000 in
theorem Dz {r:Ro} {s d t p:Value} {b1 b2 b3:Nat} (v:Int) (o:ByteArray) {w0 w:World} {md:List Nat} (h:RR w0 r s d t p) (hn:RO md r s d t p) (cT:r.ti.length≤1000000) :
  Iter Tryz.prog 222 [] [.pointer (some ⟨b1,0,none⟩),.pointer (some ⟨b2,0,none⟩),.pointer (some ⟨b3,0,none⟩)] [bH b1 (.cells #[.string o] 9 (0,0)),JP b2 r s d t p,bH b3 (.cells #[.int .i64 v] 3 (0,0))] (wV r.po v (r.ti.length+1) o) w0 md w:=by
 intro l fp J E hB hF lj hs hy
 have hR:=h.jB hn hB
 have hO:=h.out hn hF
 rw [rm]
 have h1:=Rd.one hR.sr
 have h2:=Rd.one hR.de
 have h4:=Rd.one hR.po
 have hti:=hR.ti
 obtain ⟨a,cp,b,o',rfl,dj,bV,ha,hc⟩:=hti
 rw [cd] at *
 unfold maxLen at bV
 refine eb Tryz.func222 rfl rfl lj hs ?_
 (refine Jr<|JL rfl (.there .here) rfl<|Ja rfl<|Ji<|bS rfl rfl ae<|JL rfl bL rfl<|JI rfl<|JB rfl (by omega)<|Jv rfl<|Jn<|J0 ?_)
 refine aW (ι:=Nat×ByteArray) (fun x=>x.1≤r.ti.length+1∧mj r.po v x.1 o=some x.2) (fun x=>[(13,.int .i64 (x.1:Nat)),(12,.int .i64 ((r.ti.length:Int)+1)),(5,.string x.2),(0,.func (.yield l) #[] #[]),(2,.pointer (some ⟨b2,0,none⟩)),(3,.pointer (some ⟨b3,0,none⟩))])
  (fun x=>[J x.1,bH b1 (.cells #[.string o] 9 (0,0)),JP b2 r s d (.slice a r.ti.length cp) p,bH b3 (.cells #[.int .i64 v] 3 (0,0))]) (fun x=>r.ti.length+1-x.1) ?_ ?_
 ·apply aI (0,o) ⟨Zi _,rfl⟩
  case hs1=>exact cg
  case ht=>(try simp only [Ze,Zf,Za]);exact .cons .here (.cons .here (.cons .here (.cons .here .nil)))
 rintro ⟨k,at_⟩ ⟨hk,hit⟩
 dsimp only at hk hit ⊢
 by_cases aM:k<r.ti.length+1
 ·have Um:∀ w',aJ fp w w'→aj Tryz.prog 223 [.agg #[.int .i64 r.lv,.int .i64 r.ma,s,d,.slice a r.ti.length cp,p],.int .i64 v,.string at_] w' (.tuple #[.string ((ek r.po v at_).getD ⟨#[]⟩),.bool (ek r.po v at_).isSome]):=fun w' hk=>zU v at_ (hR.jB hO hk)
  cases hi:ek r.po v at_ with
  | none =>
   have oG:∀ w',aJ fp w w'→aj Tryz.prog 223 [.agg #[.int .i64 r.lv,.int .i64 r.ma,s,d,.slice a r.ti.length cp,p],.int .i64 v,.string at_] w' (.tuple #[.string ⟨#[]⟩,.bool false]):=fun w' hk=>by
    have:=Um w' hk
    rwa [hi] at this
   have bh:=FE hit hk (.inl hi)
   (refine Jr<|JA rfl<|Jn<|Jq<|Jd rfl fun az=>Jk<|Jq<|J0<|Jr<|ab (cR bL) rfl<|JL rfl cW rfl<|Jv rfl<|ai eM rfl (fun w' aA=>(oG w' (Mem.keeps aA)))<|Jv rfl<|JJ rfl rfl<|JJ rfl rfl<|Ja rfl<|Ja rfl<|Jn<|Jq<|Jr<|Jv rfl<|JH rfl<|Jv rfl<|il rfl rfl rfl rfl<|il rfl rfl rfl rfl<|dC rfl rfl rfl rfl<|aD rfl rfl inferInstance (fun hg bA=>(dU (.bI bA rfl))) rfl<|ab (a7 (.of rfl) rfl) rfl<|Jn<|cP (.of rfl)<|Ju<|Jm<|Jh<|Jh<|Jm ?_)
   first | with_reducible apply aO | with_reducible apply aP
   case he=>exact pO rfl
   case hR=>
    intro w' aA
    exact aG true trivial (show bD _ [J (eI r.po v (r.ti.length+1) o).length,_,_,_] _ by rw [bh];exact .cons .here (.cons .here (.cons .here (.cons .here .nil)))) aA rfl
  | some nx =>
   have oG:∀ w',aJ fp w w'→aj Tryz.prog 223 [.agg #[.int .i64 r.lv,.int .i64 r.ma,s,d,.slice a r.ti.length cp,p],.int .i64 v,.string at_] w' (.tuple #[.string nx,.bool true]):=fun w' hk=>by
    have:=Um w' hk
    rwa [hi] at this
   have TB:=hy k _ (MO hit aM hi)
   have XG:mj r.po v (k+1) o=some nx:=by rw [vn hit,hi]
   (refine Jr<|JA rfl<|Jn<|Jq<|Jd rfl fun az=>Jk<|Jq<|J0<|Jr<|ab (cR bL) rfl<|JL rfl cW rfl<|Jv rfl<|ai eM rfl (fun w' aA=>(oG w' (Mem.keeps aA)))<|Jv rfl<|JJ rfl rfl<|JJ rfl rfl<|Ja rfl<|Ja rfl<|Jn<|Jq<|Jr<|Jv rfl<|JH rfl<|Jv rfl<|JK rfl rfl<|Jv rfl<|JK rfl rfl<|Jv rfl<|JK rfl rfl ?_)
   with_reducible apply xG hB hF TB
   case hx=>exact Is.of rfl
   case ha=>exact .cons (.of rfl) .nil
   case hd=>rfl
   case ht=>exact .here
   intro q
   cases q with
   | false =>
    simp only [cond_false]
    (refine JK rfl rfl<|JH rfl<|ab (gC (.of rfl) (.of rfl) (.of rfl) rfl) rfl<|Jn<|cP (.of rfl)<|Ju<|Jm<|Jh<|Jh<|Jm ?_)
    first | with_reducible apply aO | with_reducible apply aP
    case he=>exact pO rfl
    case hR=>
     intro w' aA
     exact aG false trivial (by exact .cons .here (.cons .here (.cons .here (.cons .here .nil)))) aA rfl
   | true =>
    simp only [cond_true]
    (refine JK rfl rfl<|JH rfl<|ab (gC (.of rfl) (.of rfl) (.of rfl) rfl) rfl<|Jn<|bK (.of rfl)<|Jk<|Jg<|Jv rfl<|Ja rfl<|Jx<|Jj<|Jt<|Jg<|JB rfl (by omega)<|Jv rfl<|Jn ?_)
    apply aK (k+1,nx) ⟨show k+1≤r.ti.length+1 by omega,XG⟩ (show r.ti.length+1-(k+1)<r.ti.length+1-k by omega)
    case hs1=>exact cg
    case ht=>(try simp only [Ze,Zf,Za]);exact .cons .here (.cons .here (.cons .here (.cons .here .nil)))
 ·obtain rfl:k=r.ti.length+1:=by omega
  have bh:=FE hit hk (.inr rfl)
  refine Jr<|JA rfl<|Jn<|Jq<|Jc rfl fun az=>Jp<|Jl<|Jo ?_
  first | with_reducible apply aO | with_reducible apply aP
  case he=>exact pO rfl
  case hR=>
   intro w' aA
   exact aG true trivial (show bD _ [J (eI r.po v (r.ti.length+1) o).length,_,_,_] _ by rw [bh];exact .cons .here (.cons .here (.cons .here (.cons .here .nil)))) aA rfl
def RC (r:Ro) (s d t p:Value):List Value:=[.int .i64 r.lv,.int .i64 r.ma,s,d,t,p]
def BR (w:World) (b:Nat) (cs:List Value):Prop:=∀ (j:Nat) (u:Value),cs[j]? = some u→w.cell? ⟨b,0+j,none⟩=some u
theorem BR.keeps {w w':World} {b:Nat} {cs:List Value} (h:BR w b cs) (hk:aJ [] w w'):BR w' b cs:=fun j u hu=>cu (h j u hu) rfl hk
theorem BR.of {c:Cx} {hs hs':List bd} {w:World} (hm:Mem c hs w) {b:Nat} {cs:List Value} {E:TypeId} {fz:Nat×Nat} (ht:Take hs (bH b (.cells cs.toArray E fz)) hs'):BR w b cs:=fun j u hu=>by
 rw [ZC]
 exact At.jL ht hu w hm
theorem Bw {P:Program} {c:Cx} {sl:aH} {hs:List bd} {dst:Option Tmp} {ty:TypeId} {pos:String} {af:Array Edge} {g:Option (Nat×Bool)} {t u:TypeId} {x y:Operand} {a b:Bool} [hu:iV P t .bool] (hx:Is sl x (.bool a)) (hy:Is sl y (.bool b)) :
  cY P c sl hs ⟨dst,.binOp .neq t x y u,ty,pos,af,g⟩ (.bool (a != b)):=
 iP hx hy fun w=>by
  have:(Op.equal t (.bool a) (.bool b)).run P w=.ok (a==b) w:=by
   exact E3 (d:=9999) (by rw [hu.eq];rfl) (fun k h=>by rw [hu.eq] at h;cases h) (fun h=>by rw [hu.eq] at h;cases h) (fun _=>⟨a,rfl⟩) rfl
  simp [Al,binOp,this,bne]
def Ir (r:Ro) (v:Int) (x:Ti):Bool:=gV r.po v x.nm != nH r.po v x.nm
def LB (r:Ro) (v:Int) (x:Ti):Bool:=jg (eI r.po v (r.ti.length+1) x.nm) x.nm
theorem MT {r:Ro} {s d t p:Value} (v:Int) (x:Ti) {b1 b2:Nat} {w:World} (h:RR w r s d t p) (hA:BR w b1 (RC r s d t p)) (f2:w.cell? ⟨b2,0,none⟩=some (.int .i64 v)) :
  aj Tryz.prog 238 [.agg x.cells.toArray,.pointer (some ⟨b1,0,none⟩),.pointer (some ⟨b2,0,none⟩)] w (.bool (Ir r v x)):=by
 have h1:=Rd.one h.sr
 have h2:=Rd.one h.de
 have h3:=Rd.one h.ti
 have h4:=Rd.one h.po
 have ke:∀ (j:Nat) (u:Value),[Value.int .i64 r.lv,.int .i64 r.ma,s,d,t,p][j]? = some u→w.cell? ⟨b1,0+j,none⟩=some u:=hA
 unfold Ti.cells
 refine ah Tryz.func238 rfl rfl ?_
 (refine Jr<|Jy rfl rfl fun _ _=>Ja rfl<|Ji<|ab (gW (ew.base ke rfl)) rfl<|ab (ag (.of rfl) (At.base f2 rfl)) rfl<|bS rfl rfl ae<|JL rfl .here rfl ?_)
 refine ai eM rfl (fun w' aA=>zU (s:=s) (d:=d) (t:=t) (p:=p) v x.nm (h.keeps aA.keeps)) ?_
 (refine Jv rfl<|JJ rfl rfl<|JJ rfl rfl<|Ja rfl<|Ja rfl<|Ji<|Jv rfl<|ab (gW (ew.base ke rfl)) rfl<|ab (ag (.of rfl) (At.base f2 rfl)) rfl<|bS rfl rfl ae<|JL rfl .here rfl ?_)
 refine ai eM rfl (fun w' aA=>Hg (s:=s) (d:=d) (t:=t) (p:=p) v x.nm (h.keeps aA.keeps)) ?_
 skip
 refine ab (Bw (.of rfl) (.of rfl)) rfl ?_
 refine Ja rfl<|Jn<|Je<|JT ?_
 rfl
theorem Qn {r:Ro} {s d t p:Value} (v:Int) {w:World} (h:RR w r s d t p):aj Tryz.prog 150 [RA r s d t p,.int .i64 v] w (.bool (r.ti.any (Ir r v))):=by
 have h1:=Rd.one h.sr
 have h2:=Rd.one h.de
 have h3:=Rd.one h.ti
 have h4:=Rd.one h.po
 unfold RA
 refine ah Tryz.func150 rfl rfl ?_
 (refine Jr<|Jy rfl rfl fun _ _=>Jy rfl rfl fun _ _=>Ja rfl<|Ji<|bS rfl rfl ae<|JL rfl (.there .here) rfl<|ab (bC .nil (.cons (.of rfl) (.cons (.of rfl) .nil))) rfl ?_)
 rename_i b3 vI b4 wA
 with_reducible apply ai
 case hr=>exact bj
 case hd=>rfl
 case hc=>
  intro w' aA
  have hA:BR w' b3 [.int .i64 r.lv,.int .i64 r.ma,s,d,t,p]:=BR.of aA (by exact Take.there .here)
  have f2:w'.cell? ⟨b4,0,none⟩=some (.int .i64 v):=At.lit (by exact .here) rfl w' aA
  have hR:=h.keeps aA.keeps
  exact Ae (f:=238) (p:=Ir r v) (first:=[]) (cap:=[.pointer (some ⟨b3,0,none⟩),.pointer (some ⟨b4,0,none⟩)]) hR.ti
   (fun x hx w2 eF=>MT v x (hR.keeps eF) (hA.keeps eF) (cu f2 rfl eF))
 refine Ja rfl<|Jn<|Je<|JT ?_
 rfl
theorem PA {r:Ro} {s d t p:Value} {q:Int→Bool} {f:FuncId} {first cap:List Value} [bR Tryz.prog f] {w w1:World} (h:RR w1 r s d t p) (z7:r.lv≤1000000)
  (cz:∀ v:Int,0≤v→v<r.lv→∀ w',aJ [] w w'→aj Tryz.prog f (first++[.int .i64 v]++cap) w' (.bool (q v))) :
  aj Tryz.prog 148 [RA r s d t p,.func (.func f) first.toArray cap.toArray] w (.bool ((List.range r.lv.toNat).any fun i=>q (i:Nat))):=by
 have h1:=Rd.one h.sr
 have h2:=Rd.one h.de
 have h3:=Rd.one h.ti
 have h4:=Rd.one h.po
 unfold RA
 refine ah Tryz.func148 rfl rfl ?_
 (refine Jr<|Jy rfl rfl fun _ _=>Ja rfl<|Jn<|Jq<|Jr<|bS rfl rfl ae<|JL rfl .here rfl<|Jv rfl<|Jn<|J0 ?_)
 refine aW (ι:=Nat) (fun k=>k≤r.lv.toNat∧∀ i,i<k→q (i:Nat)=false) (fun k=>[(8,.int .i64 (k:Nat)),(7,.int .i64 r.lv),(1,.func (.func f) first.toArray cap.toArray)]) (fun k=>[]) (fun k=>r.lv.toNat-k) ?_ ?_
 ·apply aI 0 ⟨Zi _,fun i h=>by omega⟩
  case hs1=>exact cg
  case ht=>(try simp only [Ze,Zf,Za]);exact .nil
 rintro k ⟨hk,hz⟩
 by_cases aM:k<r.lv.toNat
 ·have Fe:((k:Nat):Int)<r.lv:=by omega
  refine Jr<|JA rfl<|Jn<|Jq<|Jd rfl fun az=>Jk<|Jq<|J0<|Jr<|Jv rfl<|Ja rfl<|Ji<|Jv rfl<|Jv rfl ?_
  refine ai bN rfl (fun w' aA=>cz (k:Nat) (by omega) Fe w' aA.keeps) ?_
  cases hq:q (k:Nat) with
  | true =>
   have e:(List.range r.lv.toNat).any (fun i=>q (i:Nat))=true:=ZM.2 ⟨k,ZQ.2 aM,hq⟩
   rw [e]
   (refine Jn<|cP (.of rfl)<|Jr<|Ja rfl<|Jn<|Je<|Jm<|Jh<|Jh<|Jm<|Jh<|JT ?_)
   rfl
  | false =>
   (refine Jn<|bK (.of rfl)<|Jw<|Jj<|Jt<|Jg<|JB rfl (by omega)<|Jv rfl<|Jn ?_)
   have IY:∀ i,i<k+1→q (i:Nat)=false:=fun i hi=>by
    by_cases e:i=k
    ·rw [e];exact hq
    ·exact hz i (by omega)
   apply aK (k+1) ⟨show k+1≤r.lv.toNat by omega,IY⟩ (show r.lv.toNat-(k+1)<r.lv.toNat-k by omega)
   case hs1=>exact cg
   case ht=>(try simp only [Ze,Zf,Za]);exact .nil
 ·have e:(List.range r.lv.toNat).any (fun i=>q (i:Nat))=false:=by
   rw [Z9]
   intro i hi
   simp [hz i (by have:=ZQ.1 hi;omega)]
  rw [e]
  refine Jr<|JA rfl<|Jn<|Jq<|Jc rfl fun az=>Jp<|Jl<|Jo<|Jt<|Jr<|Ja rfl<|Jn<|Je<|JT ?_
  rfl
theorem RX {po:List Po} {v:Int} {K:Nat} {o:ByteArray}:mj po v (eI po v K o).length o=some (gS po v K o):=by
 unfold gS
 rcases Nat.eq_zero_or_pos (eI po v K o).length with h | h
 ·rw [Zan.1 h];rfl
 ·obtain ⟨k,hk⟩:∃ k,(eI po v K o).length=k+1:=⟨(eI po v K o).length-1,by omega⟩
  have hl:=iC po v K o
  have:=ku (po:=po) (v:=v) (o:=o) (show k<K by omega)
  rw [hk,← this,List.getLast?_eq_getElem?,hk,Zas,Zc (by omega)];rfl
theorem Dy {po:List Po} {v:Int} {k K:Nat} {o:ByteArray} {vs:List Value} (h:(wV po v K o)[k]? = some vs):∃ a,mj po v (k+1) o=some a∧vs=[.string a]∧(eI po v K o)[k]? = some a:=by
 unfold wV at h
 rw [ZF,Zak] at h
 obtain ⟨a,ha,rfl⟩:=h
 have hl:=iC po v K o
 have hk:=(Zl.1 ha).1
 exact ⟨a,by rw [← ku (k:=K) (by omega)];exact ha,rfl,ha⟩
theorem Kx {r:Ro} {s d t p:Value} (v:Int) (x:Ti) {b1 b2:Nat} {w:World} (h:RR w r s d t p) (cT:r.ti.length≤1000000) (hA:BR w b1 (RC r s d t p)) (f2:w.cell? ⟨b2,0,none⟩=some (.int .i64 v)) :
  aj Tryz.prog 237 [.agg x.cells.toArray,.pointer (some ⟨b1,0,none⟩),.pointer (some ⟨b2,0,none⟩)] w (.bool (LB r v x)):=by
 have h1:=Rd.one h.sr
 have h2:=Rd.one h.de
 have h3:=Rd.one h.ti
 have h4:=Rd.one h.po
 have ke:∀ (j:Nat) (u:Value),[Value.int .i64 r.lv,.int .i64 r.ma,s,d,t,p][j]? = some u→w.cell? ⟨b1,0+j,none⟩=some u:=hA
 unfold Ti.cells
 refine ah Tryz.func237 rfl rfl ?_
 (refine Jr<|Jy rfl rfl fun _ _=>Jz rfl rfl fun _ _=>Jn<|Jq<|Jr<|ab (gW (ew.base ke rfl)) rfl<|ab (ag (.of rfl) (At.base f2 rfl)) rfl<|bS rfl rfl ae<|JL rfl (.there .here) rfl ?_)
 rename_i b3 vI b4 wA
 refine JN eM rfl (fun w1 aR=>u5 v x.nm (h.keeps aR.keeps)) ?_
 intro y _
 dsimp only [id_eq,Zb,Za]
 refine Jn<|J0 ?_
 refine jn (ps:=[11]) (f:=222) (first:=[]) (cap:=[.pointer (some ⟨y.1,0,none⟩),.pointer (some ⟨y.2.1,0,none⟩),.pointer (some ⟨y.2.2,0,none⟩)]) (ι:=Unit) (κ:=Unit) (rst:=[]) ?hg
  [bH y.1 (.cells #[.string x.nm] 9 (0,0)),JP y.2.1 r s d t p,bH y.2.2 (.cells #[.int .i64 v] 3 (0,0))] (wV r.po v (r.ti.length+1) x.nm) ?hit
  (fun k _=>jg ((eI r.po v (r.ti.length+1) x.nm).take k) x.nm=false) (fun _=>[bH b4 (.cells #[.bool false] 4 (0,0)),bH b3 (.cells #[.string x.nm,.int .i64 x.fr,.int .i64 x.to] 187 (0,0))])
  (fun _=>LB r v x=true) (fun _=>[bH b4 (.cells #[.bool true] 4 (0,0)),bH b3 (.cells #[.string x.nm,.int .i64 x.fr,.int .i64 x.to] 187 (0,0))]) (fun _=>.ret) () (by rw [Ze];rfl) ?ht ?hlen ?hps ?round ?kn ?kj
 case hg=>exact Is.of rfl
 case hit=>intro w' aA;exact Dz v x.nm h RO.nil cT
 case ht=>
  dsimp only [Zb,Za]
  exact .cons cW (.cons cW (.cons .here (.cons .here (.cons .here .nil))))
 case hlen=>intro vs oF;obtain ⟨x,_,rfl⟩:=Zt.1 oF;rfl
 case hps=>intro t ht;simp only [ZS,Zp,or_false] at ht;rcases ht with rfl;exact Zav rfl
 case kj=>
  intro y D hy
  rw [hy]
  dsimp only [Zb,Za]
  refine Je<|Jm<|Jh ?_
  first | with_reducible apply aO | with_reducible apply aP
  case he=>exact FA rfl inferInstance rfl (At.lit .here rfl)
  case hR=>exact fun w' aA=>⟨rfl,aA.keeps⟩
 case kn=>
  intro _ D hq
  rw [rm,ZN] at hq
  have wx:LB r v x=false:=hq
  rw [wx]
  dsimp only [Zb,Za]
  (refine Jj<|Jt<|Jr<|aq (.of rfl) (.of rfl) .here rfl rfl (en rfl) (bG rfl) ak<|Jn<|Je ?_)
  first | with_reducible apply aO | with_reducible apply aP
  case he=>exact FA rfl inferInstance rfl (At.lit .here rfl)
  case hR=>exact fun w' aA=>⟨rfl,aA.keeps⟩
 case round=>
  intro l0 rc W fp k u vs hsz hk hq hB hF
  obtain ⟨a,hit,rfl,B6⟩:=Dy hk
  obtain ⟨aM,J8⟩:=Zl.1 B6
  have htk:(eI r.po v (r.ti.length+1) x.nm).take (k+1)=(eI r.po v (r.ti.length+1) x.nm).take k++[a]:=by rw [Zn aM,J8]
  dsimp only [List.zip_cons_cons,List.zip_nil_right,mh,Zb,Za]
  refine Jg<|Ja rfl<|Jn ?_
  with_reducible apply mw
  case ht=>exact .here
  (refine J0<|Jr<|Jv rfl<|bS rfl rfl ae<|JL rfl bL rfl<|ab (dG (.of rfl) (.of rfl)) rfl<|Jn<|gm rfl (fun az=>?_) fun az=>?_;refine Jr<|aq (.of rfl) (.of rfl) (.there .here) rfl rfl (en rfl) (bG rfl) ak<|Jn<|Je<|Jm ?_;rotate_left;refine Jw<|Jj ?_;rotate_right)
  ·apply LX () rfl
   case ht=>exact Take.there .here
   case hy=>
    refine eV.2 ?_
    have:=ZV B6
    rwa [az] at this
   case h2=>exact .cons .here (.cons .here .nil)
  ·apply lM ()
   case ht=>exact .here
   case hx=>
    show jg ((eI r.po v (r.ti.length+1) x.nm).take (k+1)) x.nm=false
    rw [htk]
    unfold jg at hq ⊢
    rw [List.any_append,hq]
    simp
    exact fun e=>az e.symm
   case h2=>exact .cons .here (.cons .here .nil)
theorem Ef (x:Sr) (o:ByteArray) {b2:Nat} {w:World} (f2:w.cell? ⟨b2,0,none⟩=some (.string o)) :
  aj Tryz.prog 228 [.agg x.cells.toArray,.pointer (some ⟨b2,0,none⟩)] w (.bool (decide (x.nm=o))):=by
 unfold Sr.cells
 refine ah Tryz.func228 rfl rfl ?_
 (refine Jr<|Jy rfl rfl fun _ _=>Ja rfl<|Ji<|bS rfl rfl ae<|JL rfl .here rfl<|ab (ag (.of rfl) (At.base f2 rfl)) rfl<|ab (dG (.of rfl) (.of rfl)) rfl<|Ja rfl<|Jn<|Je<|JT ?_)
 rfl
theorem N4 {r:Ro} {s d t p:Value} (v:Int) {w:World} (h:RR w r s d t p) (cT:r.ti.length≤1000000):aj Tryz.prog 149 [RA r s d t p,.int .i64 v] w (.bool (r.ti.any (LB r v))):=by
 have h1:=Rd.one h.sr
 have h2:=Rd.one h.de
 have h3:=Rd.one h.ti
 have h4:=Rd.one h.po
 unfold RA
 refine ah Tryz.func149 rfl rfl ?_
 (refine Jr<|Jy rfl rfl fun _ _=>Jy rfl rfl fun _ _=>Ja rfl<|Ji<|bS rfl rfl ae<|JL rfl (.there .here) rfl<|ab (bC .nil (.cons (.of rfl) (.cons (.of rfl) .nil))) rfl ?_)
 rename_i b3 vI b4 wA
 with_reducible apply ai
 case hr=>exact bj
 case hd=>rfl
 case hc=>
  intro w' aA
  have hA:BR w' b3 [.int .i64 r.lv,.int .i64 r.ma,s,d,t,p]:=BR.of aA (by exact Take.there .here)
  have f2:w'.cell? ⟨b4,0,none⟩=some (.int .i64 v):=At.lit (by exact .here) rfl w' aA
  have hR:=h.keeps aA.keeps
  exact Ae (f:=237) (p:=LB r v) (first:=[]) (cap:=[.pointer (some ⟨b3,0,none⟩),.pointer (some ⟨b4,0,none⟩)]) hR.ti
   (fun x hx w2 eF=>Kx v x (hR.keeps eF) cT (hA.keeps eF) (cu f2 rfl eF))
 refine Ja rfl<|Jn<|Je<|JT ?_
 rfl
def jG (r:Ro) (v:Int) (o:ByteArray):ByteArray:=if r.sr.any (fun x=>decide (x.nm=gS r.po v (r.ti.length+1) o)) then gS r.po v (r.ti.length+1) o else ⟨#[]⟩
theorem pq {r:Ro} {s d t p:Value} (v:Int) (o:ByteArray) {w:World} (h:RR w r s d t p) (cT:r.ti.length≤1000000):aj Tryz.prog 126 [RA r s d t p,.int .i64 v,.string o] w (.string (jG r v o)):=by
 have h1:=Rd.one h.sr
 have h2:=Rd.one h.de
 have h3:=Rd.one h.ti
 have h4:=Rd.one h.po
 unfold RA
 refine ah Tryz.func126 rfl rfl ?_
 (refine Jr<|Jy rfl rfl fun _ _=>Ja rfl<|Ji<|Jv rfl<|Jz rfl rfl fun _ _=>aq (.of rfl) (.of rfl) .here rfl rfl (en rfl) (bG rfl) ak<|Jn<|Jq<|Jr<|ab (cR (.there .here)) rfl<|Jv rfl<|Jv rfl ?_)
 rename_i b3 vI b7 Ux
 refine JN eM rfl (fun w1 aR=>u5 v o (h.keeps aR.keeps)) ?_
 intro y _
 dsimp only [id_eq,Zb,Za]
 refine Jn<|J0 ?_
 refine jn (ps:=[14]) (f:=222) (first:=[]) (cap:=[.pointer (some ⟨y.1,0,none⟩),.pointer (some ⟨y.2.1,0,none⟩),.pointer (some ⟨y.2.2,0,none⟩)]) (ι:=ByteArray) (κ:=Empty) (rst:=[JP b3 r s d t p]) ?hg
  [bH y.1 (.cells #[.string o] 9 (0,0)),JP y.2.1 r s d t p,bH y.2.2 (.cells #[.int .i64 v] 3 (0,0))] (wV r.po v (r.ti.length+1) o) ?hit
  (fun k a=>mj r.po v k o=some a) (fun a=>[bH b7 (.cells #[.string a] 9 (0,0))])
  (fun _=>False) (fun _=>[]) (fun _=>.ret) o rfl ?ht ?hlen ?hps ?round ?kn ?kj
 case hg=>exact Is.of rfl
 case hit=>intro w' aA;exact Dz v o h RO.nil cT
 case ht=>
  dsimp only [Zb,Za]
  exact .cons cW (.cons .here (.cons .here (.cons .here .nil)))
 case hlen=>intro vs oF;obtain ⟨x,_,rfl⟩:=Zt.1 oF;rfl
 case hps=>intro t ht;simp only [ZS,Zp,or_false] at ht;rcases ht with rfl;exact Zav rfl
 case kj=>
  intro y D hy
  exact hy.elim
 case kn=>
  intro a D hq
  rw [rm,RX,Option.some.injEq] at hq
  have AQ:jG r v o=if r.sr.any (fun x=>decide (x.nm=a)) then a else ⟨#[]⟩:=by rw [← hq];rfl
  rw [AQ]
  dsimp only [Zb,Za]
  (refine Jj<|Jt<|Jq<|Jr<|bS rfl rfl ae<|JL rfl dT rfl<|ab (bC .nil (.cons (.of rfl) .nil)) rfl ?_)
  with_reducible apply ai
  case hr=>exact bj
  case hd=>rfl
  case hc=>
   intro w' aA
   have f2:w'.cell? ⟨b7,0,none⟩=some (.string a):=At.lit (by exact .here) rfl w' aA
   exact NG (f:=228) (p:=fun x=>decide (x.nm=a)) (first:=[]) (cap:=[.pointer (some ⟨b7,0,none⟩)]) (h.keeps aA.keeps).sr
    (fun x hx w2 eF=>Ef x a (cu f2 rfl eF))
  cases r.sr.any (fun x=>decide (x.nm=a)) with
  | true =>
   (refine Jn<|cP (.of rfl)<|Jr<|JL rfl .here rfl<|Ja rfl<|Jn<|Ju ?_)
   first | with_reducible apply aO | with_reducible apply aP
   case he=>exact dH rfl rfl
   case hR=>exact fun w' aA=>⟨rfl,aA.keeps⟩
  | false =>
   (refine Jn<|bK (.of rfl)<|Jk<|Jr<|Ja rfl<|Jn<|Je ?_)
   first | with_reducible apply aO | with_reducible apply aP
   case he=>exact dH rfl rfl
   case hR=>exact fun w' aA=>⟨rfl,aA.keeps⟩
 case round=>
  intro l0 rc W fp k a0 vs hsz hk hq hB hF
  obtain ⟨a,hit,rfl,B6⟩:=Dy hk
  dsimp only [List.zip_cons_cons,List.zip_nil_right,mh,Zb,Za]
  refine Jg<|Ja rfl<|Jn ?_
  with_reducible apply mw
  case ht=>exact .here
  (refine J0<|Jg<|Jv rfl<|aq (.of rfl) (.of rfl) (.there .here) rfl rfl (en rfl) (bG rfl) ak<|Jx<|Jj ?_)
  apply lM a
  case ht=>exact Take.there .here
  case hx=>exact hit
  case h2=>
   exact .cons .here .nil
theorem qG {k k':ByteArray} {v:Value}:∀ {l:List (ByteArray×Value)},eD k' (mN k v l)=if k'=k then some v else eD k' l
 | []=>by simp [mN,eD]
 | (x, u) :: r => by
  simp only [mN]
  split
  ·rename_i e;subst e;simp only [eD];split <;> rfl
  ·rename_i e
   simp only [eD]
   rw [qG]
   by_cases h:k'=x
   ·rw [if_pos h,if_pos h,if_neg (fun q=>e (q.symm.trans h))]
   ·rw [if_neg h,if_neg h]
theorem IE {α:Type} {l:List α} {key:α→ByteArray} {val:Nat→α→Value} {f:Nat→PM} (hs:∀ k (h:k<l.length),f (k+1)=mN (key l[k]) (val k l[k]) (f k)) (s:ByteArray) :
  (∀ k,k≤l.length→(∀ j (hj:j<l.length),j<k→key l[j]≠s)→eD s (f k)=eD s (f 0)) ∧
  (∀ k,k≤l.length→∀ i (hi:i<l.length),i<k→key l[i]=s→(∀ j (hj:j<l.length),i<j→j<k→key l[j]≠s)→eD s (f k)=some (val i l[i])):=by
 constructor
 ·intro k
  induction k with
  | zero=>intro _ _;rfl
  | succ k ih =>
   intro hk hne
   rw [hs k (by omega),qG,if_neg (fun e=>hne k (by omega) (by omega) e.symm)]
   exact ih (by omega) fun j hj h=>hne j hj (by omega)
 ·intro k
  induction k with
  | zero=>intro _ i _ h;omega
  | succ k ih =>
   intro hk i hi VO he hne
   rw [hs k (by omega),qG]
   by_cases e:i=k
   ·subst e
    rw [if_pos he.symm]
   ·rw [if_neg (fun q=>hne k (by omega) (by omega) (by omega) q.symm)]
    exact ih (by omega) i hi (by omega) he fun j hj h h'=>hne j hj h (by omega)
theorem vg {α:Type} {l:List α} {key:α→ByteArray} {val:Nat→α→Value} {f:Nat→PM} (hs:∀ k (h:k<l.length),f (k+1)=mN (key l[k]) (val k l[k]) (f k)) (s:ByteArray) :
  (s ∉ l.map key→eD s (f l.length)=eD s (f 0))∧((l.map key).Nodup→∀ i (hi:i<l.length),key l[i]=s→eD s (f l.length)=some (val i l[i])):=by
 obtain ⟨h1,h2⟩:=IE hs s
 constructor
 ·intro hn
  exact h1 _ (Zz _) fun j hj _ e=>hn (Zt.2 ⟨_,Zj hj,e⟩)
 ·intro hd i hi he
  refine h2 _ (Zz _) i hi hi he fun j hj wY _ e=>?_
  have:=(Z4.1 hd) i j (by rw [Zd];exact hi) (by rw [Zd];exact hj) wY
  rw [Z1,Z1,he,e] at this
  exact this rfl
structure CT (r:Ro):Prop where
 nd:(ef r).Nodup
theorem CT.parts {r:Ro} (h:CT r):(cF r).Nodup∧(cq r).Nodup∧(cM r).Nodup∧(∀ s∈cF r,s ∉ cq r)∧(∀ s∈cF r,s ∉ cM r)∧(∀ s∈cq r,s ∉ cM r):=by
 have:=h.nd
 unfold ef at this
 rw [ZH] at this
 obtain ⟨h1,h2,h3⟩:=this
 rw [ZH] at h1
 obtain ⟨h4,h5,h6⟩:=h1
 exact ⟨h4,h5,h2,fun s hs hd=>h6 s hs s hd rfl,fun s hs ht=>h3 s (ZE _ hs) s ht rfl,fun s hs ht=>h3 s (ZT _ hs) s ht rfl⟩
theorem eG {l:List ByteArray} {s:ByteArray} (h:s∈l):0≤bE l s:=by
 have:=(not_congr (cm (l:=l) (s:=s))).2 (not_not_intro h)
 omega
theorem sD {l:List ByteArray} {s:ByteArray} (hd:l.Nodup) {i:Nat} (h:i<l.length) (e:l[i]=s):bE l s=(i:Nat):=
 qt h e fun j hj q=>by
  have:=(Z4.1 hd) j i (by omega) h hj
  exact this (q.trans e.symm)
theorem pY {r:Ro} (hd:CT r) (s:ByteArray):eD s (oq r)=if jg (ef r) s then some (lG (dX r s) (kC r s) (j7 r s)) else none:=by
 obtain ⟨n1,n2,n3,d1,d2,d3⟩:=hd.parts
 have hS:=vg (l:=r.sr) (key:=Sr.nm) (val:=fun _ x=>lG (-1) (-1) x.mx) (f:=wu r.sr) (fun k h=>Ia h) s
 have hD:=vg (l:=r.de) (key:=De.nm) (val:=fun k x=>lG (k:Nat) x.mx (-1)) (f:=CL (wu r.sr r.sr.length) r.de) (fun k h=>Ib h) s
 have hT:=vg (l:=r.ti) (key:=Ti.nm) (val:=fun k x=>lG ((r.de.length:Int)+(k:Nat)) x.fr x.to) (f:=Lo (CL (wu r.sr r.sr.length) r.de r.de.length) r.de.length r.ti) (fun k h=>H9 h) s
 change (s ∉ cM r→eD s (oq r)=eD s (CL (wu r.sr r.sr.length) r.de r.de.length))∧((cM r).Nodup→_) at hT
 change (s ∉ cq r→eD s (CL (wu r.sr r.sr.length) r.de r.de.length)=eD s (wu r.sr r.sr.length))∧((cq r).Nodup→_) at hD
 change (s ∉ cF r→eD s (wu r.sr r.sr.length)=eD s [])∧((cF r).Nodup→_) at hS
 have dZ:jg (ef r) s=true↔(s∈cF r∨s∈cq r)∨s∈cM r:=by rw [eV];unfold ef;rw [Zx,Zx]
 by_cases ht:s∈cM r
 ·rw [if_pos (dZ.2 (.inr ht))]
  obtain ⟨i,hi,e⟩:=Zu ht
  have AO:i<r.ti.length:=by unfold cM at hi;rwa [Zd] at hi
  have e':(r.ti[i]).nm=s:=by simpa [cM] using e
  have hf:=sD n3 hi e
  have f1:bE (cq r) s<0:=cm.2 fun h=>d3 s h ht
  have f2:bE (cF r) s<0:=cm.2 fun h=>d2 s h ht
  refine (hT.2 n3 i AO e').trans ?_
  unfold dX kC j7
  rw [if_neg (by omega),if_pos (by rw [hf];omega),if_neg (by omega),if_pos (by rw [hf];omega),if_neg (by omega),if_pos (by rw [hf];omega),hf,ZI,Zk,Zc AO]
  rfl
 ·rw [hT.1 ht]
  have f3:bE (cM r) s<0:=cm.2 ht
  by_cases wz:s∈cq r
  ·rw [if_pos (dZ.2 (.inl (.inr wz)))]
   obtain ⟨i,hi,e⟩:=Zu wz
   have AO:i<r.de.length:=by unfold cq at hi;rwa [Zd] at hi
   have e':(r.de[i]).nm=s:=by simpa [cq] using e
   have hf:=sD n2 hi e
   have f2:bE (cF r) s<0:=cm.2 fun h=>d1 s h wz
   refine (hD.2 n2 i AO e').trans ?_
   unfold dX kC j7
   rw [if_pos (by rw [hf];omega),if_pos (by rw [hf];omega),if_neg (by omega),if_neg (by omega),hf,ZI,Zk,Zc AO]
   rfl
  ·rw [hD.1 wz]
   have f1:bE (cq r) s<0:=cm.2 wz
   by_cases hs:s∈cF r
   ·rw [if_pos (dZ.2 (.inl (.inl hs)))]
    obtain ⟨i,hi,e⟩:=Zu hs
    have AO:i<r.sr.length:=by unfold cF at hi;rwa [Zd] at hi
    have e':(r.sr[i]).nm=s:=by simpa [cF] using e
    have hf:=sD n1 hi e
    refine (hS.2 n1 i AO e').trans ?_
    unfold dX kC j7
    rw [if_neg (by omega),if_neg (by omega),if_neg (by omega),if_neg (by omega),if_pos (by rw [hf];omega),hf,ZI,Zk,Zc AO]
    rfl
   ·rw [hS.1 hs,if_neg (fun h=>by rcases dZ.1 h with (h | h) | h <;> contradiction)]
    rfl
def kr (x y:Int):Int:=if x<y then -1 else if y<x then 1 else 0
def lI:List Int→List Int→Int
 | [],[]=>0
 | [],_::_=>-1
 | _::_,[]=>1
 | x::a,y::b=>if kr x y≠0 then kr x y else lI a b
theorem iB {x y:Int}:kr x y=0↔x=y:=by
 unfold kr
 split
 ·constructor <;> intro h <;> omega
 ·split <;> constructor <;> intro h <;> omega
theorem KI:∀ b:List Int,lI [] b=if 0<b.length then -1 else 0
 | []=>rfl
 | _::_=>rfl
theorem GR {a b:List Int} {k:Nat} (ha:k<a.length) (hb:k<b.length):lI (a.drop k) (b.drop k)=if kr a[k] b[k]≠0 then kr a[k] b[k] else lI (a.drop (k+1)) (b.drop (k+1)):=by
 rw [Zw ha,Zw hb];rfl
end Go.Proofs.A1
