/- Parts of the proof: KE KF KV GkOff GkSortK TryzSortF KG KH KI. -/
import Derived.Test.YteonnodafmegaaaGreatDoorAM06
import Derived.Test.YteonnodafmegaaaGreatDoorAM04
import Derived.Test.YteonnodafmegaaaGreatDoorAM03
import Derived.Test.YteonnodafmegaaaGreatDoorAM02
import Derived.ArgAppend
import Derived.Shelf.SlSortCmp.WholeK
import Derived.Shelf.SlSortCmp.NoneTotal
import Derived.Shelf.SlicesG.Cmp
import Derived.Ground.SlsfProg
import Derived.Ground.SlgcProg
import Derived.Ground.NamesProg
import Derived.Ground.Names2Prog
import Derived.Test.YteonnodafmegaaaGreatDoorProg
set_option linter.unusedSectionVars false
set_option linter.unusedVariables false
set_option linter.unusedSimpArgs false
namespace Go.Proofs.A1
open Go Go.SL
theorem dJ {w w':World} {a:Addr} {v:Value} {md:List Nat} (h:w.cell? a=some v) (hs:a.spot=none) (hn:a.block ∉ md) (hk:aF md w w'):w'.cell? a=some v:=by
 have hb:=World.block_lt_of_cell? w a h
 obtain ⟨b,o,s⟩:=a
 subst hs
 have:=hk.block b hb hn
 rw [← h]
 simp [World.cell?,this]
theorem BR.iN {w w':World} {b:Nat} {cs:List Value} {md:List Nat} (h:BR w b cs) (hn:b ∉ md) (hk:aF md w w'):BR w' b cs:=fun j u hu=>dJ (h j u hu) rfl hn hk
theorem IM {q:Bool} {o:ByteArray} {f:FuncId} {first cap:List Value} [bP Tryz.prog f] {b5:Nat} {w:World} (f5:w.cell? ⟨b5,0,none⟩=some (.func (.func f) first.toArray cap.toArray))
  (ch:∀ w',aF [] w w'→aj Tryz.prog f (first++[.string o]++cap) w' (.bool q)) :
  aj Tryz.prog 225 [.string o,.pointer (some ⟨b5,0,none⟩)] w (.bool (!q)):=by
 refine ah Tryz.func225 rfl rfl ?_
 (refine Jr<|Ja rfl<|Ji<|ab (ai (.of rfl) (At.base f5 rfl)) rfl ?_;refine Jv rfl ?_)
 refine ag bC rfl (fun w' az=>ch w' az.keeps) ?_
 refine JH rfl<|Ja rfl<|Jn<|Je<|JT ?_
 rfl
theorem Dd {lv:Value} {l:List Ti} {q:ByteArray→Bool} {f:FuncId} {first cap:List Value} [bP Tryz.prog f] {w:World} (h:Rd w lv 3 (tW l)) (hn:l.length≤1000000)
  (ch:∀ o w',aF [] w w'→aj Tryz.prog f (first++[.string o]++cap) w' (.bool (q o))) :
  bd Tryz.prog 118 [lv,.func (.func 119) #[] #[],.func (.func f) first.toArray cap.toArray] w [] (fun _:Value=>True) id (fun v=>[row 9 1 v ((l.map Ti.nm).filter q).length (aM ((l.map Ti.nm).filter q))]):=by
 have zi:=Rd.one h
 refine aR Tryz.func118 rfl rfl ?_
 refine Jr<|Jy rfl rfl fun _ _=>Ja rfl<|Ji<|Jv rfl<|Jv rfl ?_
 rename_i b5 Mb
 refine JN aZ rfl (fun w1 aJ=>LB (f:=119) (first:=[]) (cap:=[]) (g:=Ti.nm) (h.keeps aJ.keeps) hn (fun x _ w2 _=>Hp x w2)) ?_
 intro nv _
 dsimp only [id_eq,List.cons_append,List.nil_append]
 refine ab (bn .nil (.cons (.of rfl) .nil)) rfl ?_
 with_reducible apply fE (As:=[row 9 1 nv l.length (aM (l.map Ti.nm))])
 case hr=>exact aZ
 case hd=>rfl
 case ht=>exact sK
 case hc=>
  intro w1 Ad aJ uO hs1 B5 kd
  have h5:b5 ∉ Ad:=kd b5 _ _ (by exact .here)
  have f5:w1.cell? ⟨b5,0,none⟩=some (.func (.func f) first.toArray cap.toArray):=At.lit (by exact Take.there .here) rfl w1 aJ
  exact Iz (f:=225) (p:=fun o=>!q o) (first:=[]) (cap:=[.pointer (some ⟨b5,0,none⟩)]) uO hs1 (by rw [List.length_map]) hn
   (fun o _ w2 ez=>IM (dJ f5 rfl h5 ez) (fun w3 VE=>ch o w3 ((aJ.keeps.over (fun b hb=>B5 b hb) ez).trans VE)))
 intro v' _
 dsimp only [id_eq,List.cons_append,List.nil_append]
 simp only [Bool.not_not]
 refine Ja rfl<|Jn<|Je ?_
 first | with_reducible apply aO | with_reducible apply aP
 case he=>exact dj rfl rfl
 case hR=>
  intro w' az
  exact aB v' trivial (by exact .cons .here .nil) az rfl
theorem IN {q:Bool} {o:ByteArray} {f:FuncId} {first cap:List Value} [bP Tryz.prog f] {b5:Nat} {w:World} (f5:w.cell? ⟨b5,0,none⟩=some (.func (.func f) first.toArray cap.toArray))
  (ch:∀ w',aF [] w w'→aj Tryz.prog f (first++[.string o]++cap) w' (.bool q)) :
  aj Tryz.prog 226 [.string o,.pointer (some ⟨b5,0,none⟩)] w (.bool (!q)):=by
 refine ah Tryz.func226 rfl rfl ?_
 (refine Jr<|Ja rfl<|Ji<|ab (ai (.of rfl) (At.base f5 rfl)) rfl ?_;refine Jv rfl ?_)
 refine ag bC rfl (fun w' az=>ch w' az.keeps) ?_
 refine JH rfl<|Ja rfl<|Jn<|Je<|JT ?_
 rfl
theorem Dg {lv:Value} {l:List De} {q:ByteArray→Bool} {f:FuncId} {first cap:List Value} [bP Tryz.prog f] {w:World} (h:Rd w lv 3 (u3 l)) (hn:l.length≤1000000)
  (ch:∀ o w',aF [] w w'→aj Tryz.prog f (first++[.string o]++cap) w' (.bool (q o))) :
  bd Tryz.prog 123 [lv,.func (.func 124) #[] #[],.func (.func f) first.toArray cap.toArray] w [] (fun _:Value=>True) id (fun v=>[row 9 1 v ((l.map De.nm).filter q).length (aM ((l.map De.nm).filter q))]):=by
 have zi:=Rd.one h
 refine aR Tryz.func123 rfl rfl ?_
 refine Jr<|Jy rfl rfl fun _ _=>Ja rfl<|Ji<|Jv rfl<|Jv rfl ?_
 rename_i b5 Mb
 refine JN aZ rfl (fun w1 aJ=>D8 (f:=124) (first:=[]) (cap:=[]) (g:=De.nm) (h.keeps aJ.keeps) hn (fun x _ w2 _=>CK x w2)) ?_
 intro nv _
 dsimp only [id_eq,List.cons_append,List.nil_append]
 refine ab (bn .nil (.cons (.of rfl) .nil)) rfl ?_
 with_reducible apply fE (As:=[row 9 1 nv l.length (aM (l.map De.nm))])
 case hr=>exact aZ
 case hd=>rfl
 case ht=>exact sK
 case hc=>
  intro w1 Ad aJ uO hs1 B5 kd
  have h5:b5 ∉ Ad:=kd b5 _ _ (by exact .here)
  have f5:w1.cell? ⟨b5,0,none⟩=some (.func (.func f) first.toArray cap.toArray):=At.lit (by exact Take.there .here) rfl w1 aJ
  exact Iz (f:=226) (p:=fun o=>!q o) (first:=[]) (cap:=[.pointer (some ⟨b5,0,none⟩)]) uO hs1 (by rw [List.length_map]) hn
   (fun o _ w2 ez=>IN (dJ f5 rfl h5 ez) (fun w3 VE=>ch o w3 ((aJ.keeps.over (fun b hb=>B5 b hb) ez).trans VE)))
 intro v' _
 dsimp only [id_eq,List.cons_append,List.nil_append]
 simp only [Bool.not_not]
 refine Ja rfl<|Jn<|Je ?_
 first | with_reducible apply aO | with_reducible apply aP
 case he=>exact dj rfl rfl
 case hR=>
  intro w' az
  exact aB v' trivial (by exact .cons .here .nil) az rfl
theorem MI {r:Ro} {s d t p:Value} (v:Int) (o:ByteArray) {b1 b2:Nat} {w:World} (h:RR w r s d t p) (hA:BR w b1 (RC r s d t p)) (f2:w.cell? ⟨b2,0,none⟩=some (.int .i64 v)) :
  aj Tryz.prog 120 [.string o,.pointer (some ⟨b1,0,none⟩),.pointer (some ⟨b2,0,none⟩)] w (.bool (iT r.po v o)):=by
 have h1:=Rd.one h.sr
 have h2:=Rd.one h.de
 have h3:=Rd.one h.ti
 have h4:=Rd.one h.po
 have jI:∀ (j:Nat) (u:Value),[Value.int .i64 r.lv,.int .i64 r.ma,s,d,t,p][j]? = some u→w.cell? ⟨b1,0+j,none⟩=some u:=hA
 refine ah Tryz.func120 rfl rfl ?_
 (refine Jr<|Ja rfl<|Ji<|ab (iz (eG.base jI rfl)) rfl ?_;refine ab (ai (.of rfl) (At.base f2 rfl)) rfl ?_;refine Jv rfl ?_)
 refine ag dK rfl (fun w' az=>pW v o (h.keeps az.keeps)) ?_
 refine Ja rfl<|Jn<|Je<|JT ?_
 rfl
theorem Gb {r:Ro} {s d t p:Value} (v:Int) (o so:ByteArray) {b1 b2 b3:Nat} {w:World} (h:RR w r s d t p) (cJ:r.ti.length≤1000000) (hA:BR w b1 (RC r s d t p)) (f2:w.cell? ⟨b2,0,none⟩=some (.int .i64 v)) (f3:w.cell? ⟨b3,0,none⟩=some (.string so)) :
  aj Tryz.prog 125 [.string o,.pointer (some ⟨b1,0,none⟩),.pointer (some ⟨b2,0,none⟩),.pointer (some ⟨b3,0,none⟩)] w (.bool (decide (kQ r v o=so))):=by
 have h1:=Rd.one h.sr
 have h2:=Rd.one h.de
 have h3:=Rd.one h.ti
 have h4:=Rd.one h.po
 have jI:∀ (j:Nat) (u:Value),[Value.int .i64 r.lv,.int .i64 r.ma,s,d,t,p][j]? = some u→w.cell? ⟨b1,0+j,none⟩=some u:=hA
 refine ah Tryz.func125 rfl rfl ?_
 refine Jr<|Ja rfl<|Jn<|Jq ?_
 with_reducible refine dN 6 (by kernel_rfl) ?_
 (refine aH (iz (eG.base jI rfl)) rfl ?_;refine aH (ai (.of rfl) (At.base f2 rfl)) rfl ?_;refine kZ rfl rfl ?_;refine eZ dK rfl (fun w' az=>(oS v o (RR.keeps h (Mem.keeps az)) cJ)) ?_;refine aH (ai (.of rfl) (At.base f3 rfl)) rfl ?_;refine aH (ee (.of rfl) (.of rfl)) rfl ?_)
 with_reducible refine dW ?_
 refine Ja rfl<|Jn<|Je<|JT ?_
 rfl
def sX (r:Ro) (v:Int):Int:=aV [fN r,tA r v]
def lL (r:Ro) (v:Int):List ByteArray:=if sX r v≠0 then [] else (cK r).filter (iT r.po v)
theorem Qy {r:Ro} {s d t p:Value} (v:Int) {w:World} (h:RR w r s d t p) (cJ:mP r):bd Tryz.prog 23 [RA r s d t p,.int .i64 v] w [] (fun _:Value=>True) (fun x=>.tuple #[x,.int .i64 (sX r v)]) (fun x=>[row 9 1 x (lL r v).length (aM (lL r v))]):=by
 have h1:=Rd.one h.sr
 have h2:=Rd.one h.de
 have h3:=Rd.one h.ti
 have h4:=Rd.one h.po
 have jd:∀ w',aF [] w w'→aj Tryz.prog 34 [.agg #[.int .i64 r.lv,.int .i64 r.ma,s,d,t,p]] w' (.int .i64 (fN r)):=fun w' hk=>bZ (h.keeps hk) cJ
 have hle:∀ w',aF [] w w'→aj Tryz.prog 114 [.agg #[.int .i64 r.lv,.int .i64 r.ma,s,d,t,p],.int .i64 v] w' (.int .i64 (tA r v)):=fun w' hk=>kh v (h.keeps hk)
 unfold RA
 refine aR Tryz.func23 rfl rfl ?_
 refine Jr<|Jy rfl rfl fun _ _=>Jy rfl rfl fun _ _=>Ja rfl<|Ja rfl<|Jn<|Jq<|Jq ?_
 rename_i b2 sQ b3 rG
 with_reducible refine cQ 6 (by kernel_rfl) ?_
 (refine an (cr (.there .here)) rfl ?_;refine aU bC rfl (fun w' az=>(jd w' (Mem.keeps az))) ?_;refine an (cr (.there .here)) rfl ?_;refine an (gp .here) rfl ?_;refine aU aZ rfl (fun w' az=>(hle w' (Mem.keeps az))) ?_;refine en (aA (.cons (.of rfl) (.cons (.of rfl) .nil)) rfl rfl rfl rfl) rfl rfl ?_)
 with_reducible refine dy rfl fun bq mT=>?_
 (refine ag bC rfl (fun w' az=>(dF (Mem.dh az .here rfl rfl) (bU.cons (bU.cons bU.nil)))) ?_;refine Ja rfl<|Ji<|Jv rfl<|JD rfl<|Jn<|fY rfl (fun aq=>?_) fun aq=>?_;refine Jr<|Jv rfl<|Ja rfl<|Ja rfl<|Jn<|Ju ?_;rotate_left;refine Jk<|Jr<|bF rfl rfl ae ?_;refine JL rfl bI rfl<|ab (bn .nil (.cons (.of rfl) (.cons (.of rfl) .nil))) rfl ?_;rotate_right)
 ·have e1:lL r v=[]:=if_pos aq
  rw [e1]
  refine aQ 9 1 ?_
  first | with_reducible apply aO | with_reducible apply aP
  case he=>exact fL rfl rfl rfl
  case hR=>
   intro w' az
   exact aB (.slice none 0 0) trivial (by exact .cons .here .nil) az rfl
 have e1:lL r v=(r.ti.map Ti.nm).filter (iT r.po v):=if_neg aq
 have e0:aV [fN r,tA r v]=0:=Decidable.not_not.1 aq
 have e2:sX r v=0:=e0
 rw [e1,e2]
 with_reducible apply iX
 case hr=>exact dK
 case hd=>rfl
 case ht=>exact bj.nil
 case hc=>
  intro w1 fp aJ _ hs1
  obtain rfl:fp=[]:=hs1
  have hA:BR w1 b2 [.int .i64 r.lv,.int .i64 r.ma,s,d,t,p]:=BR.of aJ bI
  have f2:w1.cell? ⟨b3,0,none⟩=some (.int .i64 v):=At.lit (by exact Take.there .here) rfl w1 aJ
  have hR:=h.keeps aJ.keeps
  exact Dd (f:=120) (q:=iT r.po v) (first:=[]) (cap:=[.pointer (some ⟨b2,0,none⟩),.pointer (some ⟨b3,0,none⟩)]) hR.ti (by have:=cJ.2.2;omega)
   (fun o w2 ez=>MI v o (hR.keeps ez) (hA.keeps ez) (cd f2 rfl ez))
 intro x _
 dsimp only [id_eq,List.cons_append,List.nil_append]
 refine Ja rfl<|Ja rfl<|Jn<|Je ?_
 first | with_reducible apply aO | with_reducible apply aP
 case he=>exact fL rfl rfl rfl
 case hR=>
  intro w' az
  exact aB x trivial (by exact .cons .here .nil) az rfl
def lA (r:Ro) (v:Int) (so:ByteArray):Int:=aV [fN r,tA r v,Az r so]
def lR (r:Ro) (v:Int) (so:ByteArray):List ByteArray:=if lA r v so≠0 then [] else (cm r).filter fun o=>decide (kQ r v o=so)
theorem MN {r:Ro} {s d t p:Value} (v:Int) (so:ByteArray) {w:World} (h:RR w r s d t p) (cJ:mP r):bd Tryz.prog 24 [RA r s d t p,.int .i64 v,.string so] w [] (fun _:Value=>True) (fun x=>.tuple #[x,.int .i64 (lA r v so)]) (fun x=>[row 9 1 x (lR r v so).length (aM (lR r v so))]):=by
 have h1:=Rd.one h.sr
 have h2:=Rd.one h.de
 have h3:=Rd.one h.ti
 have h4:=Rd.one h.po
 have jd:∀ w',aF [] w w'→aj Tryz.prog 34 [.agg #[.int .i64 r.lv,.int .i64 r.ma,s,d,t,p]] w' (.int .i64 (fN r)):=fun w' hk=>bZ (h.keeps hk) cJ
 have hle:∀ w',aF [] w w'→aj Tryz.prog 114 [.agg #[.int .i64 r.lv,.int .i64 r.ma,s,d,t,p],.int .i64 v] w' (.int .i64 (tA r v)):=fun w' hk=>kh v (h.keeps hk)
 have zg:∀ w',aF [] w w'→aj Tryz.prog 122 [.agg #[.int .i64 r.lv,.int .i64 r.ma,s,d,t,p],.string so] w' (.int .i64 (Az r so)):=fun w' hk=>pq so (h.keeps hk)
 unfold RA
 refine aR Tryz.func24 rfl rfl ?_
 refine Jr<|Jy rfl rfl fun _ _=>Jy rfl rfl fun _ _=>Jy rfl rfl fun _ _=>Ja rfl<|Ja rfl<|Jn<|Jq<|Jq ?_
 rename_i b2 sQ b3 rG b4 vC
 with_reducible refine cQ 9 (by kernel_rfl) ?_
 (refine an (cr bI) rfl ?_;refine aU bC rfl (fun w' az=>(jd w' (Mem.keeps az))) ?_;refine an (cr bI) rfl ?_;refine an (gp (.there .here)) rfl ?_;refine aU aZ rfl (fun w' az=>(hle w' (Mem.keeps az))) ?_;refine an (cr bI) rfl ?_;refine an (gp .here) rfl ?_;refine aU aZ rfl (fun w' az=>(zg w' (Mem.keeps az))) ?_;refine en (aA (.cons (.of rfl) (.cons (.of rfl) (.cons (.of rfl) .nil))) rfl rfl rfl rfl) rfl rfl ?_)
 with_reducible refine dy rfl fun bq mT=>?_
 (refine ag bC rfl (fun w' az=>(dF (Mem.dh az .here rfl rfl) (bU.cons (bU.cons (bU.cons bU.nil))))) ?_;refine Ja rfl<|Ji<|Jv rfl<|JD rfl<|Jn<|fY rfl (fun aq=>?_) fun aq=>?_;refine Jr<|Jv rfl<|Ja rfl<|Ja rfl<|Jn<|Ju ?_;rotate_left;refine Jk<|Jr<|bF rfl rfl ae ?_;refine JL rfl cY rfl<|ab (bn .nil (.cons (.of rfl) (.cons (.of rfl) (.cons (.of rfl) .nil)))) rfl ?_;rotate_right)
 ·have e1:lR r v so=[]:=if_pos aq
  rw [e1]
  refine aQ 9 1 ?_
  first | with_reducible apply aO | with_reducible apply aP
  case he=>exact fL rfl rfl rfl
  case hR=>
   intro w' az
   exact aB (.slice none 0 0) trivial (by exact .cons .here .nil) az rfl
 have e1:lR r v so=(r.de.map De.nm).filter (fun o=>decide (kQ r v o=so)):=if_neg aq
 have e0:aV [fN r,tA r v,Az r so]=0:=Decidable.not_not.1 aq
 have e2:lA r v so=0:=e0
 rw [e1,e2]
 with_reducible apply iX
 case hr=>exact dK
 case hd=>rfl
 case ht=>exact bj.nil
 case hc=>
  intro w1 fp aJ _ hs1
  obtain rfl:fp=[]:=hs1
  have hA:BR w1 b2 [.int .i64 r.lv,.int .i64 r.ma,s,d,t,p]:=BR.of aJ cY
  have f2:w1.cell? ⟨b3,0,none⟩=some (.int .i64 v):=At.lit bI rfl w1 aJ
  have f3:w1.cell? ⟨b4,0,none⟩=some (.string so):=At.lit (by exact Take.there .here) rfl w1 aJ
  have hR:=h.keeps aJ.keeps
  exact Dg (f:=125) (q:=fun o=>decide (kQ r v o=so)) (first:=[]) (cap:=[.pointer (some ⟨b2,0,none⟩),.pointer (some ⟨b3,0,none⟩),.pointer (some ⟨b4,0,none⟩)]) hR.de (by have:=cJ.2.1;omega)
   (fun o w2 ez=>Gb v o so (hR.keeps ez) (by have:=cJ.2.2;omega) (hA.keeps ez) (cd f2 rfl ez) (cd f3 rfl ez))
 intro x _
 dsimp only [id_eq,List.cons_append,List.nil_append]
 refine Ja rfl<|Ja rfl<|Jn<|Je ?_
 first | with_reducible apply aO | with_reducible apply aP
 case he=>exact fL rfl rfl rfl
 case hR=>
  intro w' az
  exact aB x trivial (by exact .cons .here .nil) az rfl
end Go.Proofs.A1
namespace Go.Proofs.A1
open Go Go.SL
theorem yA {vs:List Value}:∀ {cs cur:List Value} {o:Nat},o+vs.length≤cs.length→setCells (cs++cur) o vs=setCells cs o vs++cur:=by
 induction vs with
 | nil=>intro cs cur o _;rfl
 | cons v vs ih =>
  intro cs cur o h
  simp only [List.length_cons] at h
  rw [setCells,setCells,List.set_append_left _ _ (by omega),ih (by simp;omega)]
theorem vM {cs vs:List Value} (h:vs.length=cs.length):setCells cs 0 vs=vs:=by
 apply List.ext_getElem?
 intro k
 rw [gU _ _ _ _ (by omega)]
 by_cases hk:k<vs.length
 ·rw [if_pos (by omega),Nat.sub_zero]
 ·rw [if_neg (by omega),List.getElem?_eq_none (by omega),List.getElem?_eq_none (by omega)]
theorem KO {n sz i:Nat} {f:Nat→List Value} {vs:List Value} (hf:∀ i,i<n→(f i).length=sz) (hi:i<n) (hv:vs.length=sz):setCells (rY n f) (i*sz) vs=rY n (fun k=>if k=i then vs else f k):=by
 have:=KN (o:=0) hf hi (by omega:0+vs.length≤sz)
 rw [Nat.add_zero] at this
 rw [this]
 apply lU
 intro k _
 show (if k=i then _ else _)=(if k=i then _ else _)
 split
 ·exact vM (by rw [hf i hi,hv])
 ·rfl
def swp (B:Nat→ByteArray) (m k:Nat):Nat→ByteArray:=fun x=>if x<k∨m-k≤x then B (m-1-x) else B x
def s1 (B:Nat→ByteArray):Nat→List Value:=fun i=>[.string (B i)]
theorem nA (B:Nat→ByteArray) (m:Nat):∀ i,i<m→(s1 B i).length=1:=fun _ _=>rfl
theorem GR {B:Nat→ByteArray} {m i:Nat} (cur:List Value) (h:i<m):(rY m (s1 B)++cur)[i*1]? = some (.string (B i)):=by
 have hl:=gH (nA B m)
 rw [List.getElem?_append_left (by rw [hl];omega)]
 exact yr (j:=0) (nA B m) h (by omega)
theorem GQ {B C:Nat→ByteArray} {m i:Nat} {v:ByteArray} (cur:List Value) (h:i<m) (hC:∀ k,k<m→C k=if k=i then v else B k):setCells (rY m (s1 B)++cur) (i*1) [.string v]=rY m (s1 C)++cur:=by
 have hl:=gH (nA B m)
 rw [yA (by rw [hl];simp;omega),KO (nA B m) h rfl]
 congr 1
 apply lU
 intro k hk
 unfold s1
 rw [hC k hk]
 split <;> rfl
set_option maxHeartbeats 4000000 in
theorem GX {w:World} {fp:List Nat} {v:Value} {m:Nat} {B:Nat→ByteArray} (hm:0<m) (aa0:m≤1000000) (hn:fp.Nodup) (hs:bY (hp w) [row 9 1 v m (rY m (s1 B))] fp) :
  bd Tryz.prog 117 [v] w fp (fun _:Unit=>True) (fun _=>.tuple #[]) (fun _=>[row 9 1 v m (rY m (s1 fun i=>B (m-1-i)))]):=by
 refine dS Tryz.func117 rfl rfl hn hs ?_
 refine db (by exact .here) hm ?_
 rintro g cap cur rfl df zh hsz Nh
 have hlen:=gH (nA B m)
 refine Jr<|Jv rfl<|JI rfl<|JS rfl (by omega)<|Ja rfl<|Ja rfl<|Jn<|J0 ?_
 refine aX (fun k:Nat=>2*k≤m) (fun k=>[(2,.int .i64 k),(3,.int .i64 ((m-1-k:Nat):Int)),(0,.slice (some ⟨g,0,none⟩) m cap)]) (fun k=>[bD g (.cells (rY m (s1 (swp B m k))++cur).toArray 9 (0,0))]) (fun k=>m-2*k) ?_ ?_
 ·apply aK 0 (by omega)
  case hs1=>exact .cons rfl (.II rfl (by congr 1;omega) (.cons rfl .nil))
  case ht=>
   rw [show rY m (s1 (swp B m 0))=rY m (s1 B) from lU fun i hi=>by unfold s1 swp;rw [if_neg (by omega)]]
   exact .cons .here .nil
 intro k hk
 have vz:=gH (nA (swp B m k) m)
 by_cases aN:k<m-1-k
 ·have hj:m-1-k<m:=by omega
  have PI:k<m:=by omega
  have c1:=GR (B:=swp B m k) cur PI
  have c2:=GR (B:=swp B m k) cur hj
  have Ib:=GQ (C:=fun i=>if i=k then swp B m k (m-1-k) else swp B m k i) cur PI (v:=swp B m k (m-1-k)) (B:=swp B m k) fun i _=>rfl
  have PR:=GQ (C:=swp B m (k+1)) cur hj (v:=swp B m k k) (B:=fun i=>if i=k then swp B m k (m-1-k) else swp B m k i) fun i hi=>by
   symm
   unfold swp
   by_cases e1:i=m-1-k
   ·subst e1
    rw [if_pos rfl,if_neg (by omega),if_pos (by omega)]
    congr 1;omega
   ·rw [if_neg e1]
    by_cases e2:i=k
    ·subst e2
     rw [if_pos rfl,if_neg (by omega),if_pos (by omega)]
    ·rw [if_neg e2]
     by_cases e3:i<k∨m-k≤i
     ·rw [if_pos e3,if_pos (by omega)]
     ·rw [if_neg e3,if_neg (by omega)]
  have sy:k*1+1≤(rY m (s1 (swp B m k))++cur).length:=by rw [List.length_append,vz];omega
  have sQ:(m-1-k)*1+1≤(rY m (s1 (fun i=>if i=k then swp B m k (m-1-k) else swp B m k i))++cur).length:=by rw [List.length_append,gH (nA _ m)];omega
  refine Jq<|Jr<|Jv rfl<|Jv rfl<|JA rfl<|Jn<|Jd rfl fun aq=>Jk<|Jq<|J0 ?_
  with_reducible refine KH 16 rfl ?_
  (refine eE 0 rfl lM lM lM (fun w ρ=>rfl) (fun w=>(aY (.of rfl))) rfl ?_;refine eE 1 rfl lM lM lM (fun w ρ=>rfl) (fun w=>(aY (.of rfl))) rfl ?_;refine eE 2 rfl lM lM lM (fun w ρ=>rfl) (fun w=>(aY (.of rfl))) rfl ?_;refine eE 3 rfl lM lM lM (fun w ρ=>rfl) (fun w=>(aY (.of rfl))) rfl ?_;refine eE 4 rfl lM lM lM (fun w ρ=>rfl) (fun w=>(aY (.of rfl))) rfl ?_;refine eE 5 rfl lM lM lM (fun w ρ=>rfl) (fun w=>(aY (.of rfl))) rfl ?_;refine eE 6 rfl lM lM lM (fun w ρ=>rfl) (fun w=>(aC (.of rfl) (.of rfl) rfl (by omega) (by omega) bo)) rfl ?_;refine eE 8 rfl lM lM lM (fun w ρ=>rfl) (fun w=>(aY (.of rfl))) rfl ?_;refine eE 9 rfl lM lM lM (fun w ρ=>rfl) (fun w=>(aY (.of rfl))) rfl ?_;refine eE 10 rfl lM lM lM (fun w ρ=>rfl) (fun w=>(aC (.of rfl) (.of rfl) rfl (by omega) (by omega) bo)) rfl ?_)
  refine cV (rs:=[7,11]) (by kernel_rfl) (by simp) (List.forall_mem_cons.2 ⟨?_,List.forall_mem_cons.2 ⟨?_,fun _ h=>absurd h List.not_mem_nil⟩⟩)
  ·refine c6 rfl ?_
   (refine ab (ai (.of rfl) (At.mO .here c2)) rfl ?_;refine Jn ?_)
   ·refine cV (rs:=[11]) (by kernel_rfl) (by simp) (List.forall_mem_cons.2 ⟨?_,fun _ h=>absurd h List.not_mem_nil⟩)
    refine c6 rfl ?_
    (refine ab (ai (.of rfl) (At.mO .here c1)) rfl ?_;refine Jn ?_)
    refine eE 12 rfl lM lM lM (fun w ρ=>rfl) (fun w=>(aC (.of rfl) (.of rfl) rfl (by omega) (by omega) bo)) rfl ?_
    refine cV (rs:=[13]) (by kernel_rfl) (by simp) (List.forall_mem_cons.2 ⟨?_,fun _ h=>absurd h List.not_mem_nil⟩)
    refine c6 rfl ?_
    with_reducible apply ao
    case hx=>exact Is.of rfl
    case hy=>exact Is.of rfl
    case ht=>exact .here
    case hv=>exact rfl
    case hl=>rfl
    case h1=>exact bG rfl fS
    case h2=>exact sy
    case he=>exact Ib
    refine Jn ?_
    refine eE 14 rfl lM lM lM (fun w ρ=>rfl) (fun w=>(aC (.of rfl) (.of rfl) rfl (by omega) (by omega) bo)) rfl ?_
    refine cV (rs:=[15]) (by kernel_rfl) (by simp) (List.forall_mem_cons.2 ⟨?_,fun _ h=>absurd h List.not_mem_nil⟩)
    refine c6 rfl ?_
    with_reducible apply ao
    case hx=>exact Is.of rfl
    case hy=>exact Is.of rfl
    case ht=>exact .here
    case hv=>exact rfl
    case hl=>rfl
    case h1=>exact bG rfl fS
    case h2=>exact sQ
    case he=>exact PR
    refine Jn ?_
    with_reducible refine cW (by kernel_rfl) ?_
    refine Jj<|Jt<|Jg<|Jv rfl<|JB rfl (by omega)<|Jv rfl<|JS rfl (by omega)<|Ja rfl<|Ja rfl<|Jn ?_
    apply aL (k+1) (by omega) (by omega)
    case hs1=>exact .cons rfl (.II rfl (by congr 1;omega) (.cons rfl .nil))
    case ht=>exact sK
  ·refine c6 rfl ?_
   (refine ab (ai (.of rfl) (At.mO .here c1)) rfl ?_;refine Jn ?_)
   ·refine cV (rs:=[7]) (by kernel_rfl) (by simp) (List.forall_mem_cons.2 ⟨?_,fun _ h=>absurd h List.not_mem_nil⟩)
    refine c6 rfl ?_
    (refine ab (ai (.of rfl) (At.mO .here c2)) rfl ?_;refine Jn ?_)
    refine eE 12 rfl lM lM lM (fun w ρ=>rfl) (fun w=>(aC (.of rfl) (.of rfl) rfl (by omega) (by omega) bo)) rfl ?_
    refine cV (rs:=[13]) (by kernel_rfl) (by simp) (List.forall_mem_cons.2 ⟨?_,fun _ h=>absurd h List.not_mem_nil⟩)
    refine c6 rfl ?_
    with_reducible apply ao
    case hx=>exact Is.of rfl
    case hy=>exact Is.of rfl
    case ht=>exact .here
    case hv=>exact rfl
    case hl=>rfl
    case h1=>exact bG rfl fS
    case h2=>exact sy
    case he=>exact Ib
    refine Jn ?_
    refine eE 14 rfl lM lM lM (fun w ρ=>rfl) (fun w=>(aC (.of rfl) (.of rfl) rfl (by omega) (by omega) bo)) rfl ?_
    refine cV (rs:=[15]) (by kernel_rfl) (by simp) (List.forall_mem_cons.2 ⟨?_,fun _ h=>absurd h List.not_mem_nil⟩)
    refine c6 rfl ?_
    with_reducible apply ao
    case hx=>exact Is.of rfl
    case hy=>exact Is.of rfl
    case ht=>exact .here
    case hv=>exact rfl
    case hl=>rfl
    case h1=>exact bG rfl fS
    case h2=>exact sQ
    case he=>exact PR
    refine Jn ?_
    with_reducible refine cW (by kernel_rfl) ?_
    refine Jj<|Jt<|Jg<|Jv rfl<|JB rfl (by omega)<|Jv rfl<|JS rfl (by omega)<|Ja rfl<|Ja rfl<|Jn ?_
    apply aL (k+1) (by omega) (by omega)
    case hs1=>exact .cons rfl (.II rfl (by congr 1;omega) (.cons rfl .nil))
    case ht=>exact sK
 ·have U9:rY m (s1 (swp B m k))=rY m (s1 fun i=>B (m-1-i)):=lU fun i hi=>by
   unfold s1 swp
   by_cases e:i<k∨m-k≤i
   ·rw [if_pos e]
   ·rw [if_neg e];show [Value.string (B i)]=[Value.string (B (m-1-i))];rw [show m-1-i=i by omega]
  rw [U9]
  have CZ:=gH (nA (fun i=>B (m-1-i)) m)
  refine c8 (n:=m) (cap:=cap) (sz:=1) (show Take _ (bD g (.cells ((rY m (s1 fun i=>B (m-1-i)))++cur).toArray 9 (0,0))) _ by exact .here) df zh (by rw [List.length_append,CZ];rw [List.length_append,Nh] at hsz;omega) CZ ?_
  refine Jq<|Jr<|Jv rfl<|Jv rfl<|JA rfl<|Jn<|Jc rfl fun aq=>Jp<|Jl<|Jo ?_
  first | with_reducible apply aO | with_reducible apply aP
  case he=>exact pj rfl
  case hR=>
   intro w' az
   exact aB () trivial (by exact .cons .here .nil) az rfl
theorem DP (l:List ByteArray):aM l=rY l.length (s1 fun i=>l.getD i ⟨#[]⟩):=by
 rw [Cm]
 apply List.ext_getElem?
 intro k
 have h1:((List.range l.length).map (s1 fun i=>l.getD i ⟨#[]⟩)).flatten=(List.range l.length).map fun i=>Value.string (l.getD i ⟨#[]⟩):=by
  have:=kI ((List.range l.length).map fun i=>Value.string (l.getD i ⟨#[]⟩))
  rw [List.map_map] at this
  exact this
 rw [h1]
 unfold aM
 by_cases h:k<l.length
 ·simp [h,List.getD_eq_getElem?_getD]
 ·simp [h]
theorem KQ (l:List ByteArray):aM l.reverse=rY l.length (s1 fun i=>l.getD (l.length-1-i) ⟨#[]⟩):=by
 rw [DP,List.length_reverse]
 apply lU
 intro i hi
 show [Value.string (l.reverse.getD i ⟨#[]⟩)]=[Value.string (l.getD (l.length-1-i) ⟨#[]⟩)]
 rw [List.getD_eq_getElem?_getD,List.getD_eq_getElem?_getD,List.getElem?_reverse hi]
theorem Cw {w:World} {fp:List Nat} {v:Value} {l:List ByteArray} {n:Nat} (hl:n=l.length) (hm:n≤1000000) (hn:fp.Nodup) (hs:bY (hp w) [row 9 1 v n (aM l)] fp) :
  bd Tryz.prog 117 [v] w fp (fun _:Unit=>True) (fun _=>.tuple #[]) (fun _=>[row 9 1 v n (aM l.reverse)]):=by
 subst hl
 by_cases h0:0<l.length
 ·rw [DP] at hs
  rw [KQ]
  exact GX h0 hm hn hs
 ·obtain rfl:l=[]:=List.eq_nil_of_length_eq_zero (by omega)
  show bd Tryz.prog 117 [v] w fp (fun _:Unit=>True) (fun _=>.tuple #[]) (fun _=>[row 9 1 v 0 []])
  replace hs:bY (hp w) [row 9 1 v 0 []] fp:=hs
  refine dS Tryz.func117 rfl rfl hn hs ?_
  refine aW (E:=9) (sz:=1) (by exact .here) fun a cp e=>?_
  subst e
  refine Jr<|Jv rfl<|JI rfl<|JS rfl (by omega)<|Ja rfl<|Ja rfl<|Jn<|J0 ?_
  refine aX (fun _:Nat=>True) (fun k=>[(2,.int .i64 0),(3,.int .i64 (-1)),(0,.slice a 0 cp)]) (fun k=>[row 9 1 (.slice a 0 cp) 0 []]) (fun k=>k) ?_ ?_
  ·apply aK 0 trivial
   case hs1=>exact cn
   case ht=>exact sK
  intro k _
  refine Jq<|Jr<|Jv rfl<|Jv rfl<|JA rfl<|Jn<|Jc rfl fun aq=>Jp<|Jl<|Jo ?_
  first | with_reducible apply aO | with_reducible apply aP
  case he=>exact pj rfl
  case hR=>
   intro w' az
   exact aB () trivial (by exact .cons .here .nil) az rfl
theorem I5 {r:Ro} {s d t p:Value} (v:Int) (o:ByteArray) {y:Nat×Nat×Nat} {w:World} {fp:List Nat} (kD:fp.Nodup) (hs:bY (hp w) [bD y.1 (.cells #[.string o] 9 (0,0)),JP y.2.1 r s d t p,bD y.2.2 (.cells #[.int .i64 v] 3 (0,0))] fp)
  (h:RR w r s d t p) (hO:RO fp r s d t p) (cJ:r.ti.length≤1000000) :
  bd Tryz.prog 221 [.slice none 0 0,.func (.func 222) #[] #[.pointer (some ⟨y.1,0,none⟩),.pointer (some ⟨y.2.1,0,none⟩),.pointer (some ⟨y.2.2,0,none⟩)]] w fp (fun _:Value=>True) id (fun v1=>[row 9 1 v1 (eM r.po v (r.ti.length+1) o).length (aM (eM r.po v (r.ti.length+1) o))]):=by
 have hlen:=jf r.po v (r.ti.length+1) o
 refine dS Tryz.func221 rfl rfl kD hs ?_
 refine Jr<|Jy rfl rfl fun _ _=>Ja rfl<|Jn<|Jq<|Jr<|Jv rfl<|Jn<|J0 ?_
 rename_i b2 sQ
 refine aQ 9 1 ?_
 refine iP (ps:=[7]) (f:=222) (first:=[]) (cap:=[.pointer (some ⟨y.1,0,none⟩),.pointer (some ⟨y.2.1,0,none⟩),.pointer (some ⟨y.2.2,0,none⟩)]) (ι:=Nat×Value) (κ:=Empty) (rst:=[]) ?hg
  [bD y.1 (.cells #[.string o] 9 (0,0)),JP y.2.1 r s d t p,bD y.2.2 (.cells #[.int .i64 v] 3 (0,0))] (vQ r.po v (r.ti.length+1) o) ?hit
  (fun k x=>x.1=k∧k≤(eM r.po v (r.ti.length+1) o).length)
  (fun x=>[bD b2 (.cells #[x.2] 32 (0,0)),row 9 1 x.2 x.1 (aM ((eM r.po v (r.ti.length+1) o).take x.1))])
  (fun _=>False) (fun _=>[]) (fun _=>.ret) (0,.slice none 0 0) ⟨rfl,Nat.zero_le _⟩ ?ht ?hlen ?hps ?round ?kn ?kj
 case hg=>exact Is.of rfl
 case hit=>intro w' az;exact CG v o h hO cJ
 case ht=>
  exact .cons (.there .here) (.cons .here (.cons .here (.cons .here (.cons .here .nil))))
 case hlen=>intro vs nP;obtain ⟨x,_,rfl⟩:=List.mem_map.1 nP;rfl
 case hps=>intro t ht;simp only [List.mem_cons,List.not_mem_nil,or_false] at ht;subst ht;exact Nat.le_of_ble_eq_true rfl
 case kj=>intro y;cases y
 case kn=>
  rintro ⟨n,v1⟩ D ⟨hq,_⟩
  dsimp only [List.cons_append,List.nil_append] at hq ⊢
  rw [qH] at hq
  subst hq
  rw [List.take_length]
  refine Jj<|Jt<|Jr<|JL rfl .here rfl<|Ja rfl<|Jn<|Je ?_
  refine aW (E:=9) (sz:=1) (by exact Take.there .here) fun va vc e=>?_
  subst e
  skip
  first | with_reducible apply aO | with_reducible apply aP
  case he=>exact dj rfl rfl
  case hR=>
   intro w' az
   exact aB (.slice va (eM r.po v (r.ti.length+1) o).length vc) trivial (by exact .cons (.there .here) .nil) az rfl
 case round=>
  rintro l2 rc W S7 k ⟨n,v1⟩ vs hsz hk ⟨hq,L6⟩ hB hF
  dsimp only at hq
  subst hq
  obtain ⟨a,hit,rfl,Bn⟩:=CF hk
  obtain ⟨aN,Ia⟩:=List.getElem?_eq_some_iff.1 Bn
  have htk:aM ((eM r.po v (r.ti.length+1) o).take (n+1))=aM ((eM r.po v (r.ti.length+1) o).take n)++[.string a]:=by rw [List.take_succ_eq_append_getElem aN,Ia,dO];rfl
  have vz:(aM ((eM r.po v (r.ti.length+1) o).take n)).length=n*1:=by rw [cS,List.length_take_of_le (by omega),Nat.mul_one]
  dsimp only [List.zip_cons_cons,List.zip_nil_right,lF,List.cons_append,List.nil_append]
  refine Jg<|Ja rfl<|Jn ?_
  with_reducible apply lS
  case ht=>exact .here
  refine aW (E:=9) (sz:=1) bI fun v1 v2 e=>?_
  subst e
  refine J0<|Jg<|JL rfl (.there .here) rfl<|Jv rfl<|bb (aA (.cons (.of rfl) .nil) rfl rfl rfl rfl) rfl fun _ _=>?_
  refine bz (.of rfl) (.of rfl) cY .here ak (by rfl) (dZ rfl) (by rfl) (by rfl) (by rfl) ep (by rfl) ?_
  intro v'
  refine aW (by exact .here) fun a' gB e=>?_
  subst e
  (refine ao (.of rfl) (.of rfl) cY rfl rfl (dZ rfl) (bE rfl) ak ?_;refine Jx<|Jj ?_)
  apply k9 (n+1,.slice a' (n+1) gB)
  case ht=>exact cY
  case hx=>exact ⟨rfl,aN⟩
  case h2=>
   show bj _ [bD b2 (.cells #[.slice a' (n+1) gB] 32 (0,0)),row 9 1 (.slice a' (n+1) gB) (n+1) (aM ((eM r.po v (r.ti.length+1) o).take (n+1)))] _
   rw [htk]
   exact .cons .here (.cons .here .nil)
theorem IK {r:Ro} {s d t p:Value} (v:Int) (o:ByteArray) {y:Nat×Nat×Nat} {w:World} {fp:List Nat} (kD:fp.Nodup) (hs:bY (hp w) [bD y.1 (.cells #[.string o] 9 (0,0)),JP y.2.1 r s d t p,bD y.2.2 (.cells #[.int .i64 v] 3 (0,0))] fp)
  (h:RR w r s d t p) (hO:RO fp r s d t p) (cJ:r.ti.length≤1000000) :
  bd Tryz.prog 115 [.func (.func 222) #[] #[.pointer (some ⟨y.1,0,none⟩),.pointer (some ⟨y.2.1,0,none⟩),.pointer (some ⟨y.2.2,0,none⟩)]] w fp (fun _:Value=>True) id (fun v1=>[row 9 1 v1 (eM r.po v (r.ti.length+1) o).length (aM (eM r.po v (r.ti.length+1) o))]):=by
 refine dS Tryz.func115 rfl rfl kD hs ?_
 refine Jr<|Ja rfl<|Ji<|Jv rfl ?_
 with_reducible apply fE (As:=[bD y.1 (.cells #[.string o] 9 (0,0)),JP y.2.1 r s d t p,bD y.2.2 (.cells #[.int .i64 v] 3 (0,0))])
 case hr=>exact aZ
 case hd=>rfl
 case ht=>exact sK
 case hc=>
  intro w1 Ad aJ uO hs1 B5 _
  exact I5 v o uO hs1 (h.iN hO aJ.keeps) (h.out hO B5) cJ
 intro v1 _
 dsimp only [id_eq,List.cons_append,List.nil_append]
 refine Ja rfl<|Jn<|Je ?_
 first | with_reducible apply aO | with_reducible apply aP
 case he=>exact dj rfl rfl
 case hR=>
  intro w' az
  exact aB v1 trivial (by exact .cons .here .nil) az rfl
def nq (r:Ro) (v:Int) (o:ByteArray):Int:=aV [fN r,tA r v,pn r o]
def Gh (r:Ro) (v:Int) (o:ByteArray):List ByteArray:=if eM r.po v (r.ti.length+1) o=[] then [] else (eM r.po v (r.ti.length+1) o).reverse++[o]
def kS (r:Ro) (v:Int) (o:ByteArray):List ByteArray:=if nq r v o≠0 then [] else Gh r v o
theorem MO {r:Ro} {s d t p:Value} (v:Int) (o:ByteArray) {w:World} (h:RR w r s d t p) (cJ:mP r):bd Tryz.prog 22 [RA r s d t p,.int .i64 v,.string o] w [] (fun _:Value=>True) (fun x=>.tuple #[x,.int .i64 (nq r v o)]) (fun x=>[row 9 1 x (kS r v o).length (aM (kS r v o))]):=by
 have h1:=Rd.one h.sr
 have h2:=Rd.one h.de
 have h3:=Rd.one h.ti
 have h4:=Rd.one h.po
 have ab5:=cJ.2.2
 have jd:∀ w',aF [] w w'→aj Tryz.prog 34 [.agg #[.int .i64 r.lv,.int .i64 r.ma,s,d,t,p]] w' (.int .i64 (fN r)):=fun w' hk=>bZ (h.keeps hk) cJ
 have hle:∀ w',aF [] w w'→aj Tryz.prog 114 [.agg #[.int .i64 r.lv,.int .i64 r.ma,s,d,t,p],.int .i64 v] w' (.int .i64 (tA r v)):=fun w' hk=>kh v (h.keeps hk)
 have lO:∀ w',aF [] w w'→aj Tryz.prog 112 [.agg #[.int .i64 r.lv,.int .i64 r.ma,s,d,t,p],.string o] w' (.int .i64 (pn r o)):=fun w' hk=>ek o (h.keeps hk)
 unfold RA
 refine aR Tryz.func22 rfl rfl ?_
 refine Jr<|Jy rfl rfl fun _ _=>Ja rfl<|Ja rfl<|Jn<|Jq<|Jq ?_
 rename_i b3 rG
 with_reducible refine cQ 9 (by kernel_rfl) ?_
 (refine an (cr .here) rfl ?_;refine aU bC rfl (fun w' az=>(jd w' (Mem.keeps az))) ?_;refine an (cr .here) rfl ?_;refine an lx rfl ?_;refine aU aZ rfl (fun w' az=>(hle w' (Mem.keeps az))) ?_;refine an (cr .here) rfl ?_;refine an lx rfl ?_;refine aU aZ rfl (fun w' az=>(lO w' (Mem.keeps az))) ?_;refine en (aA (.cons (.of rfl) (.cons (.of rfl) (.cons (.of rfl) .nil))) rfl rfl rfl rfl) rfl rfl ?_)
 with_reducible refine dy rfl fun bq mT=>?_
 (refine ag bC rfl (fun w' az=>(dF (Mem.dh az .here rfl rfl) (bU.cons (bU.cons (bU.cons bU.nil))))) ?_;refine Ja rfl<|Ji<|Jv rfl<|JD rfl<|Jn<|fY rfl (fun aq=>?_) fun aq=>?_;refine Jr<|Jv rfl<|Ja rfl<|Ja rfl<|Jn<|Ju ?_;rotate_left;refine Jk<|Jr<|ab (cr (.there .here)) rfl ?_;refine Jv rfl<|Jv rfl ?_;rotate_right)
 ·have e1:kS r v o=[]:=if_pos aq
  rw [e1]
  refine aQ 9 1 ?_
  first | with_reducible apply aO | with_reducible apply aP
  case he=>exact fL rfl rfl rfl
  case hR=>
   intro w' az
   exact aB (.slice none 0 0) trivial (by exact .cons .here .nil) az rfl
 have e1:kS r v o=Gh r v o:=if_neg aq
 have e0:aV [fN r,tA r v,pn r o]=0:=Decidable.not_not.1 aq
 have e2:nq r v o=0:=e0
 clear aq
 rw [e1,e2]
 refine JN dK rfl (fun w1 aJ=>ur v o (h.keeps aJ.keeps)) ?_
 intro y _
 dsimp only [id_eq,List.cons_append,List.nil_append]
 skip
 with_reducible apply fE (As:=[bD y.1 (.cells #[.string o] 9 (0,0)),JP y.2.1 r s d t p,bD y.2.2 (.cells #[.int .i64 v] 3 (0,0))])
 case hr=>exact bC
 case hd=>rfl
 case ht=>exact sK
 case hc=>
  intro w1 Ad aJ uO hs1 B5 _
  exact IK v o uO hs1 (h.keeps aJ.keeps) (h.out (md:=[]) RO.nil (fun b hb=>B5 b hb)) (by omega)
 intro v1 _
 have hlen:=jf r.po v (r.ti.length+1) o
 dsimp only [id_eq,List.cons_append,List.nil_append]
 refine aW (E:=9) (sz:=1) (by exact .here) fun va vc e=>?_
 subst e
 unfold Gh
 generalize hL:eM r.po v (r.ti.length+1) o=L at hlen ⊢
 (refine Ja rfl<|Jn<|Jq<|Jr<|Jv rfl<|JI rfl<|JC rfl<|Jn<|fY rfl (fun aq=>?_) fun aq=>?_;refine Jr<|Ja rfl<|Ja rfl<|Jn<|Ju ?_;rotate_left;refine Jk<|Jr<|Jv rfl ?_;rotate_right)
 ·have H2:L=[]:=List.eq_nil_of_length_eq_zero (by omega)
  rw [if_pos H2]
  refine aQ 9 1 ?_
  first | with_reducible apply aO | with_reducible apply aP
  case he=>exact fL rfl rfl rfl
  case hR=>
   intro w' az
   exact aB (.slice none 0 0) trivial (by exact .cons .here .nil) az rfl
 have hnn:¬ L=[]:=fun e=>by rw [e] at aq;exact aq rfl
 rw [if_neg hnn]
 with_reducible apply fE (As:=[row 9 1 (.slice va L.length vc) L.length (aM L)])
 case hr=>exact bC
 case hd=>rfl
 case ht=>exact sK
 case hc=>
  intro w1 Ad aJ uO hs1 B5 _
  exact Cw rfl (by omega) uO hs1
 intro _ _
 have a7:aM (L.reverse++[o])=aM L.reverse++[.string o]:=by rw [dO];rfl
 have hlr:(aM L.reverse).length=L.length*1:=by rw [cS,List.length_reverse,Nat.mul_one]
 have CZ:(L.reverse++[o]).length=L.length+1:=by simp
 rw [CZ,a7]
 dsimp only [id_eq,List.cons_append,List.nil_append]
 refine Ji<|Jv rfl<|Jv rfl<|bb (aA (.cons (.of rfl) .nil) rfl rfl rfl rfl) rfl fun _ _=>?_
 refine bz (.of rfl) (.of rfl) (.there .here) .here ak (by rfl) (dZ rfl) (by rfl) (by rfl) (by rfl) ep (by rfl) ?_
 intro v'
 refine Ja rfl<|Ja rfl<|Jn<|Je ?_
 first | with_reducible apply aO | with_reducible apply aP
 case he=>exact fL rfl rfl rfl
 case hR=>
  intro w' az
  exact aB v' trivial (by exact .cons .here .nil) az rfl
end Go.Proofs.A1
namespace Go.Proofs.A1
open Go Go.SL
theorem Fb {α:Type} {R:α→α→Prop} (ht:∀ a b c,R a b→R b c→R a c):∀ {l:List α},(∀ k (h:k+1<l.length),R l[k] l[k+1])→l.Pairwise R:=by
 intro l h
 rw [List.pairwise_iff_getElem]
 intro i j hi hj xD
 obtain ⟨d,rfl⟩:∃ d,j=i+1+d:=⟨j-(i+1),by omega⟩
 clear xD
 induction d with
 | zero=>exact h i hj
 | succ d ih=>exact ht _ _ _ (ih (by omega)) (h (i+1+d) hj)
theorem od {a b c d:Int}:¬ kY [a,b] [c,d]≤0↔c<a∨c=a∧d<b:=by
 unfold kY
 by_cases h1:jR a c=0
 ·rw [if_neg (not_not_intro h1)]
  have:=hY.1 h1
  unfold kY
  by_cases h2:jR b d=0
  ·rw [if_neg (not_not_intro h2)]
   have:=hY.1 h2
   unfold kY
   omega
  ·rw [if_pos h2]
   unfold jR at h2 ⊢
   split at h2 <;> split <;> first | omega | (split <;> omega)
 ·rw [if_pos h1]
  have Ac:a≠c:=fun e=>h1 (hY.2 e)
  unfold jR
  split
  ·omega
  ·split <;> omega
theorem Hs {r:Ro} (hd:B7 r) (h6:r.ti.length≤6):pt r:=by
 obtain ⟨_,_,_,d1,d2,d3⟩:=hd.parts
 exact ⟨d1,d2,d3,by unfold cK;rw [List.length_map];exact h6⟩
structure sJ (r:Ro):Prop where
 lim:1≤r.lv∧r.lv≤3∧1≤r.ma∧r.ma≤4
 NS:B7 r
 len:r.sr.length≤8∧r.de.length≤8∧r.ti.length≤6
 sm:∀ x∈r.sr,0≤x.mx∧x.mx<r.ma
 dm:∀ x∈r.de,0≤x.mx∧x.mx<r.ma
 tm:∀ x∈r.ti,(0≤x.fr∧x.fr<r.ma)∧(0≤x.to∧x.to<r.ma)∧x.fr≠x.to
 val:iL r r.po
theorem sJ.xo {r:Ro} (h:sJ r):pt r:=Hs h.NS h.len.2.2
theorem iS {r:Ro} {m:Int}:eP r m=0↔0≤m∧m<r.ma:=by
 unfold eP
 rw [bH (by decide)]
 simp
theorem Hm {r:Ro} (hd:∀ x∈r.de,0≤x.mx) (ht:∀ x∈r.ti,0≤x.fr) {s:ByteArray} (h:0≤jU r s):s∈cm r∨s∈cK r:=by
 by_cases h1:s∈cm r
 ·exact .inl h1
 ·by_cases h2:s∈cK r
  ·exact .inr h2
  ·unfold jU at h
   have f1:=bT.2 h1
   have f2:=bT.2 h2
   rw [if_neg (by omega),if_neg (by omega)] at h
   omega
theorem HK {r:Ro} {s:ByteArray} (h:0≤jE r s):s∈cz r∨s∈cK r:=by
 by_cases h1:s∈cz r
 ·exact .inl h1
 ·by_cases h2:s∈cK r
  ·exact .inr h2
  ·unfold jE at h
   have f1:=bT.2 h1
   have f2:=bT.2 h2
   rw [if_neg (by omega),if_neg (by omega)] at h
   omega
theorem mA {r:Ro} {x:Po} (h:lG r x=0):(0≤x.lv∧x.lv<r.lv)∧0≤jU r x.ou∧0≤jE r x.ip∧jU r x.ou=jE r x.ip:=by
 unfold lG at h
 rw [cg] at h
 have h1:=gS.1 (h _ List.mem_cons_self)
 have h2:=(bH (by decide)).1 (h (bS (decide (jU r x.ou<0)) 10) (by simp))
 have h3:=(bH (by decide)).1 (h (bS (decide (jE r x.ip<0)) 10) (by simp))
 have h4:=(bH (by decide)).1 (h (bS (decide (jU r x.ou≠jE r x.ip)) 24) (by simp))
 simp only [decide_eq_false_iff_not,ne_eq,Decidable.not_not] at h2 h3 h4
 exact ⟨by omega,by omega,by omega,h4⟩
theorem kO {r:Ro} {q:Int→Bool}:ju r q=false↔∀ v:Int,0≤v→v<r.lv→q v=false:=by
 unfold ju
 rw [List.any_eq_false]
 constructor
 ·intro h v h0 h1
  have:=h v.toNat (List.mem_range.2 (by omega))
  rw [show ((v.toNat:Nat):Int)=v by omega] at this
  simpa using this
 ·intro h i hi
  have:=List.mem_range.1 hi
  rw [h i (by omega) (by omega)];decide
theorem xj {r:Ro} (h:fN r=0):sJ r:=by
 obtain ⟨h1,h2,h3,h4⟩:=rQ h
 obtain ⟨kd,hlen,hs,hd,ht⟩:=yO h2
 have Nw:∀ x∈r.de,0≤x.mx∧x.mx<r.ma:=fun x hx=>iS.1 (hd x hx)
 have TT:∀ x∈r.ti,(0≤x.fr∧x.fr<r.ma)∧(0≤x.to∧x.to<r.ma)∧x.fr≠x.to:=fun x hx=>by
  have:=ht x hx
  unfold mX at this
  rw [cg] at this
  have g3:=(bH (by decide)).1 (this (bS (decide (x.fr=x.to)) 24) (by simp))
  exact ⟨iS.1 (this _ (by simp)),iS.1 (this _ (by simp)),by simpa using g3⟩
 have hp:∀ k (hk:k<r.po.length),lG r r.po[k]=0∧¬ kY [(r.po[k]).lv,dP r (r.po[k]).ou] (Dl r (if k=0 then none else r.po[k-1]?))≤0:=fun k hk=>by
  have:=dT.1 h3 k hk
  rw [qG hk] at this
  by_cases e:lG r r.po[k]=0
  ·rw [if_neg (not_not_intro e)] at this
   by_cases e2:kY [(r.po[k]).lv,dP r (r.po[k]).ou] (Dl r (if k=0 then none else r.po[k-1]?))≤0
   ·rw [if_pos e2] at this;exact absurd this (by decide)
   ·exact ⟨e,e2⟩
  ·rw [if_pos e] at this;exact absurd this e
 have HW:∀ p∈r.po,lG r p=0:=fun p mQ=>by
  obtain ⟨k,hk,rfl⟩:=List.getElem_of_mem mQ
  exact (hp k hk).1
 have H5:∀ p∈r.po,0≤p.lv∧p.lv<r.lv:=fun p mQ=>(mA (HW p mQ)).1
 have hti:(cK r).length=r.ti.length:=by unfold cK;rw [List.length_map]
 unfold yZ at h4
 rw [cg] at h4
 have SH:=kO.1 ((bH (by decide)).1 (h4 (bS (ju r fun v=>r.ti.any (Km r v)) 33) (by simp)))
 have Vm:=kO.1 ((bH (by decide)).1 (h4 (bS (ju r fun v=>r.ti.any (Hl r v)) 32) (by simp)))
 have Fu:∀ v:Int,¬ (0≤v∧v<r.lv)→∀ o,dY r.po v o=none:=fun v hv o=>gO.2 fun p mQ e=>hv (e.1 ▸ H5 p mQ)
 refine ⟨uC h1,kd,hlen,fun x hx=>iS.1 (hs x hx),Nw,TT,?_,H5,?_,?_,?_,?_,?_⟩
 ·refine Fb (R:=fun a b=>pb r a b=true) (fun a b c h h'=>xq h h') fun k hk=>?_
  have:=(hp (k+1) hk).2
  rw [if_neg (by omega),Nat.add_sub_cancel,List.getElem?_eq_getElem (by omega)] at this
  have:=od.1 this
  unfold pb
  simp only [Bool.or_eq_true,Bool.and_eq_true,decide_eq_true_eq]
  exact this
 ·exact fun p mQ=>Hm (fun x hx=>(Nw x hx).1) (fun x hx=>(TT x hx).1.1) (mA (HW p mQ)).2.1
 ·exact fun p mQ=>HK (mA (HW p mQ)).2.2.1
 ·exact fun p mQ=>(mA (HW p mQ)).2.2.2
 ·rintro v ⟨t,Fp,hc⟩
  rw [hti] at hc
  by_cases hv:0≤v∧v<r.lv
  ·obtain ⟨x,hx,rfl⟩:=List.mem_map.1 Fp
   have:=List.any_eq_false.1 (SH v hv.1 hv.2) x hx
   exact this (eX.2 hc)
  ·rw [q5 (Fu v hv t)] at hc
   cases hc
 ·intro v t Fp
  by_cases hv:0≤v∧v<r.lv
  ·obtain ⟨x,hx,rfl⟩:=List.mem_map.1 Fp
   have:=List.any_eq_false.1 (Vm v hv.1 hv.2) x hx
   unfold Hl at this
   cases h1:iT r.po v x.nm <;> cases h2:mW r.po v x.nm <;> rw [h1,h2] at this <;> simp at this <;> simp
  ·have e1:iT r.po v t=false:=by unfold iT;rw [Fu v hv t];rfl
   have e2:mW r.po v t=false:=by
    unfold mW
    rw [List.any_eq_false]
    intro p mQ e
    unfold zd at e
    simp only [Bool.and_eq_true,decide_eq_true_eq] at e
    exact hv (e.1 ▸ H5 p mQ)
   rw [e1,e2]
theorem vf {r:Ro} (hn:pt r) (h:iL r r.po) (v:Int) (o:ByteArray):kQ r v o=qh r.po v (cz r) o:=by
 have hti:(cK r).length=r.ti.length:=by unfold cK;rw [List.length_map]
 have:=FJ hn h v o
 rw [hti] at this
 unfold kQ qh
 rw [this]
 by_cases hm:gl r.po v 7 o∈cz r
 ·have h0:=eu hm
  obtain ⟨x,hx,e⟩:=List.mem_map.1 hm
  rw [if_pos (List.any_eq_true.2 ⟨x,hx,by simpa using e⟩),if_neg (by omega)]
 ·have h0:=bT.2 hm
  rw [if_neg (fun e=>by
   obtain ⟨x,hx,e⟩:=List.any_eq_true.1 e
   exact hm (List.mem_map.2 ⟨x,hx,by simpa using e⟩)),if_pos h0]
end Go.Proofs.A1
namespace Go.SL
open Go
def j5 (E:TypeId) (sz:Nat) (v:Value) (n:Nat) (xs:List Value):ba where
 sat h fp:=xs.length=n*sz∧((fp=[]∧v=.slice none 0 0∧n=0) ∨
  ∃ g off cap cur,fp=[g]∧v=.slice (some ⟨g,off,none⟩) n cap∧h g=some (.cells cur E (0,0))∧n≤cap∧cap≤maxLen∧off+cap*sz≤cur.size∧(cur.toList.drop off).take (n*sz)=xs)
 loc:=by
  rintro h h' fp ⟨hl,h1⟩ hb
  refine ⟨hl,h1.imp id ?_⟩
  rintro ⟨g,off,cap,cur,rfl,rfl,hg,r⟩
  exact ⟨g,off,cap,cur,rfl,rfl,by rw [hb g (by simp)];exact hg,r⟩
 own:=by
  rintro h fp ⟨hl,h1⟩ b hb
  rcases h1 with ⟨rfl,_⟩ | ⟨g,off,cap,cur,rfl,rfl,hg,_⟩
  ·cases hb
  ·rw [List.mem_singleton] at hb;subst hb;exact ⟨_,hg⟩
theorem nB {h:Nat→Option Obj} {E:TypeId} {sz:Nat} {v:Value} {n:Nat} {xs:List Value} {fp:List Nat} (hr:(row E sz v n xs).sat h fp):(j5 E sz v n xs).sat h fp:=by
 obtain ⟨e,hl,h1⟩:=hr
 rcases h1 with ⟨rfl,h0⟩ | ⟨g,cap,cur,rfl,hg,h2,h3,h4,h5⟩
 ·exact ⟨hl,.inl ⟨by simpa [Value.ownBlock] using e,rfl,h0⟩⟩
 ·exact ⟨hl,.inr ⟨g,0,cap,cur,by simpa [Value.ownBlock] using e,rfl,hg,h2,h3,by omega,by simpa using h5⟩⟩
section
variable {c:Cx} {D:List Nat} {sl:aG} {hs hs':List ba} {X:Act→World→Prop} {E:TypeId} {sz:Nat} {v:Value} {n:Nat} {xs:List Value}
theorem tb {A B:ba} (ht:Take hs A hs') (hc:∀ h fp,A.sat h fp→B.sat h fp) (k:Tr c D sl (B::hs') X):Tr c D sl hs X:=fun a w a7=>
 k a w (a7.heap (by
  obtain ⟨kk,fp,kD,⟨f1,f2,rfl,h1,h2⟩,hb⟩:=a7.mem.take (ht.append _)
  exact ⟨kk,f1++f2,kD,⟨f1,f2,rfl,hc _ _ h1,h2⟩,hb⟩))
theorem ET (ht:Take hs (row E sz v n xs) hs') (k:Tr c D sl (j5 E sz v n xs::hs') X):Tr c D sl hs X:=tb ht (fun _ _ h=>nB h) k
theorem wA (ht:Take hs (j5 E sz v n xs) hs') (k:∀ a cap,v=.slice a n cap→n≤cap→cap≤maxLen→Tr c D sl hs X):Tr c D sl hs X:=fun a w a7=>by
 obtain ⟨kk,fp,kD,⟨f1,f2,rfl,⟨_,h1⟩,h2⟩,hb⟩:=a7.mem.take (ht.append _)
 rcases h1 with ⟨_,e,h0⟩ | ⟨g,off,cap,cur,_,e,_,hc,hm,_⟩
 ·subst h0;exact k none 0 e (Nat.le_refl _) (by unfold maxLen;omega) a w a7
 ·exact k _ cap e hc hm a w a7
theorem Ak (ht:Take hs (j5 E sz v n xs) hs') (hn:0<n)
  (k:∀ g off cap pre cur,v=.slice (some ⟨g,off,none⟩) n cap→pre.length=off→n≤cap→cap≤maxLen→off+cap*sz≤(pre++xs++cur).length→xs.length=n*sz→Tr c D sl (bD g (.cells (pre++xs++cur).toArray E (0,0))::hs') X):Tr c D sl hs X:=fun a w a7=>by
 obtain ⟨kk,fp,kD,⟨f1,f2,rfl,⟨hl,h1⟩,h2⟩,hb⟩:=a7.mem.take (ht.append _)
 rcases h1 with ⟨_,_,h0⟩ | ⟨g,off,cap,cur,rfl,e,hg,hc,hm,hfit,htk⟩
 ·omega
 ·have hsz:n*sz≤cap*sz:=Nat.mul_le_mul_right _ hc
  have Nx:cur.size=cur.toList.length:=by simp
  have mI:cur=(cur.toList.take off++xs++cur.toList.drop (off+n*sz)).toArray:=by
   apply Array.ext'
   show cur.toList=_
   rw [← htk]
   conv=>lhs;rw [← List.take_append_drop off cur.toList]
   rw [List.append_assoc]
   congr 1
   conv=>lhs;rw [← List.take_append_drop (n*sz) (cur.toList.drop off)]
   rw [List.drop_drop]
  refine k g off cap (cur.toList.take off) (cur.toList.drop (off+n*sz)) e ?_ hc hm ?_ hl a w (a7.heap ⟨kk,[g]++f2,kD,⟨[g],f2,rfl,⟨rfl,by rw [← mI];exact hg⟩,h2⟩,hb⟩)
  ·rw [List.length_take];omega
  ·have:=congrArg (fun x:Array Value=>x.toList.length) mI
   simp only [Array.length_toList] at this
   rw [← this];exact hfit
theorem wQ {h:Nat→Option Obj} {g off cap:Nat} {pre cur:List Value} {fp:List Nat} (hb:(bD g (.cells (pre++xs++cur).toArray E (0,0))).sat h fp) (hp:pre.length=off) (hc:n≤cap) (hm:cap≤maxLen) (hfit:off+cap*sz≤(pre++xs++cur).length) (hl:xs.length=n*sz):(j5 E sz (.slice (some ⟨g,off,none⟩) n cap) n xs).sat h fp:=by
 obtain ⟨e,hg⟩:=hb
 refine ⟨hl,.inr ⟨g,off,cap,_,e,rfl,hg,hc,hm,by rw [List.size_toArray];exact hfit,?_⟩⟩
 show ((pre++xs++cur).drop off).take (n*sz)=xs
 rw [List.append_assoc,← hp,List.drop_left,← hl,List.take_left]
theorem Aj {g off cap:Nat} {pre cur:List Value} (ht:Take hs (bD g (.cells (pre++xs++cur).toArray E (0,0))) hs') (hp:pre.length=off) (hc:n≤cap) (hm:cap≤maxLen) (hfit:off+cap*sz≤(pre++xs++cur).length) (hl:xs.length=n*sz)
  (k:Tr c D sl (j5 E sz (.slice (some ⟨g,off,none⟩) n cap) n xs::hs') X):Tr c D sl hs X:=tb ht (fun _ _ h=>wQ h hp hc hm hfit hl) k
theorem Ai {a:Option Addr} {cap:Nat} (ht:Take hs (j5 E sz (.slice a (n+1) cap) (n+1) xs) hs') (k:Tr c D sl (j5 E sz (Go.sliced a 1 (n+1) cap sz) n (xs.drop sz)::hs') X):Tr c D sl hs X:=
 tb ht (fun h fp hr=>by
  obtain ⟨hl,h1⟩:=hr
  rcases h1 with ⟨_,_,h0⟩ | ⟨g,off,gB,cur,rfl,e,hg,hc,hm,hfit,htk⟩
  ·omega
  ·obtain ⟨rfl,-,rfl⟩:=Value.slice.inj e
   have CZ:(xs.drop sz).length=n*sz:=by rw [List.length_drop,hl,Nat.succ_mul];omega
   refine ⟨CZ,.inr ?_⟩
   have RT:(cur.toList.drop (off+sz)).take (n*sz)=xs.drop sz:=by
    rw [← htk,List.drop_take,List.drop_drop,show (n+1)*sz-sz=n*sz by rw [Nat.succ_mul];omega]
   by_cases Ui:cap=1
   ·subst Ui
    have H3:n=0:=by omega
    subst H3
    refine ⟨g,off,0,cur,rfl,?_,hg,Nat.le_refl _,by omega,by omega,?_⟩
    ·simp [Go.sliced]
    ·rw [← RT];simp
   ·refine ⟨g,off+sz,cap-1,cur,rfl,?_,hg,by omega,by omega,?_,RT⟩
    ·simp only [Go.sliced,if_neg Ui,Option.map_some,Addr.add,Nat.one_mul,Nat.add_sub_cancel]
     by_cases h0:sz=0
     ·rw [if_pos h0,h0];rfl
     ·rw [if_neg h0]
    ·have:cap*sz=(cap-1)*sz+sz:=by
      rw [← Nat.succ_mul];congr 1;omega
     omega) k
end
end Go.SL
namespace Go.SL
open Go Go.Shelf Go.RowKit Go.Proofs Go.Lib Go.Sort
theorem aF.grown {w w':World} (h:aF [] w w'):∃ q YJ,w'=Go.Sort.grow (w.drewN q) YJ:=by
 refine ⟨w'.drawn-w.drawn,w'.heap.extract w.heap.size w'.heap.size,?_⟩
 have hd:=h.dr
 have hh:w'.heap=w.heap++w'.heap.extract w.heap.size w'.heap.size:=by
  apply Array.ext_getElem?
  intro k
  by_cases hk:k<w.heap.size
  ·rw [Array.getElem?_append_left hk]
   exact h.block k hk (by simp)
  ·rw [Array.getElem?_append_right (by omega),Array.getElem?_extract]
   have hs:=h.size
   by_cases ez:k<w'.heap.size
   ·rw [if_pos (by omega)]
    congr 1;omega
   ·rw [if_neg (by omega),Array.getElem?_eq_none (by omega)]
 cases w'
 cases w
 have h1:=h.os
 have h2:=h.tape
 have h3:=h.output
 simp only at h1 h2 h3 hh hd
 subst h1;subst h2;subst h3
 simp only [Go.Sort.grow,World.drewN]
 congr 1
 omega
section
variable {P:Program} {α:Type} [Inhabited α]
theorem uY {enc:α→List Value} {k:Nat} (hk:∀ x,(enc x).length=k) (l:List α):(Go.Sort.flatK enc k l.toArray).toList=(l.map enc).flatten:=by
 have sx:=iy hk l
 apply List.ext_getElem?
 intro t
 by_cases ht:t<l.length*k
 ·have Kl:0<k:=by
   rcases Nat.eq_zero_or_pos k with e | e
   ·rw [e] at ht;omega
   ·exact e
  have h1:t / k<l.length:=by rw [Nat.div_lt_iff_lt_mul Kl];exact ht
  have h2:t % k<k:=Nat.mod_lt _ Kl
  have e3:=It hk h1 h2 []
  rw [List.append_nil,Nat.div_add_mod' t k] at e3
  rw [e3,Array.getElem?_toList]
  have hsz:t<(Go.Sort.flatK enc k l.toArray).size:=by rw [Go.Sort.size_flatK];simpa using ht
  have e4:(Go.Sort.flatK enc k l.toArray)[t]? = some ((Go.Sort.flatK enc k l.toArray)[t]!):=by
   rw [getElem!_pos _ t hsz]
   exact getElem?_pos _ t hsz
  rw [e4,Go.Sort.get_flatK _ _ _ _ (by simpa using ht),getElem!_pos l.toArray (t / k) (by simpa using h1)]
  have h5:t % k<(enc l[t / k]).length:=by rw [hk];exact h2
  rw [List.getElem?_eq_getElem h5]
  congr 1
  show (enc (l.toArray[t / k]'_))[t % k]! = _
  rw [show l.toArray[t / k]'(by simpa using h1)=l[t / k] from rfl,getElem!_pos _ (t % k) h5]
 ·rw [List.getElem?_eq_none (by rw [Array.length_toList,Go.Sort.size_flatK];simpa using ht),List.getElem?_eq_none (by rw [sx];omega)]
theorem AW (pre cur vs ws:List Value) (h:ws.length=vs.length):Go.Sort.putCells id pre.length ws.toArray (pre++vs++cur).toArray=(pre++ws++cur).toArray:=by
 apply Array.ext_getElem?
 intro j
 unfold Go.Sort.putCells
 rw [Array.getElem?_mapIdx]
 simp only [List.getElem?_toArray,List.size_toArray]
 by_cases h1:j<pre.length
 ·rw [List.append_assoc,List.append_assoc,List.getElem?_append_left h1,List.getElem?_append_left h1]
  rw [List.getElem?_eq_getElem h1]
  simp only [Option.map_some]
  rw [if_neg (by omega)]
 ·by_cases h2:j<pre.length+ws.length
  ·have e1:(pre++vs++cur)[j]? = some ((pre++vs++cur)[j]'(by simp;omega)):=List.getElem?_eq_getElem _
   rw [e1,Option.map_some,if_pos (by omega)]
   rw [List.append_assoc,List.getElem?_append_right (by omega),List.getElem?_append_left (by omega),List.getElem?_eq_getElem (by omega)]
   congr 1
   show ws.toArray[j-pre.length]! = _
   rw [getElem!_pos ws.toArray (j-pre.length) (by simp;omega)]
   rfl
  ·rw [List.getElem?_append_right (by simp;omega),List.getElem?_append_right (by simp;omega)]
   simp only [List.length_append,h]
   cases cur[j-(pre.length+vs.length)]? with
   | none=>rfl
   | some x =>
    rw [Option.map_some,if_neg (by omega)]
theorem Ay {ρ:Ren} (L:SlLaysF0.n6 P ρ) {k:Nat} (aE:∀ w,(isAgg (ρ.t 24)).run P w=.ok true w) (zE:∀ w,(Go.sizeOf (ρ.t 24)).run P w=.ok k w) {enc:α→List Value} (hk:∀ x,(enc x).length=k) (h1:∀ x,∀ v∈enc x,v.oneCell'=true) {cf:α→α→Int} (hO:Go.Sort.SWO (ltOf cf))
  {g b cap:Nat} {cb:Array Value} {l:List α} {pre cur:List Value} {E:TypeId} {w:World} (eg:∀ args w,(callFunc g args).run P w=.ok (.enter g args) w) (hb:w.heap[b]? = some (.cells (pre++(l.map enc).flatten++cur).toArray E (0,0))) (hsz:l.length<4611686018427387904)
  (V4:∀ w',aF [b] w w'→∀ x y:α,Calls P g (#[.agg (enc x).toArray,.agg (enc y).toArray]++cb) w' fun e vH=>e=.returned (.int .i64 (cf x y))∧aF [] w' vH) :
  Calls P (ρ.f 6) #[.slice (some ⟨b,pre.length,none⟩) l.length cap,.func (.func g) #[] cb] w fun e w'=>
   e=.returned (.tuple #[])∧∃ l':List α,l'.Perm l∧l'.Pairwise (fun x y=>ltOf cf y x=false)∧aF [b] w w'∧w'.heap[b]? = some (.cells (pre++(l'.map enc).flatten++cur).toArray E (0,0)):=by
 have NA:b<w.heap.size:=(Array.getElem?_eq_some_iff.1 hb).1
 have Sc:∀ (m:Nat) (d:Array α) (os:Array Obj),aF [b] w (sortWorldK enc k w b pre.length m d os):=by
  intro m d os
  unfold sortWorldK putRowK
  refine ⟨rfl,rfl,rfl,Nat.le_add_right _ _,by simp,fun q hq hne=>?_⟩
  rw [Go.Sort.heap_grow_old _ _ (by simpa using hq)]
  have:b≠q:=fun e=>hne (by rw [e];simp)
  simp [Go.Sort.putRow,Go.Sort.mapBlock,Go.Sort.ahead,Array.getElem?_modify,this]
 have hC:CmpLays P g cb enc k cf b pre.length l.toArray.size w:=fun m os dk _ x y=>(V4 _ (Sc m dk os) x y).mono fun e w' ⟨he,re⟩=>⟨he,re.grown⟩
 have sx:=iy hk l
 have hH:HoldsK enc k w b pre.length l.toArray:=by
  intro j hj
  rw [Go.Sort.size_flatK] at hj
  have lI:j<l.length*k:=by simpa using hj
  refine ⟨?_,by simp [World.frozen?,hb]⟩
  have h0:=uY hk l
  simp only [World.cell?,hb,Option.isSome_none,Bool.false_eq_true,if_false,List.getElem?_toArray]
  rw [List.append_assoc,List.getElem?_append_right (by omega),Nat.add_sub_cancel_left,List.getElem?_append_left (by omega),← h0,Array.getElem?_toList]
  have hs:j<(Go.Sort.flatK enc k l.toArray).size:=by rw [Go.Sort.size_flatK];exact hj
  rw [getElem!_pos _ j hs]
  exact getElem?_pos _ j hs
 have key:=AnyQ.slices_SortFunc L k aE zE enc hk h1 cf hO g cb b pre.length cap l.toArray w eg hC hH NA (by simpa using hsz)
 refine Calls.mono key ?_
 rintro e w' ⟨he,d',m,os,hp,zg,hw⟩
 subst hw
 obtain ⟨zZ,_,W3⟩:=hp
 have hd:List.Perm d'.toList l:=by
  rw [show (l.toArray.extract 0 l.toArray.size)=l.toArray by simp,show d'.extract 0 l.toArray.size=d' by rw [← zZ];simp] at W3
  exact W3
 refine ⟨he,d'.toList,hd,?_,Sc m d' os,?_⟩
 ·rw [List.pairwise_iff_getElem]
  intro i j hi hj xD
  rw [Array.length_toList] at hi hj
  have SG:d'.size=l.length:=by rw [zZ];simp
  have:=zg i j (Nat.zero_le _) xD (by simp;omega)
  rw [getElem!_pos d' i hi,getElem!_pos d' j hj] at this
  simpa using this
 ·unfold sortWorldK putRowK
  rw [Go.Sort.heap_grow_old _ _ (by simpa using NA)]
  have Vj:=AW pre cur (l.map enc).flatten (Go.Sort.flatK enc k d').toList (by
   rw [Array.length_toList,Go.Sort.size_flatK,sx,zZ];simp)
  have T9:=uY hk d'.toList
  rw [Array.toArray_toList] at T9 Vj
  rw [T9] at Vj
  simp [Go.Sort.putRow,Go.Sort.mapBlock,Go.Sort.ahead,Array.getElem?_modify,hb,Go.Sort.onCells]
  simpa using Vj
end
end Go.SL
namespace Go.Proofs
open Go.Shelf
def Tryz.Cp:Go.Shelf.Ren:=⟨fun | 6=>260 | 15=>245 | 14=>320 | 28=>312 | 29=>313 | 20=>349 | 21=>350 | 22=>351 | 23=>352 | 24=>353 | 25=>354 | 26=>355 | 27=>356 | 46=>376 | 47=>344 | 48=>345 | 49=>377 | 50=>378 | 57=>392 | n=>n,fun | 22=>329 | 24=>244 | 25=>332 | 3=>3 | 39=>318 | 0=>0 | 53=>381 | 55=>383 | 4=>4 | 46=>374 | 45=>373 | 50=>272 | 5=>5 | 9=>9 | 66=>409 | 70=>413 | 76=>428 | 77=>359 | n=>n,fun | n=>n⟩
theorem Tryz.Cq:Go.Proofs.SlLaysF0.n6 Tryz.prog Tryz.Cp:={
 mixed:=by kernel_rfl
 f6:=⟨Tryz.f260.name,by decide,Tryz.func260.trans (congrArg some (by kernel_rfl))⟩
 f14:=⟨Tryz.f320.name,by decide,Tryz.func320.trans (congrArg some (by kernel_rfl))⟩
 f15:=Tryz.func245.trans (congrArg some (by kernel_rfl))
 f20:=⟨Tryz.f349.name,by decide,Tryz.func349.trans (congrArg some (by kernel_rfl))⟩
 f21:=⟨Tryz.f350.name,by decide,Tryz.func350.trans (congrArg some (by kernel_rfl))⟩
 f22:=⟨Tryz.f351.name,by decide,Tryz.func351.trans (congrArg some (by kernel_rfl))⟩
 f23:=⟨Tryz.f352.name,by decide,Tryz.func352.trans (congrArg some (by kernel_rfl))⟩
 f24:=⟨Tryz.f353.name,by decide,Tryz.func353.trans (congrArg some (by kernel_rfl))⟩
 f25:=⟨Tryz.f354.name,by decide,Tryz.func354.trans (congrArg some (by kernel_rfl))⟩
 f26:=⟨Tryz.f355.name,by decide,Tryz.func355.trans (congrArg some (by kernel_rfl))⟩
 f27:=⟨Tryz.f356.name,by decide,Tryz.func356.trans (congrArg some (by kernel_rfl))⟩
 f28:=Tryz.func312.trans (congrArg some (by kernel_rfl))
 f29:=Tryz.func313.trans (congrArg some (by kernel_rfl))
 f46:=⟨Tryz.f376.name,by decide,Tryz.func376.trans (congrArg some (by kernel_rfl))⟩
 f47:=Tryz.func344.trans (congrArg some (by kernel_rfl))
 f48:=Tryz.func345.trans (congrArg some (by kernel_rfl))
 f49:=⟨Tryz.f377.name,by decide,Tryz.func377.trans (congrArg some (by kernel_rfl))⟩
 f50:=⟨Tryz.f378.name,by decide,Tryz.func378.trans (congrArg some (by kernel_rfl))⟩
 f57:=⟨Tryz.f392.name,by decide,Tryz.func392.trans (congrArg some (by kernel_rfl))⟩
 t0:=Tryz.underlying0
 a0:=Tryz.isAgg0
 z0:=Tryz.sizeOf0
 v0:=Tryz.zeroValue0
 t3:=Tryz.underlying3
 a3:=Tryz.isAgg3
 z3:=Tryz.sizeOf3
 v3:=Tryz.zeroValue3
 t4:=Tryz.underlying4
 a4:=Tryz.isAgg4
 z4:=Tryz.sizeOf4
 v4:=Tryz.zeroValue4
 t5:=Tryz.underlying5
 a5:=Tryz.isAgg5
 z5:=Tryz.sizeOf5
 v5:=Tryz.zeroValue5
 t9:=Tryz.underlying9
 a9:=Tryz.isAgg9
 z9:=Tryz.sizeOf9
 v9:=Tryz.zeroValue9
 t22:=Tryz.underlying329
 a22:=Tryz.isAgg329
 z22:=Tryz.sizeOf329
 v22:=Tryz.zeroValue329
 t25:=Tryz.underlying332
 a25:=Tryz.isAgg332
 z25:=Tryz.sizeOf332
 v25:=Tryz.zeroValue332
 t39:=Tryz.underlying318
 a39:=Tryz.isAgg318
 z39:=Tryz.sizeOf318
 v39:=Tryz.zeroValue318
 t45:=Tryz.underlying373
 a45:=Tryz.isAgg373
 z45:=Tryz.sizeOf373
 v45:=Tryz.zeroValue373
 t46:=Tryz.underlying374
 a46:=Tryz.isAgg374
 z46:=Tryz.sizeOf374
 v46:=Tryz.zeroValue374
 t50:=Tryz.underlying272
 a50:=Tryz.isAgg272
 z50:=Tryz.sizeOf272
 v50:=Tryz.zeroValue272
 t53:=Tryz.underlying381
 a53:=Tryz.isAgg381
 z53:=Tryz.sizeOf381
 v53:=Tryz.zeroValue381
 t55:=Tryz.underlying383
 a55:=Tryz.isAgg383
 z55:=Tryz.sizeOf383
 v55:=Tryz.zeroValue383
 t66:=Tryz.underlying409
 a66:=Tryz.isAgg409
 z66:=Tryz.sizeOf409
 v66:=Tryz.zeroValue409
 t70:=Tryz.underlying413
 a70:=Tryz.isAgg413
 z70:=Tryz.sizeOf413
 v70:=Tryz.zeroValue413
 t76:=Tryz.underlying428
 a76:=Tryz.isAgg428
 z76:=Tryz.sizeOf428
 v76:=Tryz.zeroValue428
 t77:=Tryz.underlying359
 a77:=Tryz.isAgg359
 z77:=Tryz.sizeOf359
 v77:=Tryz.zeroValue359 }
def Tryz.Cr:Go.Shelf.Ren:=⟨fun | 6=>317 | 15=>245 | 14=>348 | 28=>312 | 29=>313 | 20=>368 | 21=>369 | 22=>370 | 23=>371 | 24=>372 | 25=>373 | 26=>374 | 27=>375 | 46=>389 | 47=>344 | 48=>345 | 49=>390 | 50=>391 | 57=>399 | n=>n,fun | 22=>39 | 24=>188 | 25=>388 | 3=>3 | 39=>318 | 0=>0 | 53=>381 | 55=>383 | 4=>4 | 46=>374 | 45=>373 | 50=>272 | 5=>5 | 9=>9 | 66=>409 | 70=>413 | 76=>428 | 77=>359 | n=>n,fun | n=>n⟩
theorem Tryz.Cs:Go.Proofs.SlLaysF0.n6 Tryz.prog Tryz.Cr:={
 mixed:=by kernel_rfl
 f6:=⟨Tryz.f317.name,by decide,Tryz.func317.trans (congrArg some (by kernel_rfl))⟩
 f14:=⟨Tryz.f348.name,by decide,Tryz.func348.trans (congrArg some (by kernel_rfl))⟩
 f15:=Tryz.func245.trans (congrArg some (by kernel_rfl))
 f20:=⟨Tryz.f368.name,by decide,Tryz.func368.trans (congrArg some (by kernel_rfl))⟩
 f21:=⟨Tryz.f369.name,by decide,Tryz.func369.trans (congrArg some (by kernel_rfl))⟩
 f22:=⟨Tryz.f370.name,by decide,Tryz.func370.trans (congrArg some (by kernel_rfl))⟩
 f23:=⟨Tryz.f371.name,by decide,Tryz.func371.trans (congrArg some (by kernel_rfl))⟩
 f24:=⟨Tryz.f372.name,by decide,Tryz.func372.trans (congrArg some (by kernel_rfl))⟩
 f25:=⟨Tryz.f373.name,by decide,Tryz.func373.trans (congrArg some (by kernel_rfl))⟩
 f26:=⟨Tryz.f374.name,by decide,Tryz.func374.trans (congrArg some (by kernel_rfl))⟩
 f27:=⟨Tryz.f375.name,by decide,Tryz.func375.trans (congrArg some (by kernel_rfl))⟩
 f28:=Tryz.func312.trans (congrArg some (by kernel_rfl))
 f29:=Tryz.func313.trans (congrArg some (by kernel_rfl))
 f46:=⟨Tryz.f389.name,by decide,Tryz.func389.trans (congrArg some (by kernel_rfl))⟩
 f47:=Tryz.func344.trans (congrArg some (by kernel_rfl))
 f48:=Tryz.func345.trans (congrArg some (by kernel_rfl))
 f49:=⟨Tryz.f390.name,by decide,Tryz.func390.trans (congrArg some (by kernel_rfl))⟩
 f50:=⟨Tryz.f391.name,by decide,Tryz.func391.trans (congrArg some (by kernel_rfl))⟩
 f57:=⟨Tryz.f399.name,by decide,Tryz.func399.trans (congrArg some (by kernel_rfl))⟩
 t0:=Tryz.underlying0
 a0:=Tryz.isAgg0
 z0:=Tryz.sizeOf0
 v0:=Tryz.zeroValue0
 t3:=Tryz.underlying3
 a3:=Tryz.isAgg3
 z3:=Tryz.sizeOf3
 v3:=Tryz.zeroValue3
 t4:=Tryz.underlying4
 a4:=Tryz.isAgg4
 z4:=Tryz.sizeOf4
 v4:=Tryz.zeroValue4
 t5:=Tryz.underlying5
 a5:=Tryz.isAgg5
 z5:=Tryz.sizeOf5
 v5:=Tryz.zeroValue5
 t9:=Tryz.underlying9
 a9:=Tryz.isAgg9
 z9:=Tryz.sizeOf9
 v9:=Tryz.zeroValue9
 t22:=Tryz.underlying39
 a22:=Tryz.isAgg39
 z22:=Tryz.sizeOf39
 v22:=Tryz.zeroValue39
 t25:=Tryz.underlying388
 a25:=Tryz.isAgg388
 z25:=Tryz.sizeOf388
 v25:=Tryz.zeroValue388
 t39:=Tryz.underlying318
 a39:=Tryz.isAgg318
 z39:=Tryz.sizeOf318
 v39:=Tryz.zeroValue318
 t45:=Tryz.underlying373
 a45:=Tryz.isAgg373
 z45:=Tryz.sizeOf373
 v45:=Tryz.zeroValue373
 t46:=Tryz.underlying374
 a46:=Tryz.isAgg374
 z46:=Tryz.sizeOf374
 v46:=Tryz.zeroValue374
 t50:=Tryz.underlying272
 a50:=Tryz.isAgg272
 z50:=Tryz.sizeOf272
 v50:=Tryz.zeroValue272
 t53:=Tryz.underlying381
 a53:=Tryz.isAgg381
 z53:=Tryz.sizeOf381
 v53:=Tryz.zeroValue381
 t55:=Tryz.underlying383
 a55:=Tryz.isAgg383
 z55:=Tryz.sizeOf383
 v55:=Tryz.zeroValue383
 t66:=Tryz.underlying409
 a66:=Tryz.isAgg409
 z66:=Tryz.sizeOf409
 v66:=Tryz.zeroValue409
 t70:=Tryz.underlying413
 a70:=Tryz.isAgg413
 z70:=Tryz.sizeOf413
 v70:=Tryz.zeroValue413
 t76:=Tryz.underlying428
 a76:=Tryz.isAgg428
 z76:=Tryz.sizeOf428
 v76:=Tryz.zeroValue428
 t77:=Tryz.underlying359
 a77:=Tryz.isAgg359
 z77:=Tryz.sizeOf359
 v77:=Tryz.zeroValue359 }
end Go.Proofs
namespace Go.Proofs.A1
open Go Go.SL Go.Shelf Go.Proofs
structure Wy where
 v:Value
 p:List Nat
 f:Nat
def Wy.cells (x:Wy):List Value:=[x.v,.int .i64 (x.f:Nat)]
def nz (p:List Nat):List Int:=p.map fun i:Nat=>(i:Int)
def fI (p:List Nat):List Value:=p.map fun i=>.int .i64 (i:Nat)
def QY (l:List Wy):List (List Value):=l.map Wy.cells
def mj (l:List Wy):List Value:=(QY l).flatten
theorem xl (p:List Nat):(fI p).map (fun u=>[u])=ints (nz p):=by simp [fI,ints,nz]
theorem rA (p:List Nat):(nz p).length=p.length:=by simp [nz]
def Q1 (a b:Nat×List Nat):Int:=aV [jR a.1 b.1,jR (a.2.length:Nat) (b.2.length:Nat),kY (nz a.2) (nz b.2)]
def wl (a b:Nat×List Nat):Bool:=decide (a.1<b.1)||(decide (a.1=b.1)&&(decide (a.2.length<b.2.length)||(decide (a.2.length=b.2.length)&&lexB a.2 b.2)))
theorem u9 {x y:Int}:jR x y<0↔x<y:=by
 unfold jR
 split
 ·constructor <;> intro _ <;> omega
 ·split <;> constructor <;> intro _ <;> omega
theorem BE:∀ {a b:List Nat},a.length=b.length→(kY (nz a) (nz b)<0↔lexB a b=true)
 | [],[],_=>by simp [nz,kY,lexB]
 | [],_::_,h=>by simp at h
 | _::_,[],h=>by simp at h
 | x :: a, y :: b, h => by
  have ih:=BE (a:=a) (b:=b) (by simpa using h)
  show (if jR x y≠0 then jR x y else kY (nz a) (nz b))<0↔_
  unfold lexB
  by_cases e:(x:Int)=y
  ·rw [if_neg (not_not_intro (hY.2 e)),ih]
   have e':x=y:=by exact_mod_cast e
   simp [e']
  ·rw [if_pos (fun q=>e (hY.1 q)),u9]
   have e':¬ x=y:=fun q=>e (by rw [q])
   simp [e']
theorem Dz (a b:Nat×List Nat):Q1 a b<0↔wl a b=true:=by
 unfold Q1 wl aV
 by_cases h1:(a.1:Int)=b.1
 ·rw [if_neg (not_not_intro (hY.2 h1))]
  have Ac:a.1=b.1:=by exact_mod_cast h1
  unfold aV
  by_cases h2:((a.2.length:Nat):Int)=(b.2.length:Nat)
  ·rw [if_neg (not_not_intro (hY.2 h2))]
   have FF:a.2.length=b.2.length:=by exact_mod_cast h2
   have h3:=BE FF
   unfold aV
   by_cases h4:kY (nz a.2) (nz b.2)=0
   ·rw [if_neg (not_not_intro h4)]
    rw [h4] at h3
    simp [aV,Ac,FF]
    have:=h3.symm
    simpa using this
   ·rw [if_pos h4,h3]
    simp [Ac,FF]
  ·rw [if_pos (fun q=>h2 (hY.1 q)),u9]
   have FF:¬ a.2.length=b.2.length:=fun q=>h2 (by rw [q])
   simp [Ac,FF]
 ·rw [if_pos (fun q=>h1 (hY.1 q)),u9]
  have Ac:¬ a.1=b.1:=fun q=>h1 (by rw [q])
  simp [Ac]
theorem wj (a:Nat×List Nat):wl a a=false:=by unfold wl;rw [nJ];simp
theorem Af {a b c:Nat×List Nat} (h1:wl a b=true) (h2:wl b c=true):wl a c=true:=by
 unfold wl at *
 simp only [Bool.or_eq_true,Bool.and_eq_true,decide_eq_true_eq] at *
 rcases h1 with h1 | ⟨e1,h1 | ⟨e2,h1⟩⟩ <;> rcases h2 with h2 | ⟨g1,h2 | ⟨g2,h2⟩⟩
 ·exact .inl (by omega)
 ·exact .inl (by omega)
 ·exact .inl (by omega)
 ·exact .inl (by omega)
 ·exact .inr ⟨by omega,.inl (by omega)⟩
 ·exact .inr ⟨by omega,.inl (by omega)⟩
 ·exact .inl (by omega)
 ·exact .inr ⟨by omega,.inl (by omega)⟩
 ·exact .inr ⟨by omega,.inr ⟨by omega,pH h1 h2⟩⟩
theorem F8 {a b:Nat×List Nat} (h:a≠b):wl a b=true∨wl b a=true:=by
 unfold wl
 simp only [Bool.or_eq_true,Bool.and_eq_true,decide_eq_true_eq]
 rcases Nat.lt_trichotomy a.1 b.1 with h1 | h1 | h1
 ·exact .inl (.inl h1)
 ·rcases Nat.lt_trichotomy a.2.length b.2.length with h2 | h2 | h2
  ·exact .inl (.inr ⟨h1,.inl h2⟩)
  ·have hne:a.2≠b.2:=fun e=>h (Prod.ext h1 e)
   rcases pI h2 hne with h3 | h3
   ·exact .inl (.inr ⟨h1,.inr ⟨h2,h3⟩⟩)
   ·exact .inr (.inr ⟨h1.symm,.inr ⟨h2.symm,h3⟩⟩)
  ·exact .inr (.inr ⟨h1.symm,.inl h2⟩)
 ·exact .inr (.inl h1)
theorem Oe {α:Type} (g:α→Nat×List Nat):Go.Sort.SWO (ltOf fun x y:α=>Q1 (g x) (g y)):=by
 have e:∀ x y:α,ltOf (fun x y:α=>Q1 (g x) (g y)) x y=wl (g x) (g y):=fun x y=>by
  unfold ltOf
  rw [Bool.eq_iff_iff,decide_eq_true_eq]
  exact Dz _ _
 constructor
 ·intro x;rw [e];exact wj _
 ·intro x y z h1 h2;rw [e] at *;exact Af h1 h2
 ·intro x y z h1 h2
  rw [e] at *
  by_cases h:wl (g x) (g z)=true
  ·by_cases e1:g x=g y
   ·rw [e1,h2] at h;cases h
   ·rcases F8 e1 with h3 | h3
    ·rw [h1] at h3;cases h3
    ·rw [Af h3 h] at h2;cases h2
  ·simpa using h
theorem Rv {v:Value} {cs:List Value} {es:List Int} {w:World} (h:Rd w v 1 (cs.map fun v=>[v])) (hl:bU cs es):aj Tryz.prog 319 [v] w (.int .i64 (aV es)):=
 Rw (by rw [← hl.eq];exact h)
theorem Og {v1 v2:Value} {p q:List Nat} {f1 f2:Nat} {w:World} (h1:Rd w v1 1 (ints (nz p))) (h2:Rd w v2 1 (ints (nz q))) :
  aj Tryz.prog 261 [.agg #[v1,.int .i64 (f1:Nat)],.agg #[v2,.int .i64 (f2:Nat)]] w (.int .i64 (Q1 (f1,p) (f2,q))):=by
 have V5:∀ w',aF [] w w'→aj Tryz.prog 236 [v1,v2] w' (.int .i64 (kY (nz p) (nz q))):=fun w' hk=>xP (h1.keeps hk) (h2.keeps hk)
 obtain ⟨a,cp,b,o,rfl,df,bO,ha,hc⟩:=h1
 rw [cZ,rA] at *
 obtain ⟨a',QV,b',o',rfl,nS,Nq,cM,Ub⟩:=h2
 rw [cZ,rA] at *
 have ix:=V5
 refine ah Tryz.func261 rfl rfl ?_
 refine Jr<|Jy rfl rfl fun _ _=>Jy rfl rfl fun _ _=>Ja rfl<|Jn<|Jq ?_
 with_reducible refine cQ 18 (by kernel_rfl) ?_
 (refine an kr rfl ?_;refine an (gp (.there .here)) rfl ?_;refine an kr rfl ?_;refine an (gp .here) rfl ?_;refine aU aZ rfl (fun w' az=>(BD _ _ w')) ?_;refine an kr rfl ?_;refine an (gp (.there .here)) rfl ?_;refine an (ct (.of rfl)) rfl ?_;refine an kr rfl ?_;refine an (gp .here) rfl ?_;refine an (ct (.of rfl)) rfl ?_;refine aU aZ rfl (fun w' az=>(BD _ _ w')) ?_;refine an kr rfl ?_;refine an (gp (.there .here)) rfl ?_;refine an kr rfl ?_;refine an (gp .here) rfl ?_;refine aU aZ rfl (fun w' az=>(ix w' (Mem.keeps az))) ?_;refine en (aA (.cons (.of rfl) (.cons (.of rfl) (.cons (.of rfl) .nil))) rfl rfl rfl rfl) rfl rfl ?_)
 with_reducible refine dy rfl fun bq mT=>?_
 (refine ag bC rfl (fun w' az=>(Rv (Mem.dh az .here rfl rfl) (bU.cons (bU.cons (bU.cons bU.nil))))) ?_;refine Ja rfl<|Jn<|Je<|JT ?_)
 rfl
theorem Oa (l:List Wy):∀ r∈QY l,r.length=2:=fun r hr=>by obtain ⟨x,_,rfl⟩:=List.mem_map.1 hr;rfl
theorem oz (l:List Wy):(mj l).length=l.length*2:=by unfold mj;rw [fK (Oa l)];unfold QY;rw [List.length_map]
theorem Ku (a b:List Wy):mj (a++b)=mj a++mj b:=by unfold mj QY;rw [List.map_append,List.flatten_append]
def ia (jS:List Wy):ba:=mz 3 (jS.map Wy.v) (jS.map fun x=>fI x.p)
theorem EH {w:World} {jS:List Wy} {fp:List Nat} (hn:fp.Nodup) (hs:bY (hp w) [ia jS] fp) {x:Wy} (hx:x∈jS):Rd w x.v 1 (ints (nz x.p)):=by
 obtain ⟨j,hj,rfl⟩:=List.getElem_of_mem hx
 have hm:Mem ⟨w,fp,0⟩ [ia jS] w:=⟨.refl _ _,fp,hn,hs,fun b hb=>.inr hb⟩
 have:=hm.CA (j:=j) (v:=(jS[j]).v) (x:=fI (jS[j]).p) .here (by simp [hj]) (by simp [hj])
 rwa [xl] at this
theorem Dm {c:Cx} {hs hs':List ba} {w:World} (hm:Mem c hs w) {jS:List Wy} (ht:Take hs (ia jS) hs') {x:Wy} (hx:x∈jS):Rd w x.v 1 (ints (nz x.p)):=by
 obtain ⟨j,hj,rfl⟩:=List.getElem_of_mem hx
 have:=hm.CA (j:=j) (v:=(jS[j]).v) (x:=fI (jS[j]).p) ht (by simp [hj]) (by simp [hj])
 rwa [xl] at this
theorem bY.one {h:Nat→Option Obj} {A:ba} {fp:List Nat} (hs:bY h [A] fp):A.sat h fp:=by
 obtain ⟨f1,f2,rfl,h1,h2⟩:=hs
 obtain rfl:f2=[]:=h2
 rwa [List.append_nil]
theorem GC {v:Value} {n:Nat} {l jS:List Wy} {w:World} {fp:List Nat} (kD:fp.Nodup) (hs:bY (hp w) [j5 244 2 v n (mj l),ia jS] fp) (hn:n=l.length) (iv:∀ x∈l,x∈jS) (cJ:n≤1000000) (Ui:∀ x∈jS,x.v.oneCell'=true) :
  bd Tryz.prog 260 [v,.func (.func 261) #[] #[]] w fp (fun l':List Wy=>l'.Perm l∧l'.Pairwise (fun x y=>wl (y.f,y.p) (x.f,x.p)=false)) (fun _=>.tuple #[]) (fun l'=>[j5 244 2 v n (mj l'),ia jS]):=by
 obtain ⟨f1,f2,rfl,h1,h2⟩:=hs
 obtain ⟨hlen,h1⟩:=h1
 have PD:=(List.nodup_append.1 kD).2.1
 have kd:=(List.nodup_append.1 kD).2.2
 rcases h1 with ⟨rfl,rfl,h0⟩ | ⟨g,off,cap,cur,rfl,rfl,hg,jY,jH,hfit,htk⟩
 ·have pK:l=[]:=List.eq_nil_of_length_eq_zero (by omega)
  subst pK
  refine (AnyF.slices_SortFunc_none Tryz.Cq none 0 (.func (.func 261) #[] #[]) w).mono fun e w' ⟨he,hw⟩=>?_
  subst hw
  exact ⟨[],he,⟨.refl _,.nil⟩,.refl _ _,[]++f2,by simpa using PD,⟨[],f2,rfl,⟨hlen,.inl ⟨rfl,rfl,h0⟩⟩,h2⟩,fun b hb=>.inl hb⟩
 ·subst hn
  have PV:g<w.heap.size:=(Array.getElem?_eq_some_iff.1 hg).1
  by_cases pK:l=[]
  ·subst pK
   refine (AnyF.slices_SortFunc_none Tryz.Cq (some ⟨g,off,none⟩) cap (.func (.func 261) #[] #[]) w).mono fun e w' ⟨he,hw⟩=>?_
   subst hw
   exact ⟨[],he,⟨.refl _,.nil⟩,.refl _ _,[g]++f2,kD,⟨[g],f2,rfl,⟨hlen,.inr ⟨g,off,cap,cur,rfl,rfl,hg,jY,jH,hfit,htk⟩⟩,h2⟩,fun b hb=>.inl hb⟩
  obtain ⟨x0,Pb⟩:=List.exists_mem_of_ne_nil l pK
  let α:={x:Wy // x∈jS}
  let _:Inhabited α:=⟨⟨x0,iv x0 Pb⟩⟩
  let enc:α→List Value:=fun x=>x.1.cells
  have hle:l.length*2≤cap*2:=Nat.mul_le_mul_right _ jY
  have Nx:cur.size=cur.toList.length:=by simp
  have mI:cur=(cur.toList.take off++mj l++cur.toList.drop (off+l.length*2)).toArray:=by
   apply Array.ext'
   show cur.toList=_
   rw [← htk]
   conv=>lhs;rw [← List.take_append_drop off cur.toList]
   rw [List.append_assoc]
   congr 1
   conv=>lhs;rw [← List.take_append_drop (l.length*2) (cur.toList.drop off)]
   rw [List.drop_drop]
  have zY:(cur.toList.take off).length=off:=by rw [List.length_take];omega
  generalize kc:cur.toList.take off=pre at mI zY
  generalize Sd:cur.toList.drop (off+l.length*2)=post at mI
  let la:List α:=l.attach.map fun x=>⟨x.1,iv x.1 x.2⟩
  have PG:la.map (fun x:α=>x.1)=l:=by
   show (l.attach.map fun x=>(⟨x.1,iv x.1 x.2⟩:α)).map (fun x:α=>x.1)=l
   rw [List.map_map]
   exact List.attach_map_subtype_val l
  have Bk:∀ m:List α,(m.map enc).flatten=mj (m.map fun x:α=>x.1):=fun m=>by
   unfold mj QY
   rw [List.map_map];rfl
  have CY:la.length=l.length:=by
   show (l.attach.map fun x=>(⟨x.1,iv x.1 x.2⟩:α)).length=_
   rw [List.length_map,List.length_attach]
  have sQ:w.heap[g]? = some (.cells (pre++(la.map enc).flatten++post).toArray 244 (0,0)):=by rw [Bk,PG,← mI];exact hg
  have key:=Ay Tryz.Cq (k:=2) Tryz.isAgg244 Tryz.sizeOf244 (enc:=enc) (fun _=>rfl)
   (fun x u hu=>by
    have hx:=Ui x.1 x.2
    simp only [enc,Wy.cells,List.mem_cons,List.not_mem_nil,or_false] at hu
    rcases hu with rfl | rfl
    ·exact hx
    ·rfl)
   (Oe (fun x:α=>(x.1.f,x.1.p))) (g:=261) (b:=g) (cap:=cap) (cb:=#[]) (l:=la) (pre:=pre) (cur:=post) (E:=244) (w:=w)
   (enters_of Tryz.func261 (by kernel_rfl) rfl) sQ (by rw [CY];omega)
   (fun w' hk x y=>by
    have hp:bY (hp w') [ia jS] f2:=bY.loc h2 fun b hb=>by
     have NA:b<w.heap.size:=by
      obtain ⟨o,ho⟩:=bY.own h2 b hb
      exact jG ho
     exact hk.block b NA (fun e=>kd g (by simp) b hb (List.mem_singleton.1 e).symm)
    exact Og (EH PD hp x.2) (EH PD hp y.2))
  rw [CY,zY] at key
  refine Calls.mono key ?_
  rintro e w' ⟨he,l',gP,Vf,hk,dw⟩
  have xB:(l'.map fun x:α=>x.1).length=l.length:=by rw [List.length_map,gP.length_eq,CY]
  rw [Bk] at dw
  refine ⟨l'.map fun x:α=>x.1,he,⟨?_,?_⟩,hk.mono (by simp),[g]++f2,kD,⟨[g],f2,rfl,?_,bY.loc h2 fun b hb=>?_⟩,fun b hb=>.inl hb⟩
  ·have:=gP.map (fun x:α=>x.1)
   rwa [PG] at this
  ·rw [List.pairwise_map]
   refine Vf.imp fun {x y} h=>?_
   unfold ltOf at h
   rw [decide_eq_false_iff_not,Dz] at h
   simpa using h
  ·have hr:=wQ (n:=l.length) (sz:=2) (cap:=cap) (fp:=[g]) (h:=hp w') ⟨rfl,dw⟩ zY jY jH (by
    have:=congrArg (fun x:Array Value=>x.toList.length) mI
    simp only [Array.length_toList,List.length_append,oz] at this
    rw [List.length_append,List.length_append,oz,xB,← this];exact hfit) (by rw [oz,xB])
   exact hr
  ·have NA:b<w.heap.size:=by
    obtain ⟨o,ho⟩:=bY.own h2 b hb
    exact jG ho
   exact hk.block b NA (fun e=>kd g (by simp) b hb (List.mem_singleton.1 e).symm)
end Go.Proofs.A1
namespace Go.Proofs.A1
open Go Go.SL
theorem Iu {α:Type} {q:α→Bool} {l:List α} {k:Nat} (h:k<l.length) (hq:q l[k]=true):(l.filter q)[((l.take k).filter q).length]? = some l[k]:=by
 have e:l=l.take k++l[k]::l.drop (k+1):=by rw [← List.drop_eq_getElem_cons h,List.take_append_drop]
 have:l.filter q=(l.take k).filter q++l[k]::(l.drop (k+1)).filter q:=by
  conv=>lhs;rw [e]
  rw [List.filter_append,List.filter_cons_of_pos hq]
 rw [this,List.getElem?_append_right (Nat.le_refl _),Nat.sub_self];rfl
def Bv (r:Ro) (v m:Int) (i:Nat):Bool:=decide ((ij r i).fr=m)&&!iT r.po v (gy r i)
def fc (r:Ro) (v m:Int) (k:Nat):List Nat:=(List.range k).filter (Bv r v m)
def Kf (r:Ro) (v m:Int):List (List Value):=(fc r v m r.ti.length).map fun i=>[.int .i64 (i:Nat),.agg (ij r i).cells.toArray]
theorem tx (r:Ro) (v m:Int):(Kf r v m).length=(fc r v m r.ti.length).length:=by simp [Kf]
theorem rI (r:Ro) (v m:Int) (k:Nat):fc r v m (k+1)=fc r v m k++if Bv r v m k then [k] else []:=by
 unfold fc
 rw [List.range_succ,List.filter_append]
 congr 1
 by_cases h:Bv r v m k=true
 ·rw [List.filter_cons_of_pos h,if_pos h];rfl
 ·rw [List.filter_cons_of_neg h,if_neg h];rfl
theorem LD {r:Ro} {v m:Int} {k:Nat} (h:k<r.ti.length) (hq:Bv r v m k=true):(Kf r v m)[(fc r v m k).length]? = some [.int .i64 (k:Nat),.agg (ij r k).cells.toArray]:=by
 have h1:=Iu (l:=List.range r.ti.length) (q:=Bv r v m) (k:=k) (by rw [List.length_range];exact h) (by rw [List.getElem_range];exact hq)
 rw [List.take_range,Nat.min_eq_left (by omega),List.getElem_range] at h1
 unfold Kf fc
 rw [List.getElem?_map,h1];rfl
theorem CM {r:Ro} {v m:Int} {k:Nat} {vs:List Value} (h:(Kf r v m)[k]? = some vs):∃ i,(fc r v m r.ti.length)[k]? = some i∧vs=[.int .i64 (i:Nat),.agg (ij r i).cells.toArray]∧i<r.ti.length∧Bv r v m i=true:=by
 unfold Kf at h
 rw [List.getElem?_map,Option.map_eq_some_iff] at h
 obtain ⟨i,hi,rfl⟩:=h
 have hm:=List.mem_of_getElem? hi
 unfold fc at hm
 rw [List.mem_filter,List.mem_range] at hm
 exact ⟨i,hi,rfl,hm.1,hm.2⟩
theorem mu {r:Ro} {i:Nat} (h:i<r.ti.length):ij r i=r.ti[i]:=by
 unfold ij;rw [List.getD_eq_getElem?_getD,List.getElem?_eq_getElem h];rfl
theorem iZ {P:Program} {c:Cx} {sl:aG} {hs:List ba} {dst:Option Tmp} {ty:TypeId} {pos:String} {af:Array Edge} {g:Option (Nat×Bool)} {k:IntKind} {t u:TypeId} {x y:Operand} {a b:Int} (hx:Is sl x (.int k a)) (hy:Is sl y (.int k b)) (e:a=b) :
  cX P c sl hs ⟨dst,.binOp .eql t x y u,ty,pos,af,g⟩ (.bool true):=by
 have:=nF (P:=P) (c:=c) (hs:=hs) (dst:=dst) (ty:=ty) (pos:=pos) (af:=af) (g:=g) (t:=t) (u:=u) hx hy
 rwa [decide_eq_true e] at this
theorem Lb {P:Program} {c:Cx} {sl:aG} {hs:List ba} {dst:Option Tmp} {ty:TypeId} {pos:String} {af:Array Edge} {g:Option (Nat×Bool)} {k:IntKind} {t u:TypeId} {x y:Operand} {a b:Int} (hx:Is sl x (.int k a)) (hy:Is sl y (.int k b)) (e:a≠b) :
  cX P c sl hs ⟨dst,.binOp .eql t x y u,ty,pos,af,g⟩ (.bool false):=by
 have:=nF (P:=P) (c:=c) (hs:=hs) (dst:=dst) (ty:=ty) (pos:=pos) (af:=af) (g:=g) (t:=t) (u:=u) hx hy
 rwa [decide_eq_false e] at this
theorem cN {P:Program} {c:Cx} {sl:aG} {hs:List ba} {dst:Option Tmp} {ty:TypeId} {pos:String} {af:Array Edge} {g:Option (Nat×Bool)} {x y z:Operand} {q:Bool} {v u:Value} (hx:Is sl x (.bool q)) (hy:Is sl y v) (hz:Is sl z u) (e:(bif q then v else u)=Value.bool false):cX P c sl hs ⟨dst,.pick x y z,ty,pos,af,g⟩ (.bool false):=e ▸ th hx hy hz
theorem eD {P:Program} {c:Cx} {sl:aG} {hs:List ba} {dst:Option Tmp} {ty:TypeId} {pos:String} {af:Array Edge} {g:Option (Nat×Bool)} {x y z:Operand} {q:Bool} {v u:Value} (hx:Is sl x (.bool q)) (hy:Is sl y v) (hz:Is sl z u) (e:(bif q then v else u)=Value.bool true):cX P c sl hs ⟨dst,.pick x y z,ty,pos,af,g⟩ (.bool true):=e ▸ th hx hy hz
theorem rD {r:Ro} {s d t p:Value} (v m:Int) {w w1:World} (h:RR w1 r s d t p) :
  bd Tryz.prog 153 [RA r s d t p,.int .i64 v,.int .i64 m] w [] (fun _:Nat×Nat×Nat=>True) (fun x=>.func (.func 240) #[] #[.pointer (some ⟨x.1,0,none⟩),.pointer (some ⟨x.2.1,0,none⟩),.pointer (some ⟨x.2.2,0,none⟩)])
   (fun x=>[JP x.1 r s d t p,bD x.2.1 (.cells #[.int .i64 m] 3 (0,0)),bD x.2.2 (.cells #[.int .i64 v] 3 (0,0))]):=by
 have h1:=Rd.one h.sr
 have h2:=Rd.one h.de
 have h3:=Rd.one h.ti
 have h4:=Rd.one h.po
 unfold RA
 refine aR Tryz.func153 rfl rfl ?_
 (refine Jr<|Jy rfl rfl fun _ _=>Jy rfl rfl fun _ _=>Jy rfl rfl fun _ _=>Ja rfl<|Ji<|ab (bn .nil (.cons (.of rfl) (.cons (.of rfl) (.cons (.of rfl) .nil)))) rfl ?_;refine Ja rfl<|Jn<|Je ?_)
 rename_i b3 rG b4 vC b5 Mb
 first | with_reducible apply aO | with_reducible apply aP
 case he=>exact dj rfl rfl
 case hR=>
  intro w' az
  exact aB (b3,b5,b4) trivial (by exact .cons bI (.cons .here (.cons .here .nil))) az rfl
set_option maxHeartbeats 1000000 in
theorem Hu {r:Ro} {s d t p:Value} {b1 b2 b3:Nat} (v m:Int) {w0 w:World} {md:List Nat} (h:RR w0 r s d t p) (hn:RO md r s d t p) (cJ:r.ti.length≤1000000) :
  Iter Tryz.prog 240 [] [.pointer (some ⟨b1,0,none⟩),.pointer (some ⟨b2,0,none⟩),.pointer (some ⟨b3,0,none⟩)] [JP b1 r s d t p,bD b2 (.cells #[.int .i64 m] 3 (0,0)),bD b3 (.cells #[.int .i64 v] 3 (0,0))] (Kf r v m) w0 md w:=by
 intro l fp J E hB hF kD hs hy
 have hR:=h.iN hn hB
 have hO:=h.out hn hF
 rw [tx]
 have h1:=Rd.one hR.sr
 have h2:=Rd.one hR.de
 have h4:=Rd.one hR.po
 have hti:=hR.ti
 have YI:=hO.ti
 obtain ⟨a,cp,b,o',rfl,df,bO,ha,hc⟩:=hti
 rw [bN] at *
 unfold maxLen at bO
 refine dS Tryz.func240 rfl rfl kD hs ?_
 (refine Jr<|bF rfl rfl ae ?_;refine JL rfl (.there .here) rfl<|JI rfl<|Jv rfl<|Jn<|J0 ?_)
 refine aX (fun k:Nat=>k≤r.ti.length) (fun k=>[(10,.int .i64 (k:Nat)),(9,.int .i64 (r.ti.length:Nat)),(8,.slice a r.ti.length cp),(0,.func (.yield l) #[] #[]),(1,.pointer (some ⟨b1,0,none⟩)),(2,.pointer (some ⟨b2,0,none⟩)),(3,.pointer (some ⟨b3,0,none⟩))])
  (fun k=>[J (fc r v m k).length,JP b1 r s d (.slice a r.ti.length cp) p,bD b2 (.cells #[.int .i64 m] 3 (0,0)),bD b3 (.cells #[.int .i64 v] 3 (0,0))]) (fun k=>r.ti.length-k) ?_ ?_
 ·apply aK 0 (by omega)
  case hs1=>exact cn
  case ht=>
   exact .cons .here (.cons .here (.cons .here (.cons .here .nil)))
 intro k hk
 by_cases aN:k<r.ti.length
 ·have cM:=ha (eT aN)
  have aD:=(hc k _ (ed aN)).2
  have Vt:b ∉ fp:=YI (eT aN) b (by rw [cM];rfl)
  unfold Ti.cells at aD
  have Bo:∀ w',aF fp w w'→aj Tryz.prog 121 [.agg #[.int .i64 r.lv,.int .i64 r.ma,s,d,.slice a r.ti.length cp,p],.int .i64 v,.string (r.ti[k]).nm] w' (.bool (iT r.po v (r.ti[k]).nm)):=fun w' hk=>pW v _ (hR.iN hO hk)
  have zf:=mu aN
  have xy:gy r k=(r.ti[k]).nm:=by unfold gy;rw [zf]
  by_cases vU:(r.ti[k]).fr=m
  ·cases Aa:iT r.po v (r.ti[k]).nm with
   | true =>
    have Bp:∀ w',aF fp w w'→aj Tryz.prog 121 [.agg #[.int .i64 r.lv,.int .i64 r.ma,s,d,.slice a r.ti.length cp,p],.int .i64 v,.string (r.ti[k]).nm] w' (.bool true):=fun w' hk=>Aa ▸ Bo w' hk
    have hq:Bv r v m k=false:=by unfold Bv;rw [xy,Aa];simp
    have HR:fc r v m (k+1)=fc r v m k:=by rw [rI,if_neg (by rw [hq];decide),List.append_nil]
    (refine Jr<|JA rfl<|Jn<|Jq<|Jd rfl fun aq=>Jk<|Jq<|J0<|Jr<|Jv rfl<|ab (fM cM aq) rfl ?_;refine ab (iY (.of rfl) (eG.BN aD Vt) rfl) rfl ?_;refine Jz rfl rfl fun _ _=>Ja rfl<|ao (.of rfl) (.of rfl) .here rfl rfl (fk rfl rfl rfl) (bE rfl) ak ?_;refine Ji<|bF rfl rfl ae ?_;refine JL rfl .here rfl<|JL rfl cY rfl<|ab (iZ (.of rfl) (.of rfl) vU) rfl ?_;refine Jv rfl<|JK rfl rfl<|ab (cr bI) rfl ?_;refine JK rfl rfl<|JL rfl ei rfl<|JK rfl rfl<|bF rfl rfl ae ?_;refine JK rfl rfl<|JL rfl .here rfl<|JK rfl rfl<|ag dK rfl (fun w' az=>(Bp w' (Mem.keeps az))) ?_;refine JK rfl rfl<|JH rfl<|ab (cN (.of rfl) (.of rfl) (.of rfl) rfl) rfl ?_;refine Jv rfl<|jT rfl rfl rfl rfl ?_;refine jT rfl rfl rfl rfl ?_;refine aI rfl rfl inferInstance (fun hg bL=>(cF (.of rfl) .here ak (by rfl))) rfl ?_;refine ew rfl rfl rfl rfl ?_;refine aI rfl rfl inferInstance (fun hg bL=>(fG (.cA bL rfl))) rfl ?_;refine ab (cN (.of rfl) (.of rfl) (.of rfl) rfl) rfl ?_;refine Jn<|bR (.of rfl) ?_;refine Jw<|Jj<|Jt<|Jg<|JB rfl (by omega)<|Jv rfl<|Jn ?_)
    apply aL (k+1) (by omega) (by omega)
    case hs1=>exact cn
    case ht=>
     rw [HR]
     exact .cons (.there .here) (.cons (.there .here) (.cons (.there .here) (.cons (.there .here) .nil)))
   | false =>
    have Bp:∀ w',aF fp w w'→aj Tryz.prog 121 [.agg #[.int .i64 r.lv,.int .i64 r.ma,s,d,.slice a r.ti.length cp,p],.int .i64 v,.string (r.ti[k]).nm] w' (.bool false):=fun w' hk=>Aa ▸ Bo w' hk
    have hq:Bv r v m k=true:=by unfold Bv;rw [xy,Aa,zf,decide_eq_true vU];rfl
    have HR:fc r v m (k+1)=fc r v m k++[k]:=by rw [rI,if_pos hq]
    have PH:(fc r v m (k+1)).length=(fc r v m k).length+1:=by rw [HR];simp
    have RJ:=hy _ _ (LD aN hq)
    rw [zf] at RJ
    (refine Jr<|JA rfl<|Jn<|Jq<|Jd rfl fun aq=>Jk<|Jq<|J0<|Jr<|Jv rfl<|ab (fM cM aq) rfl ?_;refine ab (iY (.of rfl) (eG.BN aD Vt) rfl) rfl ?_;refine Jz rfl rfl fun _ _=>Ja rfl<|ao (.of rfl) (.of rfl) .here rfl rfl (fk rfl rfl rfl) (bE rfl) ak ?_;refine Ji<|bF rfl rfl ae ?_;refine JL rfl .here rfl<|JL rfl cY rfl<|ab (iZ (.of rfl) (.of rfl) vU) rfl ?_;refine Jv rfl<|JK rfl rfl<|ab (cr bI) rfl ?_;refine JK rfl rfl<|JL rfl ei rfl<|JK rfl rfl<|bF rfl rfl ae ?_;refine JK rfl rfl<|JL rfl .here rfl<|JK rfl rfl<|ag dK rfl (fun w' az=>(Bp w' (Mem.keeps az))) ?_;refine JK rfl rfl<|JH rfl<|ab (eD (.of rfl) (.of rfl) (.of rfl) rfl) rfl ?_;refine Jv rfl<|JK rfl rfl<|Jv rfl<|JK rfl rfl<|Jv rfl<|JK rfl rfl<|ab (cr .here) rfl ?_;refine JK rfl rfl ?_)
    unfold Ti.cells at RJ
    with_reducible apply wx hB hF RJ
    case hx=>exact Is.of rfl
    case ha=>exact .cons (.of rfl) (.cons (.of rfl) .nil)
    case hd=>rfl
    case ht=>exact Take.there .here
    intro q
    cases q with
    | false =>
     simp only [cond_false]
     (refine JK rfl rfl<|JH rfl<|ab (eD (.of rfl) (.of rfl) (.of rfl) rfl) rfl ?_;refine Jn<|cR (.of rfl) ?_;refine Je<|Jm<|Jh<|Jh<|Jm ?_)
     first | with_reducible apply aO | with_reducible apply aP
     case he=>exact pj rfl
     case hR=>
      intro w' az
      exact aB false trivial (by exact .cons .here (.cons (.there .here) (.cons (.there .here) (.cons (.there .here) .nil)))) az rfl
    | true =>
     simp only [cond_true]
     (refine JK rfl rfl<|JH rfl<|ab (cN (.of rfl) (.of rfl) (.of rfl) rfl) rfl ?_;refine Jn<|bR (.of rfl) ?_;refine Jw<|Jj<|Jt<|Jg<|JB rfl (by omega)<|Jv rfl<|Jn ?_)
     apply aL (k+1) (by omega) (by omega)
     case hs1=>exact cn
     case ht=>
      rw [PH]
      exact .cons .here (.cons (.there .here) (.cons (.there .here) (.cons (.there .here) .nil)))
  ·have hq:Bv r v m k=false:=by unfold Bv;rw [zf,decide_eq_false vU];rfl
   have HR:fc r v m (k+1)=fc r v m k:=by rw [rI,if_neg (by rw [hq];decide),List.append_nil]
   (refine Jr<|JA rfl<|Jn<|Jq<|Jd rfl fun aq=>Jk<|Jq<|J0<|Jr<|Jv rfl<|ab (fM cM aq) rfl ?_;refine ab (iY (.of rfl) (eG.BN aD Vt) rfl) rfl ?_;refine Jz rfl rfl fun _ _=>Ja rfl<|ao (.of rfl) (.of rfl) .here rfl rfl (fk rfl rfl rfl) (bE rfl) ak ?_;refine Ji<|bF rfl rfl ae ?_;refine JL rfl .here rfl<|JL rfl cY rfl<|ab (Lb (.of rfl) (.of rfl) vU) rfl ?_;refine Jv rfl<|aI rfl rfl inferInstance (fun hg bL=>(cF (.of rfl) bI ak (by rfl))) rfl ?_;refine aI rfl rfl inferInstance (fun hg bL=>(ai (.of rfl) (At.lit ei rfl))) rfl ?_;refine aI rfl rfl inferInstance (fun hg bL=>(ar (.of rfl) ae)) rfl ?_;refine aI rfl rfl inferInstance (fun hg bL=>(ai (.cA bL rfl) (At.lit .here rfl))) rfl ?_;refine ew rfl rfl rfl rfl ?_;refine aI rfl rfl inferInstance (fun hg bL=>(fG (.cA bL rfl))) rfl ?_;refine ab (cN (.of rfl) (.of rfl) (.of rfl) rfl) rfl ?_;refine Jv rfl<|jT rfl rfl rfl rfl ?_;refine jT rfl rfl rfl rfl ?_;refine aI rfl rfl inferInstance (fun hg bL=>(cF (.of rfl) .here ak (by rfl))) rfl ?_;refine ew rfl rfl rfl rfl ?_;refine aI rfl rfl inferInstance (fun hg bL=>(fG (.cA bL rfl))) rfl ?_;refine ab (cN (.of rfl) (.of rfl) (.of rfl) rfl) rfl ?_;refine Jn<|bR (.of rfl) ?_;refine Jw<|Jj<|Jt<|Jg<|JB rfl (by omega)<|Jv rfl<|Jn ?_)
   apply aL (k+1) (by omega) (by omega)
   case hs1=>exact cn
   case ht=>
    rw [HR]
    exact .cons (.there .here) (.cons (.there .here) (.cons (.there .here) (.cons (.there .here) .nil)))
 ·obtain rfl:k=r.ti.length:=by omega
  refine Jr<|JA rfl<|Jn<|Jq<|Jc rfl fun aq=>Jp<|Jl<|Jo ?_
  first | with_reducible apply aO | with_reducible apply aP
  case he=>exact pj rfl
  case hR=>
   intro w' az
   exact aB true trivial (by exact .cons .here (.cons .here (.cons .here (.cons .here .nil)))) az rfl
end Go.Proofs.A1
namespace Go.Proofs.A1
open Go Go.SL
theorem HI (l:List Int):∀ r∈ints l,∀ u∈r,u.oneCell'=true:=fun r hr=>by obtain ⟨x,_,rfl⟩:=List.mem_map.1 hr;exact bG rfl fS
theorem xx (l:List Int):l.map (Value.int .i64)=(ints l).flatten:=by
 induction l with
 | nil=>rfl
 | cons x l ih=>show [Value.int .i64 x]++l.map (Value.int .i64)=_;rw [ih];rfl
theorem MC {lv:Value} {l:List Int} {w:World} (h:Rd w lv 1 (ints l)) (hl:l.length≤1000) :
  bd Tryz.prog 262 [lv] w [] (fun _:Value=>True) id (fun v=>[row 3 1 v l.length (l.map (.int .i64))]):=by
 have h':=h
 obtain ⟨a,cp,b,o,rfl,df,bO,ha,hc⟩:=h
 refine aR Tryz.func262 rfl rfl ?_
 cases a with
 | none =>
  have pK:l=[]:=by
   cases l with
   | nil=>rfl
   | cons x r=>exact absurd (ha (by simp [ints])) (by simp)
  subst pK
  (refine Jr<|Ja rfl<|Jn<|Jq<|Jr<|Jv rfl<|ab (fV (.of rfl) (.of rfl)) rfl ?_;refine Jn<|cR (.of rfl) ?_;refine Jr<|Ja rfl<|Jn<|Ju ?_)
  refine aQ 3 1 ?_
  first | with_reducible apply aO | with_reducible apply aP
  case he=>exact dj rfl rfl
  case hR=>
   intro w' az
   exact aB (.slice none 0 0) trivial (by exact .cons .here .nil) az rfl
 | some ad =>
  (refine Jr<|Ja rfl<|Jn<|Jq<|Jr<|Jv rfl<|ab (fV (.of rfl) (.of rfl)) rfl ?_;refine Jn<|bR (.of rfl) ?_;refine Jk<|Jr<|bb (aA .nil rfl rfl rfl rfl) rfl fun _ _=>?_;refine Jv rfl ?_)
  rename_i bq mT
  refine bQ (g:=bq) (E:=3) (ys:=[]) 0 1 (by exact .here) rfl rfl rfl ?_
  with_reducible apply gF
  case hx=>exact Is.of rfl
  case hy=>exact Is.of rfl
  case ht=>exact .here
  case hsrc=>exact fun w' az=>h'.keeps az.keeps
  case h1=>exact HI l
  case hz=>exact rfl
  case hsz=>exact rfl
  case hb0=>exact rfl
  case hb=>rw [cZ];omega
  case hd=>rfl
  intro v'
  rw [cZ,← xx,Nat.zero_add,List.nil_append]
  refine Ja rfl<|Jn<|Je ?_
  first | with_reducible apply aO | with_reducible apply aP
  case he=>exact dj rfl rfl
  case hR=>
   intro w' az
   exact aB v' trivial (by exact .cons .here .nil) az rfl
theorem ui {P:Program} {c:Cx} {sl:aG} {hs:List ba} {dst:Option Tmp} {ty:TypeId} {pos:String} {af:Array Edge} {g:Option (Nat×Bool)} {t u:TypeId} {x y:Operand} {a b:ByteArray} (hx:Is sl x (.string a)) (hy:Is sl y (.string b)) (e:a=b) :
  cX P c sl hs ⟨dst,.binOp .eql t x y u,ty,pos,af,g⟩ (.bool true):=by
 have:=ee (P:=P) (c:=c) (hs:=hs) (dst:=dst) (ty:=ty) (pos:=pos) (af:=af) (g:=g) (t:=t) (u:=u) hx hy
 rwa [decide_eq_true e] at this
theorem AT {P:Program} {c:Cx} {sl:aG} {hs:List ba} {dst:Option Tmp} {ty:TypeId} {pos:String} {af:Array Edge} {g:Option (Nat×Bool)} {t u:TypeId} {x y:Operand} {a b:ByteArray} (hx:Is sl x (.string a)) (hy:Is sl y (.string b)) (e:a≠b) :
  cX P c sl hs ⟨dst,.binOp .eql t x y u,ty,pos,af,g⟩ (.bool false):=by
 have:=ee (P:=P) (c:=c) (hs:=hs) (dst:=dst) (ty:=ty) (pos:=pos) (af:=af) (g:=g) (t:=t) (u:=u) hx hy
 rwa [decide_eq_false e] at this
def wb (r:Ro) (v:Int) (so:ByteArray) (i:Nat):Bool:=iT r.po v (gy r i)&&decide (kQ r v (gy r i)=so)
def Ae (r:Ro) (v:Int) (so:ByteArray) (k:Nat):List Nat:=(List.range k).filter (wb r v so)
theorem ve (r:Ro) (v:Int) (so:ByteArray) (k:Nat):Ae r v so (k+1)=Ae r v so k++if wb r v so k then [k] else []:=by
 unfold Ae
 rw [List.range_succ,List.filter_append]
 congr 1
 by_cases h:wb r v so k=true
 ·rw [List.filter_cons_of_pos h,if_pos h];rfl
 ·rw [List.filter_cons_of_neg h,if_neg h];rfl
def qq (r:Ro) (so:ByteArray):Int:=(r.sr.getD (bA (cz r) so).toNat ⟨⟨#[]⟩,0⟩).mx
def wk (x:Wy):Nat×List Nat:=(x.f,x.p)
def N6 (L:List (Nat×List Nat)) (W:List Wy):Prop:=W.map wk=L∧∀ y∈W,y.v.oneCell'=true
theorem N6.add {L:List (Nat×List Nat)} {W:List Wy} (h:N6 L W) (y:Wy) (hy:y.v.oneCell'=true):N6 (L++[wk y]) (W++[y]):=by
 refine ⟨by rw [List.map_append,h.1];rfl,fun z hz=>?_⟩
 rcases List.mem_append.1 hz with hz | hz
 ·exact h.2 z hz
 ·rw [List.mem_singleton.1 hz];exact hy
theorem I0 (W:List Wy) (y:Wy):ia (W++[y])=mz 3 (W.map Wy.v++[y.v]) ((W.map fun x=>fI x.p)++[fI y.p]):=by unfold ia;rw [List.map_append,List.map_append];rfl
theorem xZ (W:List Wy) (y:Wy):mj (W++[y])=mj W++[y.v,.int .i64 (y.f:Nat)]:=by rw [Ku];rfl
theorem oC {c:Cx} {D:List Nat} {sl:aG} {hs h1 h2:List ba} {X:Act→World→Prop} {W:List Wy} (y:Wy) {n:Nat} {x:List Value} (ht:Take hs (ia W) h1) (ht2:Take h1 (row 3 1 y.v n x) h2) (hn:n=y.p.length) (hx:x=fI y.p)
  (k:Tr c D sl (ia (W++[y])::h2) X):Tr c D sl hs X:=by
 subst hx
 refine mn (vs:=W.map Wy.v) (xs:=W.map fun x=>fI x.p) (v:=y.v) (show Take hs (mz 3 (W.map Wy.v) (W.map fun x=>fI x.p)) h1 from ht) ht2 (by rw [hn];unfold fI;rw [List.length_map]) (by rw [List.length_map,List.length_map]) ?_
 rw [← I0];exact k
theorem wF {c:Cx} {D:List Nat} {sl:aG} {hs:List ba} {X:Act→World→Prop} (k:Tr c D sl (ia []::hs) X):Tr c D sl hs X:=kz 3 k
set_option maxHeartbeats 1000000 in
theorem IY {r:Ro} {s d t p:Value} (v:Int) (so:ByteArray) {w:World} (h:RR w r s d t p) (cJ:r.ti.length≤1000) (Ps:so∈cz r) :
  bd Tryz.prog 259 [RA r s d t p,.int .i64 v,.string so] w [] (fun x:Value×List Wy=>N6 ((Ae r v so r.ti.length).map (fun i=>(0,[i]))++(fc r v (qq r so) r.ti.length).map (fun i=>(1,[i]))) x.2) (fun x=>x.1)
   (fun x=>[row 244 2 x.1 x.2.length (mj x.2),ia x.2]):=by
 have h1:=Rd.one h.sr
 have h2:=Rd.one h.de
 have h3:=Rd.one h.ti
 have h4:=Rd.one h.po
 have hti:=h.ti
 obtain ⟨a,cp,b,o',rfl,df,bO,ha,hc⟩:=hti
 have Pp:=h.sr
 obtain ⟨a2,nn,b2,o2,rfl,jX,eW,je,jH⟩:=Pp
 rw [bN] at *
 rw [cC] at *
 unfold maxLen at bO eW
 obtain ⟨i0,vT⟩:∃ i:Nat,bA (cz r) so=(i:Nat):=⟨(bA (cz r) so).toNat,by have:=eu Ps;omega⟩
 have H8:i0<r.sr.length:=by
  obtain ⟨hl,_⟩:=fw (l:=cz r) (s:=so) (by omega)
  rw [vT,Int.toNat_natCast] at hl
  unfold cz at hl;rwa [List.length_map] at hl
 have zh:qq r so=(r.sr[i0]).mx:=by unfold qq;rw [vT,Int.toNat_natCast,List.getD_eq_getElem?_getD,List.getElem?_eq_getElem H8];rfl
 have RX:∀ w',aF [] w w'→aj Tryz.prog 180 [.agg #[.int .i64 r.lv,.int .i64 r.ma,.slice a2 r.sr.length nn,d,.slice a r.ti.length cp,p],.string so] w' (.int .i64 (i0:Nat)):=fun w' hk=>vT ▸ ny so (h.keeps hk)
 have hsrc:=RX
 unfold RA
 refine aR Tryz.func259 rfl rfl ?_
 (refine Jr<|Jy rfl rfl fun _ _=>Ja rfl<|Ji<|Jz rfl rfl fun _ _=>Jn<|Jq<|Jr<|bF rfl rfl ae ?_;refine JL rfl (.there .here) rfl<|JI rfl<|Jv rfl<|Jn<|J0 ?_)
 rename_i b3 rG b7 SM
 refine aQ 244 2 ?_
 refine wF ?_
 refine aX (ι:=Nat×Value×List Wy) (fun x=>x.1≤r.ti.length∧N6 ((Ae r v so x.1).map (fun i=>(0,[i]))) x.2.2)
  (fun x=>[(14,.int .i64 (x.1:Nat)),(13,.int .i64 (r.ti.length:Nat)),(12,.slice a r.ti.length cp),(7,.pointer (some ⟨b7,0,none⟩)),(3,.pointer (some ⟨b3,0,none⟩)),(1,.int .i64 v),(2,.string so)])
  (fun x=>[bD b7 (.cells #[x.2.1] 329 (0,0)),row 244 2 x.2.1 x.2.2.length (mj x.2.2),ia x.2.2,JP b3 r (.slice a2 r.sr.length nn) d (.slice a r.ti.length cp) p]) (fun x=>r.ti.length-x.1) ?_ ?_
 ·apply aK (0,.slice none 0 0,[]) ⟨Nat.zero_le _,rfl,fun y hy=>by cases hy⟩
  case hs1=>exact cn
  case ht=>
   exact .cons bI (.cons (.there .here) (.cons .here (.cons .here .nil)))
 rintro ⟨k,wv,W⟩ ⟨hk,hW⟩
 dsimp only at hk hW ⊢
 have QP:(mj W).length=W.length*2:=oz W
 by_cases aN:k<r.ti.length
 ·have cM:=ha (eT aN)
  have aD:=(hc k _ (ed aN)).2
  unfold Ti.cells at aD
  have zf:=mu aN
  have xy:gy r k=(r.ti[k]).nm:=by unfold gy;rw [zf]
  have Xt:W.length≤k:=by
   have:=congrArg List.length hW.1
   rw [List.length_map,List.length_map] at this
   rw [this]
   have:=List.length_filter_le (wb r v so) (List.range k)
   rw [List.length_range] at this
   exact this
  have Bo:∀ w',aF [] w w'→aj Tryz.prog 121 [.agg #[.int .i64 r.lv,.int .i64 r.ma,.slice a2 r.sr.length nn,d,.slice a r.ti.length cp,p],.int .i64 v,.string (r.ti[k]).nm] w' (.bool (iT r.po v (r.ti[k]).nm)):=fun w' hk=>pW v _ (h.keeps hk)
  have vB:∀ w',aF [] w w'→aj Tryz.prog 126 [.agg #[.int .i64 r.lv,.int .i64 r.ma,.slice a2 r.sr.length nn,d,.slice a r.ti.length cp,p],.int .i64 v,.string (r.ti[k]).nm] w' (.string (kQ r v (r.ti[k]).nm)):=fun w' hk=>oS v _ (h.keeps hk) (by omega)
  cases Aa:iT r.po v (r.ti[k]).nm with
  | false =>
   have Bp:∀ w',aF [] w w'→aj Tryz.prog 121 [.agg #[.int .i64 r.lv,.int .i64 r.ma,.slice a2 r.sr.length nn,d,.slice a r.ti.length cp,p],.int .i64 v,.string (r.ti[k]).nm] w' (.bool false):=fun w' hk=>Aa ▸ Bo w' hk
   have hq:wb r v so k=false:=by unfold wb;rw [xy,Aa];rfl
   have HR:Ae r v so (k+1)=Ae r v so k:=by rw [ve,if_neg (by rw [hq];decide),List.append_nil]
   (refine Jr<|JA rfl<|Jn<|Jq<|Jd rfl fun aq=>Jk<|Jq<|J0<|Jr<|Jv rfl<|ab (fM cM aq) rfl ?_;refine ab (iz (eG.base aD rfl)) rfl ?_;refine Jz rfl rfl fun _ _=>Ja rfl<|ao (.of rfl) (.of rfl) .here rfl rfl (fk rfl rfl rfl) (bE rfl) ak ?_;refine Ji<|ab (cr ei) rfl ?_;refine Jv rfl<|bF rfl rfl ae ?_;refine JL rfl .here rfl<|ag dK rfl (fun w' az=>(Bp w' (Mem.keeps az))) ?_;refine Jv rfl<|aI rfl rfl inferInstance (fun hg bL=>(cF (.of rfl) ei ak (by rfl))) rfl ?_;refine jT rfl rfl rfl rfl ?_;refine aI rfl rfl inferInstance (fun hg bL=>(ar (.of rfl) ae)) rfl ?_;refine aI rfl rfl inferInstance (fun hg bL=>(ai (.cA bL rfl) (At.lit .here rfl))) rfl ?_;refine ew rfl rfl rfl rfl ?_;refine jT rfl rfl rfl rfl ?_;refine ew rfl rfl rfl rfl ?_;refine ab (cN (.of rfl) (.of rfl) (.of rfl) rfl) rfl ?_;refine Jn<|bR (.of rfl) ?_;refine Jw<|Jj<|Jt<|Jg<|JB rfl (by omega)<|Jv rfl<|Jn ?_)
   apply aL (k+1,wv,W) ⟨show k+1≤r.ti.length by omega,by rw [HR];exact hW⟩ (show r.ti.length-(k+1)<r.ti.length-k by omega)
   case hs1=>exact cn
   case ht=>(try simp only [List.take_zero,List.map_nil,List.nil_append]);exact .cons (.there .here) (.cons (.there .here) (.cons (.there .here) (.cons (.there .here) .nil)))
  | true =>
   have Bp:∀ w',aF [] w w'→aj Tryz.prog 121 [.agg #[.int .i64 r.lv,.int .i64 r.ma,.slice a2 r.sr.length nn,d,.slice a r.ti.length cp,p],.int .i64 v,.string (r.ti[k]).nm] w' (.bool true):=fun w' hk=>Aa ▸ Bo w' hk
   by_cases zg:kQ r v (r.ti[k]).nm=so
   ·have hq:wb r v so k=true:=by unfold wb;rw [xy,Aa,decide_eq_true zg];rfl
    have HR:Ae r v so (k+1)=Ae r v so k++[k]:=by rw [ve,if_pos hq]
    (refine Jr<|JA rfl<|Jn<|Jq<|Jd rfl fun aq=>Jk<|Jq<|J0<|Jr<|Jv rfl<|ab (fM cM aq) rfl ?_;refine ab (iz (eG.base aD rfl)) rfl ?_;refine Jz rfl rfl fun _ _=>Ja rfl<|ao (.of rfl) (.of rfl) .here rfl rfl (fk rfl rfl rfl) (bE rfl) ak ?_;refine Ji<|ab (cr ei) rfl ?_;refine Jv rfl<|bF rfl rfl ae ?_;refine JL rfl .here rfl<|ag dK rfl (fun w' az=>(Bp w' (Mem.keeps az))) ?_;refine Jv rfl<|JK rfl rfl<|ab (cr ei) rfl ?_;refine JK rfl rfl<|Jv rfl<|JK rfl rfl<|bF rfl rfl ae ?_;refine JK rfl rfl<|JL rfl .here rfl<|JK rfl rfl<|ag dK rfl (fun w' az=>(vB w' (Mem.keeps az))) ?_;refine JK rfl rfl<|Jv rfl<|JK rfl rfl<|ab (ui (.of rfl) (.of rfl) zg) rfl ?_;refine ab (eD (.of rfl) (.of rfl) (.of rfl) rfl) rfl ?_;refine Jn<|cR (.of rfl) ?_;refine Jg<|JL rfl (.there .here) rfl<|Jv rfl<|bb (aA (.cons (.of rfl) .nil) rfl rfl rfl rfl) rfl fun _ _=>?_;refine ab (aS (.cons (.of rfl) (.cons (.of rfl) .nil)) ak) rfl ?_;refine bb (bu (.cons (.of rfl) .nil) rfl rfl bM bM ak) rfl fun _ _=>?_)
    rename_i b9 Xq bq mT bl NA
    have Il:=hW.add ⟨.slice (some ⟨bq,0,none⟩) 1 1,[k],0⟩ rfl
    have RN:mj (W++[⟨.slice (some ⟨bq,0,none⟩) 1 1,[k],0⟩])=mj W++[.slice (some ⟨bq,0,none⟩) 1 1,.int .i64 0]:=xZ W _
    have RM:(W++[(⟨.slice (some ⟨bq,0,none⟩) 1 1,[k],0⟩:Wy)]).length=W.length+1:=by simp
    refine bz (.of rfl) (.of rfl) ei .here ak (by rfl) (gn rfl rfl) (by rfl) (by rfl) (by rfl) ep (by rfl) ?_
    intro v'
    refine aW (by exact .here) fun a' gB e=>?_
    subst e
    (refine ao (.of rfl) (.of rfl) ei rfl rfl (dZ rfl) (bE rfl) ak ?_;refine Jx<|Jj<|Jt<|Jg<|JB rfl (by omega)<|Jv rfl<|Jn ?_)
    refine bQ (g:=bq) (E:=3) (ys:=[.int .i64 (k:Nat)]) 1 1 cY rfl rfl rfl ?_
    refine oC (W:=W) ⟨.slice (some ⟨bq,0,none⟩) 1 1,[k],0⟩ (n:=1) (x:=[.int .i64 (k:Nat)]) eC (by exact .here) rfl rfl ?_
    apply aL (k+1,.slice a' (W.length+1) gB,W++[⟨.slice (some ⟨bq,0,none⟩) 1 1,[k],0⟩]) ⟨show k+1≤r.ti.length by omega,by rw [HR,List.map_append];exact Il⟩ (show r.ti.length-(k+1)<r.ti.length-k by omega)
    case hs1=>exact cn
    case ht=>
     show bj _ [bD b7 (.cells #[.slice a' (W.length+1) gB] 329 (0,0)),row 244 2 (.slice a' (W.length+1) gB) (W++[(⟨.slice (some ⟨bq,0,none⟩) 1 1,[k],0⟩:Wy)]).length (mj (W++[⟨.slice (some ⟨bq,0,none⟩) 1 1,[k],0⟩])),ia (W++[⟨.slice (some ⟨bq,0,none⟩) 1 1,[k],0⟩]),JP b3 r (.slice a2 r.sr.length nn) d (.slice a r.ti.length cp) p] _
     rw [RM,RN]
     exact .cons (.there .here) (.cons (.there .here) (.cons .here (.cons bI .nil)))
   ·have hq:wb r v so k=false:=by unfold wb;rw [xy,Aa,decide_eq_false zg];rfl
    have HR:Ae r v so (k+1)=Ae r v so k:=by rw [ve,if_neg (by rw [hq];decide),List.append_nil]
    (refine Jr<|JA rfl<|Jn<|Jq<|Jd rfl fun aq=>Jk<|Jq<|J0<|Jr<|Jv rfl<|ab (fM cM aq) rfl ?_;refine ab (iz (eG.base aD rfl)) rfl ?_;refine Jz rfl rfl fun _ _=>Ja rfl<|ao (.of rfl) (.of rfl) .here rfl rfl (fk rfl rfl rfl) (bE rfl) ak ?_;refine Ji<|ab (cr ei) rfl ?_;refine Jv rfl<|bF rfl rfl ae ?_;refine JL rfl .here rfl<|ag dK rfl (fun w' az=>(Bp w' (Mem.keeps az))) ?_;refine Jv rfl<|JK rfl rfl<|ab (cr ei) rfl ?_;refine JK rfl rfl<|Jv rfl<|JK rfl rfl<|bF rfl rfl ae ?_;refine JK rfl rfl<|JL rfl .here rfl<|JK rfl rfl<|ag dK rfl (fun w' az=>(vB w' (Mem.keeps az))) ?_;refine JK rfl rfl<|Jv rfl<|JK rfl rfl<|ab (AT (.of rfl) (.of rfl) zg) rfl ?_;refine ab (cN (.of rfl) (.of rfl) (.of rfl) rfl) rfl ?_;refine Jn<|bR (.of rfl) ?_;refine Jw<|Jj<|Jt<|Jg<|JB rfl (by omega)<|Jv rfl<|Jn ?_)
    apply aL (k+1,wv,W) ⟨show k+1≤r.ti.length by omega,by rw [HR];exact hW⟩ (show r.ti.length-(k+1)<r.ti.length-k by omega)
    case hs1=>exact cn
    case ht=>(try simp only [List.take_zero,List.map_nil,List.nil_append]);exact .cons (.there .here) (.cons (.there .here) (.cons (.there .here) (.cons (.there .here) .nil)))
 ·obtain rfl:k=r.ti.length:=by omega
  refine Jr<|JA rfl<|Jn<|Jq<|Jc rfl fun aq=>Jp<|Jl<|Jo<|Jt<|Jq<|Jq ?_
  have sS:=je (im H8)
  have eL:=(jH i0 _ (fD H8)).2
  unfold Sr.cells at eL
  have QK:=eL 1 _ rfl
  with_reducible refine dN 10 (by kernel_rfl) ?_
  (refine aH (cr cY) rfl ?_;refine kZ rfl rfl ?_;refine np rfl rfl ae ?_;refine aH (gp cY) rfl ?_;refine aH (cr cY) rfl ?_;refine kZ rfl rfl ?_;refine eZ aZ rfl (fun w' az=>(hsrc w' (Mem.keeps az))) ?_;refine aH (aC (.of rfl) (.of rfl) sS (by omega) (by omega) bo) rfl ?_;refine np rfl rfl ae ?_;refine aH (ai (.of rfl) (At.base QK rfl)) rfl ?_)
  with_reducible refine dW ?_
  rw [← zh]
  with_reducible apply iX
  case hr=>exact dK
  case hd=>rfl
  case ht=>exact bj.nil
  case hc=>
   intro w1 fp aJ _ hs1
   obtain rfl:fp=[]:=hs1
   exact rD (s:=.slice a2 r.sr.length nn) (d:=d) (t:=.slice a r.ti.length cp) (p:=p) v (qq r so) (h.keeps aJ.keeps)
  intro y _
  dsimp only [id_eq,List.cons_append,List.nil_append]
  refine Jn<|J0 ?_
  have sx:(fc r v (qq r so) r.ti.length).length≤r.ti.length:=by
   have:=List.length_filter_le (Bv r v (qq r so)) (List.range r.ti.length)
   rw [List.length_range] at this
   exact this
  have ix:(Ae r v so r.ti.length).length≤r.ti.length:=by
   have:=List.length_filter_le (wb r v so) (List.range r.ti.length)
   rw [List.length_range] at this
   exact this
  refine iP (ps:=[51,52]) (f:=240) (first:=[]) (cap:=[.pointer (some ⟨y.1,0,none⟩),.pointer (some ⟨y.2.1,0,none⟩),.pointer (some ⟨y.2.2,0,none⟩)]) (ι:=Value×List Wy) (κ:=Empty) (rst:=[JP b3 r (.slice a2 r.sr.length nn) d (.slice a r.ti.length cp) p]) ?hg
   [JP y.1 r (.slice a2 r.sr.length nn) d (.slice a r.ti.length cp) p,bD y.2.1 (.cells #[.int .i64 (qq r so)] 3 (0,0)),bD y.2.2 (.cells #[.int .i64 v] 3 (0,0))] (Kf r v (qq r so)) ?hit
   (fun k x=>N6 ((Ae r v so r.ti.length).map (fun i=>(0,[i]))++((fc r v (qq r so) r.ti.length).take k).map (fun i=>(1,[i]))) x.2)
   (fun x=>[bD b7 (.cells #[x.1] 329 (0,0)),row 244 2 x.1 x.2.length (mj x.2),ia x.2])
   (fun _=>False) (fun _=>[]) (fun _=>.ret) (wv,W) (by rw [List.take_zero,List.map_nil,List.append_nil];exact hW) ?ht ?hlen ?hps ?round ?kn ?kj
  case hg=>exact Is.of rfl
  case hit=>intro w' az;exact Hu v (qq r so) h RO.nil (by omega)
  case ht=>
   dsimp only [List.cons_append,List.nil_append]
   exact .cons cY (.cons cY (.cons cY (.cons .here (.cons .here (.cons .here .nil)))))
  case hlen=>intro vs nP;obtain ⟨x,_,rfl⟩:=List.mem_map.1 nP;rfl
  case hps=>intro t ht;simp only [List.mem_cons,List.not_mem_nil,or_false] at ht;rcases ht with rfl | rfl <;> exact Nat.le_of_ble_eq_true rfl
  case kj=>intro y;cases y
  case kn=>
   rintro ⟨wv,W⟩ D hq
   dsimp only [List.cons_append,List.nil_append] at hq ⊢
   rw [tx,List.take_length] at hq
   refine aW (E:=244) (sz:=2) (by exact Take.there .here) fun va vc e=>?_
   subst e
   refine Jj<|Jt<|Jr<|JL rfl .here rfl<|Ja rfl<|Jn<|Je ?_
   first | with_reducible apply aO | with_reducible apply aP
   case he=>exact dj rfl rfl
   case hR=>
    intro w' az
    exact aB (.slice va W.length vc,W) hq (by exact .cons (.there .here) (.cons (.there .here) .nil)) az rfl
  case round=>
   rintro l2 rc W2 S7 k ⟨wv,W⟩ vs hsz hk hq hB hF
   dsimp only at hq
   obtain ⟨i,hi,rfl,iK,T7⟩:=CM hk
   obtain ⟨vz,Ia⟩:=List.getElem?_eq_some_iff.1 hi
   have htk:(fc r v (qq r so) r.ti.length).take (k+1)=(fc r v (qq r so) r.ti.length).take k++[i]:=by rw [List.take_succ_eq_append_getElem vz,Ia]
   have QP:(mj W).length=W.length*2:=oz W
   have Xt:W.length≤2000:=by
    have:=congrArg List.length hq.1
    rw [List.length_map,List.length_append,List.length_map,List.length_map,List.length_take] at this
    omega
   dsimp only [Ti.cells,List.zip_cons_cons,List.zip_nil_right,lF,List.cons_append,List.nil_append]
   refine Jg<|Ja rfl<|Jn ?_
   with_reducible apply lS
   case ht=>exact .here
   refine aW (E:=244) (sz:=2) bI fun v1 v2 e=>?_
   subst e
   (refine J0<|Jg<|JL rfl (.there .here) rfl<|Jv rfl<|bb (aA (.cons (.of rfl) .nil) rfl rfl rfl rfl) rfl fun _ _=>?_;refine ab (aS (.cons (.of rfl) (.cons (.of rfl) .nil)) ak) rfl ?_;refine bb (bu (.cons (.of rfl) .nil) rfl rfl bM bM ak) rfl fun _ _=>?_)
   rename_i bq mT bl NA
   have Il:=hq.add ⟨.slice (some ⟨bq,0,none⟩) 1 1,[i],1⟩ rfl
   have RN:mj (W++[⟨.slice (some ⟨bq,0,none⟩) 1 1,[i],1⟩])=mj W++[.slice (some ⟨bq,0,none⟩) 1 1,.int .i64 1]:=xZ W _
   have RM:(W++[(⟨.slice (some ⟨bq,0,none⟩) 1 1,[i],1⟩:Wy)]).length=W.length+1:=by simp
   refine bz (.of rfl) (.of rfl) ei .here ak (by rfl) (gn rfl rfl) (by rfl) (by rfl) (by rfl) ep (by rfl) ?_
   intro v'
   refine aW (by exact .here) fun a' gB e=>?_
   subst e
   (refine ao (.of rfl) (.of rfl) ei rfl rfl (dZ rfl) (bE rfl) ak ?_;refine Jx<|Jj ?_)
   refine bQ (g:=bq) (E:=3) (ys:=[.int .i64 (i:Nat)]) 1 1 cY rfl rfl rfl ?_
   refine oC (W:=W) ⟨.slice (some ⟨bq,0,none⟩) 1 1,[i],1⟩ (n:=1) (x:=[.int .i64 (i:Nat)]) eC (by exact .here) rfl rfl ?_
   apply k9 (.slice a' (W.length+1) gB,W++[⟨.slice (some ⟨bq,0,none⟩) 1 1,[i],1⟩])
   case ht=>exact ei
   case hx=>
    show N6 _ _
    rw [htk,List.map_append,← List.append_assoc]
    exact Il
   case h2=>
    show bj _ [bD b7 (.cells #[.slice a' (W.length+1) gB] 329 (0,0)),row 244 2 (.slice a' (W.length+1) gB) (W++[(⟨.slice (some ⟨bq,0,none⟩) 1 1,[i],1⟩:Wy)]).length (mj (W++[⟨.slice (some ⟨bq,0,none⟩) 1 1,[i],1⟩])),ia (W++[⟨.slice (some ⟨bq,0,none⟩) 1 1,[i],1⟩])] _
    rw [RM,RN]
    exact .cons (.there .here) (.cons (.there .here) (.cons .here .nil))
end Go.Proofs.A1
