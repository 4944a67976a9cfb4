/- Parts of the proof: KE KF KV GkOff GkSortK TryzSortF KG KH KI. -/
import Derived.Test.YteonnodafmegaaaGreatDoorBM06
import Derived.Test.YteonnodafmegaaaGreatDoorBM04
import Derived.Test.YteonnodafmegaaaGreatDoorBM03
import Derived.Test.YteonnodafmegaaaGreatDoorBM02
import Derived.ArgAppend
import Derived.Shelf.SlSortCmp.WholeK
import Derived.Shelf.SlSortCmp.NoneTotal
import Derived.Shelf.SlicesG.Cmp
import Derived.Ground.SlsfProg
import Derived.Ground.SlgcProg
import Derived.Ground.NamesProg
import Derived.Ground.Names2Prog
import Derived.Test.YteonnodafmegaaaGreatDoorProg
set_option linter.unusedSectionVars false
set_option linter.unusedVariables false
set_option linter.unusedSimpArgs false
namespace Go.Proofs.A1
open Go Go.SL
theorem dM {w w':World} {a:Addr} {v:Value} {md:List Nat} (h:w.cell? a=some v) (hs:a.spot=none) (hn:a.block ∉ md) (hk:aG md w w'):w'.cell? a=some v:=by
 have hb:=World.block_lt_of_cell? w a h
 obtain ⟨b,o,s⟩:=a
 subst hs
 have:=hk.block b hb hn
 rw [← h]
 simp [World.cell?,this]
theorem BR.iV {w w':World} {b:Nat} {cs:List Value} {md:List Nat} (h:BR w b cs) (hn:b ∉ md) (hk:aG md w w'):BR w' b cs:=fun j u hu=>dM (h j u hu) rfl hn hk
theorem I3 {q:Bool} {o:ByteArray} {f:FuncId} {first cap:List Value} [bS Tryz.prog f] {b5:Nat} {w:World} (f5:w.cell? ⟨b5,0,none⟩=some (.func (.func f) first.toArray cap.toArray))
  (cn:∀ w',aG [] w w'→aj Tryz.prog f (first++[.string o]++cap) w' (.bool q)) :
  aj Tryz.prog 225 [.string o,.pointer (some ⟨b5,0,none⟩)] w (.bool (!q)):=by
 refine ah Tryz.func225 rfl rfl ?_
 (refine Jr<|Ja rfl<|Ji<|ab (ag (.of rfl) (At.base f5 rfl)) rfl ?_;refine Jv rfl ?_)
 refine ai bI rfl (fun w' au=>cn w' au.keeps) ?_
 refine JH rfl<|Ja rfl<|Jn<|Je<|JT ?_
 rfl
theorem C8 {lv:Value} {l:List Ti} {q:ByteArray→Bool} {f:FuncId} {first cap:List Value} [bS Tryz.prog f] {w:World} (h:Rd w lv 3 (ui l)) (hn:l.length≤1000000)
  (cn:∀ o w',aG [] w w'→aj Tryz.prog f (first++[.string o]++cap) w' (.bool (q o))) :
  bd Tryz.prog 118 [lv,.func (.func 119) #[] #[],.func (.func f) first.toArray cap.toArray] w [] (fun _:Value=>True) id (fun v=>[row 9 1 v ((l.map Ti.nm).filter q).length (aO ((l.map Ti.nm).filter q))]):=by
 have Bb:=Rd.one h
 refine aQ Tryz.func118 rfl rfl ?_
 refine Jr<|Jy rfl rfl fun _ _=>Ja rfl<|Ji<|Jv rfl<|Jv rfl ?_
 rename_i b5 KF
 refine JN aZ rfl (fun w1 aS=>LY (f:=119) (first:=[]) (cap:=[]) (g:=Ti.nm) (h.keeps aS.keeps) hn (fun x _ w2 _=>HA x w2)) ?_
 intro nv _
 dsimp only [id_eq,Zb,Za]
 refine ab (bn .nil (.cons (.of rfl) .nil)) rfl ?_
 with_reducible apply fI (As:=[row 9 1 nv l.length (aO (l.map Ti.nm))])
 case hr=>exact aZ
 case hd=>rfl
 case ht=>exact sS
 case hc=>
  intro w1 zS aS uY hs1 B2 kp
  have h5:b5 ∉ zS:=kp b5 _ _ (by exact .here)
  have f5:w1.cell? ⟨b5,0,none⟩=some (.func (.func f) first.toArray cap.toArray):=At.lit (by exact Take.there .here) rfl w1 aS
  exact IN (f:=225) (p:=fun o=>!q o) (first:=[]) (cap:=[.pointer (some ⟨b5,0,none⟩)]) uY hs1 (by rw [Zd]) hn
   (fun o _ w2 eC=>I3 (dM f5 rfl h5 eC) (fun w3 Wu=>cn o w3 ((aS.keeps.over (fun b hb=>B2 b hb) eC).trans Wu)))
 intro v' _
 dsimp only [id_eq,Zb,Za]
 simp only [Bool.not_not]
 refine Ja rfl<|Jn<|Je ?_
 first | with_reducible apply aM | with_reducible apply aN
 case he=>exact dp rfl rfl
 case hR=>
  intro w' au
  exact aB v' trivial (by exact .cons .here .nil) au rfl
theorem I4 {q:Bool} {o:ByteArray} {f:FuncId} {first cap:List Value} [bS Tryz.prog f] {b5:Nat} {w:World} (f5:w.cell? ⟨b5,0,none⟩=some (.func (.func f) first.toArray cap.toArray))
  (cn:∀ w',aG [] w w'→aj Tryz.prog f (first++[.string o]++cap) w' (.bool q)) :
  aj Tryz.prog 226 [.string o,.pointer (some ⟨b5,0,none⟩)] w (.bool (!q)):=by
 refine ah Tryz.func226 rfl rfl ?_
 (refine Jr<|Ja rfl<|Ji<|ab (ag (.of rfl) (At.base f5 rfl)) rfl ?_;refine Jv rfl ?_)
 refine ai bI rfl (fun w' au=>cn w' au.keeps) ?_
 refine JH rfl<|Ja rfl<|Jn<|Je<|JT ?_
 rfl
theorem C9 {lv:Value} {l:List De} {q:ByteArray→Bool} {f:FuncId} {first cap:List Value} [bS Tryz.prog f] {w:World} (h:Rd w lv 3 (vi l)) (hn:l.length≤1000000)
  (cn:∀ o w',aG [] w w'→aj Tryz.prog f (first++[.string o]++cap) w' (.bool (q o))) :
  bd Tryz.prog 123 [lv,.func (.func 124) #[] #[],.func (.func f) first.toArray cap.toArray] w [] (fun _:Value=>True) id (fun v=>[row 9 1 v ((l.map De.nm).filter q).length (aO ((l.map De.nm).filter q))]):=by
 have Bb:=Rd.one h
 refine aQ Tryz.func123 rfl rfl ?_
 refine Jr<|Jy rfl rfl fun _ _=>Ja rfl<|Ji<|Jv rfl<|Jv rfl ?_
 rename_i b5 KF
 refine JN aZ rfl (fun w1 aS=>D5 (f:=124) (first:=[]) (cap:=[]) (g:=De.nm) (h.keeps aS.keeps) hn (fun x _ w2 _=>CH x w2)) ?_
 intro nv _
 dsimp only [id_eq,Zb,Za]
 refine ab (bn .nil (.cons (.of rfl) .nil)) rfl ?_
 with_reducible apply fI (As:=[row 9 1 nv l.length (aO (l.map De.nm))])
 case hr=>exact aZ
 case hd=>rfl
 case ht=>exact sS
 case hc=>
  intro w1 zS aS uY hs1 B2 kp
  have h5:b5 ∉ zS:=kp b5 _ _ (by exact .here)
  have f5:w1.cell? ⟨b5,0,none⟩=some (.func (.func f) first.toArray cap.toArray):=At.lit (by exact Take.there .here) rfl w1 aS
  exact IN (f:=226) (p:=fun o=>!q o) (first:=[]) (cap:=[.pointer (some ⟨b5,0,none⟩)]) uY hs1 (by rw [Zd]) hn
   (fun o _ w2 eC=>I4 (dM f5 rfl h5 eC) (fun w3 Wu=>cn o w3 ((aS.keeps.over (fun b hb=>B2 b hb) eC).trans Wu)))
 intro v' _
 dsimp only [id_eq,Zb,Za]
 simp only [Bool.not_not]
 refine Ja rfl<|Jn<|Je ?_
 first | with_reducible apply aM | with_reducible apply aN
 case he=>exact dp rfl rfl
 case hR=>
  intro w' au
  exact aB v' trivial (by exact .cons .here .nil) au rfl
theorem Nj {r:Ro} {s d t p:Value} (v:Int) (o:ByteArray) {b1 b2:Nat} {w:World} (h:RR w r s d t p) (hA:BR w b1 (RC r s d t p)) (f2:w.cell? ⟨b2,0,none⟩=some (.int .i64 v)) :
  aj Tryz.prog 120 [.string o,.pointer (some ⟨b1,0,none⟩),.pointer (some ⟨b2,0,none⟩)] w (.bool (fV r.po v o)):=by
 have h1:=Rd.one h.sr
 have h2:=Rd.one h.de
 have h3:=Rd.one h.ti
 have h4:=Rd.one h.po
 have jR:∀ (j:Nat) (u:Value),[Value.int .i64 r.lv,.int .i64 r.ma,s,d,t,p][j]? = some u→w.cell? ⟨b1,0+j,none⟩=some u:=hA
 refine ah Tryz.func120 rfl rfl ?_
 (refine Jr<|Ja rfl<|Ji<|ab (iv (eF.base jR rfl)) rfl ?_;refine ab (ag (.of rfl) (At.base f2 rfl)) rfl ?_;refine Jv rfl ?_)
 refine ai eh rfl (fun w' au=>pY v o (h.keeps au.keeps)) ?_
 refine Ja rfl<|Jn<|Je<|JT ?_
 rfl
theorem Gn {r:Ro} {s d t p:Value} (v:Int) (o so:ByteArray) {b1 b2 b3:Nat} {w:World} (h:RR w r s d t p) (cG:r.ti.length≤1000000) (hA:BR w b1 (RC r s d t p)) (f2:w.cell? ⟨b2,0,none⟩=some (.int .i64 v)) (f3:w.cell? ⟨b3,0,none⟩=some (.string so)) :
  aj Tryz.prog 125 [.string o,.pointer (some ⟨b1,0,none⟩),.pointer (some ⟨b2,0,none⟩),.pointer (some ⟨b3,0,none⟩)] w (.bool (decide (jB r v o=so))):=by
 have h1:=Rd.one h.sr
 have h2:=Rd.one h.de
 have h3:=Rd.one h.ti
 have h4:=Rd.one h.po
 have jR:∀ (j:Nat) (u:Value),[Value.int .i64 r.lv,.int .i64 r.ma,s,d,t,p][j]? = some u→w.cell? ⟨b1,0+j,none⟩=some u:=hA
 refine ah Tryz.func125 rfl rfl ?_
 refine Jr<|Ja rfl<|Jn<|Jq ?_
 with_reducible refine dP 6 (by kernel_rfl) ?_
 (refine aH (iv (eF.base jR rfl)) rfl ?_;refine aH (ag (.of rfl) (At.base f2 rfl)) rfl ?_;refine k7 rfl rfl ?_;refine fc eh rfl (fun w' au=>(oY v o (RR.keeps h (Mem.keeps au)) cG)) ?_;refine aH (ag (.of rfl) (At.base f3 rfl)) rfl ?_;refine aH (dR (.of rfl) (.of rfl)) rfl ?_)
 with_reducible refine dY ?_
 refine Ja rfl<|Jn<|Je<|JT ?_
 rfl
def JM (r:Ro) (v:Int):Int:=aW [fU r,AZ r v]
def FX (r:Ro) (v:Int):List ByteArray:=if JM r v≠0 then [] else (cQ r).filter (fV r.po v)
theorem Rm {r:Ro} {s d t p:Value} (v:Int) {w:World} (h:RR w r s d t p) (cG:mY r):bd Tryz.prog 23 [RA r s d t p,.int .i64 v] w [] (fun _:Value=>True) (fun x=>.tuple #[x,.int .i64 (JM r v)]) (fun x=>[row 9 1 x (FX r v).length (aO (FX r v))]):=by
 have h1:=Rd.one h.sr
 have h2:=Rd.one h.de
 have h3:=Rd.one h.ti
 have h4:=Rd.one h.po
 have iQ:∀ w',aG [] w w'→aj Tryz.prog 34 [.agg #[.int .i64 r.lv,.int .i64 r.ma,s,d,t,p]] w' (.int .i64 (fU r)):=fun w' hk=>eu (h.keeps hk) cG
 have hle:∀ w',aG [] w w'→aj Tryz.prog 114 [.agg #[.int .i64 r.lv,.int .i64 r.ma,s,d,t,p],.int .i64 v] w' (.int .i64 (AZ r v)):=fun w' hk=>ku v (h.keeps hk)
 unfold RA
 refine aQ Tryz.func23 rfl rfl ?_
 refine Jr<|Jy rfl rfl fun _ _=>Jy rfl rfl fun _ _=>Ja rfl<|Ja rfl<|Jn<|Jq<|Jq ?_
 rename_i b2 tb b3 sZ
 with_reducible refine cC 6 (by kernel_rfl) ?_
 (refine ak (cz (.there .here)) rfl ?_;refine aT bI rfl (fun w' au=>(iQ w' (Mem.keeps au))) ?_;refine ak (cz (.there .here)) rfl ?_;refine ak (gz .here) rfl ?_;refine aT aZ rfl (fun w' au=>(hle w' (Mem.keeps au))) ?_;refine dX (aA (.cons (.of rfl) (.cons (.of rfl) .nil)) rfl rfl rfl rfl) rfl rfl ?_)
 with_reducible refine df rfl fun bq mg=>?_
 (refine ai bI rfl (fun w' au=>(dI (Mem.dh au .here rfl rfl) (bP.cons (bP.cons bP.nil)))) ?_;refine Ja rfl<|Ji<|Jv rfl<|JD rfl<|Jn<|gm rfl (fun ar=>?_) fun ar=>?_;refine Jr<|Jv rfl<|Ja rfl<|Ja rfl<|Jn<|Ju ?_;rotate_left;refine Jk<|Jr<|bF rfl rfl ae ?_;refine JL rfl bN rfl<|ab (bn .nil (.cons (.of rfl) (.cons (.of rfl) .nil))) rfl ?_;rotate_right)
 ·have e1:FX r v=[]:=if_pos ar
  rw [e1]
  refine aP 9 1 ?_
  first | with_reducible apply aM | with_reducible apply aN
  case he=>exact fF rfl rfl rfl
  case hR=>
   intro w' au
   exact aB (.slice none 0 0) trivial (by exact .cons .here .nil) au rfl
 have e1:FX r v=(r.ti.map Ti.nm).filter (fV r.po v):=if_neg ar
 have e0:aW [fU r,AZ r v]=0:=Decidable.not_not.1 ar
 have e2:JM r v=0:=e0
 rw [e1,e2]
 with_reducible apply jg
 case hr=>exact eh
 case hd=>rfl
 case ht=>exact bo.nil
 case hc=>
  intro w1 fp aS _ hs1
  obtain rfl:fp=[]:=hs1
  have hA:BR w1 b2 [.int .i64 r.lv,.int .i64 r.ma,s,d,t,p]:=BR.of aS bN
  have f2:w1.cell? ⟨b3,0,none⟩=some (.int .i64 v):=At.lit (by exact Take.there .here) rfl w1 aS
  have hR:=h.keeps aS.keeps
  exact C8 (f:=120) (q:=fV r.po v) (first:=[]) (cap:=[.pointer (some ⟨b2,0,none⟩),.pointer (some ⟨b3,0,none⟩)]) hR.ti (by have:=cG.2.2;omega)
   (fun o w2 eC=>Nj v o (hR.keeps eC) (hA.keeps eC) (ch f2 rfl eC))
 intro x _
 dsimp only [id_eq,Zb,Za]
 refine Ja rfl<|Ja rfl<|Jn<|Je ?_
 first | with_reducible apply aM | with_reducible apply aN
 case he=>exact fF rfl rfl rfl
 case hR=>
  intro w' au
  exact aB x trivial (by exact .cons .here .nil) au rfl
def Gq (r:Ro) (v:Int) (so:ByteArray):Int:=aW [fU r,AZ r v,Ks r so]
def EO (r:Ro) (v:Int) (so:ByteArray):List ByteArray:=if Gq r v so≠0 then [] else (ct r).filter fun o=>decide (jB r v o=so)
theorem Nq {r:Ro} {s d t p:Value} (v:Int) (so:ByteArray) {w:World} (h:RR w r s d t p) (cG:mY r):bd Tryz.prog 24 [RA r s d t p,.int .i64 v,.string so] w [] (fun _:Value=>True) (fun x=>.tuple #[x,.int .i64 (Gq r v so)]) (fun x=>[row 9 1 x (EO r v so).length (aO (EO r v so))]):=by
 have h1:=Rd.one h.sr
 have h2:=Rd.one h.de
 have h3:=Rd.one h.ti
 have h4:=Rd.one h.po
 have iQ:∀ w',aG [] w w'→aj Tryz.prog 34 [.agg #[.int .i64 r.lv,.int .i64 r.ma,s,d,t,p]] w' (.int .i64 (fU r)):=fun w' hk=>eu (h.keeps hk) cG
 have hle:∀ w',aG [] w w'→aj Tryz.prog 114 [.agg #[.int .i64 r.lv,.int .i64 r.ma,s,d,t,p],.int .i64 v] w' (.int .i64 (AZ r v)):=fun w' hk=>ku v (h.keeps hk)
 have y9:∀ w',aG [] w w'→aj Tryz.prog 122 [.agg #[.int .i64 r.lv,.int .i64 r.ma,s,d,t,p],.string so] w' (.int .i64 (Ks r so)):=fun w' hk=>pz so (h.keeps hk)
 unfold RA
 refine aQ Tryz.func24 rfl rfl ?_
 refine Jr<|Jy rfl rfl fun _ _=>Jy rfl rfl fun _ _=>Jy rfl rfl fun _ _=>Ja rfl<|Ja rfl<|Jn<|Jq<|Jq ?_
 rename_i b2 tb b3 sZ b4 u9
 with_reducible refine cC 9 (by kernel_rfl) ?_
 (refine ak (cz bN) rfl ?_;refine aT bI rfl (fun w' au=>(iQ w' (Mem.keeps au))) ?_;refine ak (cz bN) rfl ?_;refine ak (gz (.there .here)) rfl ?_;refine aT aZ rfl (fun w' au=>(hle w' (Mem.keeps au))) ?_;refine ak (cz bN) rfl ?_;refine ak (gz .here) rfl ?_;refine aT aZ rfl (fun w' au=>(y9 w' (Mem.keeps au))) ?_;refine dX (aA (.cons (.of rfl) (.cons (.of rfl) (.cons (.of rfl) .nil))) rfl rfl rfl rfl) rfl rfl ?_)
 with_reducible refine df rfl fun bq mg=>?_
 (refine ai bI rfl (fun w' au=>(dI (Mem.dh au .here rfl rfl) (bP.cons (bP.cons (bP.cons bP.nil))))) ?_;refine Ja rfl<|Ji<|Jv rfl<|JD rfl<|Jn<|gm rfl (fun ar=>?_) fun ar=>?_;refine Jr<|Jv rfl<|Ja rfl<|Ja rfl<|Jn<|Ju ?_;rotate_left;refine Jk<|Jr<|bF rfl rfl ae ?_;refine JL rfl cX rfl<|ab (bn .nil (.cons (.of rfl) (.cons (.of rfl) (.cons (.of rfl) .nil)))) rfl ?_;rotate_right)
 ·have e1:EO r v so=[]:=if_pos ar
  rw [e1]
  refine aP 9 1 ?_
  first | with_reducible apply aM | with_reducible apply aN
  case he=>exact fF rfl rfl rfl
  case hR=>
   intro w' au
   exact aB (.slice none 0 0) trivial (by exact .cons .here .nil) au rfl
 have e1:EO r v so=(r.de.map De.nm).filter (fun o=>decide (jB r v o=so)):=if_neg ar
 have e0:aW [fU r,AZ r v,Ks r so]=0:=Decidable.not_not.1 ar
 have e2:Gq r v so=0:=e0
 rw [e1,e2]
 with_reducible apply jg
 case hr=>exact eh
 case hd=>rfl
 case ht=>exact bo.nil
 case hc=>
  intro w1 fp aS _ hs1
  obtain rfl:fp=[]:=hs1
  have hA:BR w1 b2 [.int .i64 r.lv,.int .i64 r.ma,s,d,t,p]:=BR.of aS cX
  have f2:w1.cell? ⟨b3,0,none⟩=some (.int .i64 v):=At.lit bN rfl w1 aS
  have f3:w1.cell? ⟨b4,0,none⟩=some (.string so):=At.lit (by exact Take.there .here) rfl w1 aS
  have hR:=h.keeps aS.keeps
  exact C9 (f:=125) (q:=fun o=>decide (jB r v o=so)) (first:=[]) (cap:=[.pointer (some ⟨b2,0,none⟩),.pointer (some ⟨b3,0,none⟩),.pointer (some ⟨b4,0,none⟩)]) hR.de (by have:=cG.2.1;omega)
   (fun o w2 eC=>Gn v o so (hR.keeps eC) (by have:=cG.2.2;omega) (hA.keeps eC) (ch f2 rfl eC) (ch f3 rfl eC))
 intro x _
 dsimp only [id_eq,Zb,Za]
 refine Ja rfl<|Ja rfl<|Jn<|Je ?_
 first | with_reducible apply aM | with_reducible apply aN
 case he=>exact fF rfl rfl rfl
 case hR=>
  intro w' au
  exact aB x trivial (by exact .cons .here .nil) au rfl
theorem yu {vs:List Value}:∀ {cs cur:List Value} {o:Nat},o+vs.length≤cs.length→setCells (cs++cur) o vs=setCells cs o vs++cur:=by
 induction vs with
 | nil=>intro cs cur o _;rfl
 | cons v vs ih =>
  intro cs cur o h
  simp only [List.length_cons] at h
  rw [setCells,setCells,List.set_append_left _ _ (by omega),ih (by simp;omega)]
theorem vV {cs vs:List Value} (h:vs.length=cs.length):setCells cs 0 vs=vs:=by
 apply List.ext_getElem?
 intro k
 rw [hG _ _ _ _ (by omega)]
 by_cases hk:k<vs.length
 ·rw [if_pos (by omega),Nat.sub_zero]
 ·rw [if_neg (by omega),List.getElem?_eq_none (by omega),List.getElem?_eq_none (by omega)]
theorem La {n sz i:Nat} {f:Nat→List Value} {vs:List Value} (hf:∀ i,i<n→(f i).length=sz) (hi:i<n) (hv:vs.length=sz):setCells (sh n f) (i*sz) vs=sh n (fun k=>if k=i then vs else f k):=by
 have:=K9 (o:=0) hf hi (by omega:0+vs.length≤sz)
 rw [Nat.add_zero] at this
 rw [this]
 apply lZ
 intro k _
 show (if k=i then _ else _)=(if k=i then _ else _)
 split
 ·exact vV (by rw [hf i hi,hv])
 ·rfl
def swp (B:Nat→ByteArray) (m k:Nat):Nat→ByteArray:=fun x=>if x<k∨m-k≤x then B (m-1-x) else B x
def s1 (B:Nat→ByteArray):Nat→List Value:=fun i=>[.string (B i)]
theorem nJ (B:Nat→ByteArray) (m:Nat):∀ i,i<m→(s1 B i).length=1:=fun _ _=>rfl
theorem G4 {B:Nat→ByteArray} {m i:Nat} (cur:List Value) (h:i<m):(sh m (s1 B)++cur)[i*1]? = some (.string (B i)):=by
 have hl:=gO (nJ B m)
 rw [List.getElem?_append_left (by rw [hl];omega)]
 exact yo (j:=0) (nJ B m) h (by omega)
theorem G3 {B C:Nat→ByteArray} {m i:Nat} {v:ByteArray} (cur:List Value) (h:i<m) (hC:∀ k,k<m→C k=if k=i then v else B k):setCells (sh m (s1 B)++cur) (i*1) [.string v]=sh m (s1 C)++cur:=by
 have hl:=gO (nJ B m)
 rw [yu (by rw [hl];simp;omega),La (nJ B m) h rfl]
 congr 1
 apply lZ
 intro k hk
 unfold s1
 rw [hC k hk]
 split <;> rfl
set_option maxHeartbeats 4000000 in
theorem G8 {w:World} {fp:List Nat} {v:Value} {m:Nat} {B:Nat→ByteArray} (hm:0<m) (aca:m≤1000000) (hn:fp.Nodup) (hs:bY (hp w) [row 9 1 v m (sh m (s1 B))] fp) :
  bd Tryz.prog 117 [v] w fp (fun _:Unit=>True) (fun _=>.tuple #[]) (fun _=>[row 9 1 v m (sh m (s1 fun i=>B (m-1-i)))]):=by
 refine dV Tryz.func117 rfl rfl hn hs ?_
 refine c7 (by exact .here) hm ?_
 rintro g cap cur rfl db zd hsz NX
 have hlen:=gO (nJ B m)
 refine Jr<|Jv rfl<|JI rfl<|JS rfl (by omega)<|Ja rfl<|Ja rfl<|Jn<|J0 ?_
 refine aX (fun k:Nat=>2*k≤m) (fun k=>[(2,.int .i64 k),(3,.int .i64 ((m-1-k:Nat):Int)),(0,.slice (some ⟨g,0,none⟩) m cap)]) (fun k=>[bA g (.cells (sh m (s1 (swp B m k))++cur).toArray 9 (0,0))]) (fun k=>m-2*k) ?_ ?_
 ·apply aJ 0 (by omega)
  case hs1=>exact .cons rfl (.IY rfl (by congr 1;omega) (.cons rfl .nil))
  case ht=>
   rw [show sh m (s1 (swp B m 0))=sh m (s1 B) from lZ fun i hi=>by unfold s1 swp;rw [if_neg (by omega)]]
   exact .cons .here .nil
 intro k hk
 have vJ:=gO (nJ (swp B m k) m)
 by_cases aL:k<m-1-k
 ·have hj:m-1-k<m:=by omega
  have Qp:k<m:=by omega
  have c1:=G4 (B:=swp B m k) cur Qp
  have c2:=G4 (B:=swp B m k) cur hj
  have Ir:=G3 (C:=fun i=>if i=k then swp B m k (m-1-k) else swp B m k i) cur Qp (v:=swp B m k (m-1-k)) (B:=swp B m k) fun i _=>rfl
  have Qw:=G3 (C:=swp B m (k+1)) cur hj (v:=swp B m k k) (B:=fun i=>if i=k then swp B m k (m-1-k) else swp B m k i) fun i hi=>by
   symm
   unfold swp
   by_cases e1:i=m-1-k
   ·subst e1
    rw [if_pos rfl,if_neg (by omega),if_pos (by omega)]
    congr 1;omega
   ·rw [if_neg e1]
    by_cases e2:i=k
    ·subst e2
     rw [if_pos rfl,if_neg (by omega),if_pos (by omega)]
    ·rw [if_neg e2]
     by_cases e3:i<k∨m-k≤i
     ·rw [if_pos e3,if_pos (by omega)]
     ·rw [if_neg e3,if_neg (by omega)]
  have sH:k*1+1≤(sh m (s1 (swp B m k))++cur).length:=by rw [Zg,vJ];omega
  have tb:(m-1-k)*1+1≤(sh m (s1 (fun i=>if i=k then swp B m k (m-1-k) else swp B m k i))++cur).length:=by rw [Zg,gO (nJ _ m)];omega
  refine Jq<|Jr<|Jv rfl<|Jv rfl<|JA rfl<|Jn<|Jd rfl fun ar=>Jk<|Jq<|J0 ?_
  with_reducible refine K3 16 rfl ?_
  (refine eI 0 rfl lR lR lR (fun w ρ=>rfl) (fun w=>(aR (.of rfl))) rfl ?_;refine eI 1 rfl lR lR lR (fun w ρ=>rfl) (fun w=>(aR (.of rfl))) rfl ?_;refine eI 2 rfl lR lR lR (fun w ρ=>rfl) (fun w=>(aR (.of rfl))) rfl ?_;refine eI 3 rfl lR lR lR (fun w ρ=>rfl) (fun w=>(aR (.of rfl))) rfl ?_;refine eI 4 rfl lR lR lR (fun w ρ=>rfl) (fun w=>(aR (.of rfl))) rfl ?_;refine eI 5 rfl lR lR lR (fun w ρ=>rfl) (fun w=>(aR (.of rfl))) rfl ?_;refine eI 6 rfl lR lR lR (fun w ρ=>rfl) (fun w=>(az (.of rfl) (.of rfl) rfl (by omega) (by omega) ba)) rfl ?_;refine eI 8 rfl lR lR lR (fun w ρ=>rfl) (fun w=>(aR (.of rfl))) rfl ?_;refine eI 9 rfl lR lR lR (fun w ρ=>rfl) (fun w=>(aR (.of rfl))) rfl ?_;refine eI 10 rfl lR lR lR (fun w ρ=>rfl) (fun w=>(az (.of rfl) (.of rfl) rfl (by omega) (by omega) ba)) rfl ?_)
  refine cO (rs:=[7,11]) (by kernel_rfl) (by simp) (List.forall_mem_cons.2 ⟨?_,List.forall_mem_cons.2 ⟨?_,fun _ h=>absurd h List.not_mem_nil⟩⟩)
  ·refine cW rfl ?_
   (refine ab (ag (.of rfl) (At.kz .here c2)) rfl ?_;refine Jn ?_)
   ·refine cO (rs:=[11]) (by kernel_rfl) (by simp) (List.forall_mem_cons.2 ⟨?_,fun _ h=>absurd h List.not_mem_nil⟩)
    refine cW rfl ?_
    (refine ab (ag (.of rfl) (At.kz .here c1)) rfl ?_;refine Jn ?_)
    refine eI 12 rfl lR lR lR (fun w ρ=>rfl) (fun w=>(az (.of rfl) (.of rfl) rfl (by omega) (by omega) ba)) rfl ?_
    refine cO (rs:=[13]) (by kernel_rfl) (by simp) (List.forall_mem_cons.2 ⟨?_,fun _ h=>absurd h List.not_mem_nil⟩)
    refine cW rfl ?_
    with_reducible apply aq
    case hx=>exact Is.of rfl
    case hy=>exact Is.of rfl
    case ht=>exact .here
    case hv=>exact rfl
    case hl=>rfl
    case h1=>exact bD rfl fZ
    case h2=>exact sH
    case he=>exact Ir
    refine Jn ?_
    refine eI 14 rfl lR lR lR (fun w ρ=>rfl) (fun w=>(az (.of rfl) (.of rfl) rfl (by omega) (by omega) ba)) rfl ?_
    refine cO (rs:=[15]) (by kernel_rfl) (by simp) (List.forall_mem_cons.2 ⟨?_,fun _ h=>absurd h List.not_mem_nil⟩)
    refine cW rfl ?_
    with_reducible apply aq
    case hx=>exact Is.of rfl
    case hy=>exact Is.of rfl
    case ht=>exact .here
    case hv=>exact rfl
    case hl=>rfl
    case h1=>exact bD rfl fZ
    case h2=>exact tb
    case he=>exact Qw
    refine Jn ?_
    with_reducible refine dj (by kernel_rfl) ?_
    refine Jj<|Jt<|Jg<|Jv rfl<|JB rfl (by omega)<|Jv rfl<|JS rfl (by omega)<|Ja rfl<|Ja rfl<|Jn ?_
    apply aK (k+1) (by omega) (by omega)
    case hs1=>exact .cons rfl (.IY rfl (by congr 1;omega) (.cons rfl .nil))
    case ht=>exact sS
  ·refine cW rfl ?_
   (refine ab (ag (.of rfl) (At.kz .here c1)) rfl ?_;refine Jn ?_)
   ·refine cO (rs:=[7]) (by kernel_rfl) (by simp) (List.forall_mem_cons.2 ⟨?_,fun _ h=>absurd h List.not_mem_nil⟩)
    refine cW rfl ?_
    (refine ab (ag (.of rfl) (At.kz .here c2)) rfl ?_;refine Jn ?_)
    refine eI 12 rfl lR lR lR (fun w ρ=>rfl) (fun w=>(az (.of rfl) (.of rfl) rfl (by omega) (by omega) ba)) rfl ?_
    refine cO (rs:=[13]) (by kernel_rfl) (by simp) (List.forall_mem_cons.2 ⟨?_,fun _ h=>absurd h List.not_mem_nil⟩)
    refine cW rfl ?_
    with_reducible apply aq
    case hx=>exact Is.of rfl
    case hy=>exact Is.of rfl
    case ht=>exact .here
    case hv=>exact rfl
    case hl=>rfl
    case h1=>exact bD rfl fZ
    case h2=>exact sH
    case he=>exact Ir
    refine Jn ?_
    refine eI 14 rfl lR lR lR (fun w ρ=>rfl) (fun w=>(az (.of rfl) (.of rfl) rfl (by omega) (by omega) ba)) rfl ?_
    refine cO (rs:=[15]) (by kernel_rfl) (by simp) (List.forall_mem_cons.2 ⟨?_,fun _ h=>absurd h List.not_mem_nil⟩)
    refine cW rfl ?_
    with_reducible apply aq
    case hx=>exact Is.of rfl
    case hy=>exact Is.of rfl
    case ht=>exact .here
    case hv=>exact rfl
    case hl=>rfl
    case h1=>exact bD rfl fZ
    case h2=>exact tb
    case he=>exact Qw
    refine Jn ?_
    with_reducible refine dj (by kernel_rfl) ?_
    refine Jj<|Jt<|Jg<|Jv rfl<|JB rfl (by omega)<|Jv rfl<|JS rfl (by omega)<|Ja rfl<|Ja rfl<|Jn ?_
    apply aK (k+1) (by omega) (by omega)
    case hs1=>exact .cons rfl (.IY rfl (by congr 1;omega) (.cons rfl .nil))
    case ht=>exact sS
 ·have VY:sh m (s1 (swp B m k))=sh m (s1 fun i=>B (m-1-i)):=lZ fun i hi=>by
   unfold s1 swp
   by_cases e:i<k∨m-k≤i
   ·rw [if_pos e]
   ·rw [if_neg e];show [Value.string (B i)]=[Value.string (B (m-1-i))];rw [show m-1-i=i by omega]
  rw [VY]
  have Eg:=gO (nJ (fun i=>B (m-1-i)) m)
  refine c6 (n:=m) (cap:=cap) (sz:=1) (show Take _ (bA g (.cells ((sh m (s1 fun i=>B (m-1-i)))++cur).toArray 9 (0,0))) _ by exact .here) db zd (by rw [Zg,Eg];rw [Zg,NX] at hsz;omega) Eg ?_
  refine Jq<|Jr<|Jv rfl<|Jv rfl<|JA rfl<|Jn<|Jc rfl fun ar=>Jp<|Jl<|Jo ?_
  first | with_reducible apply aM | with_reducible apply aN
  case he=>exact py rfl
  case hR=>
   intro w' au
   exact aB () trivial (by exact .cons .here .nil) au rfl
theorem DH (l:List ByteArray):aO l=sh l.length (s1 fun i=>l.getD i ⟨#[]⟩):=by
 rw [Ch]
 apply List.ext_getElem?
 intro k
 have h1:((List.range l.length).map (s1 fun i=>l.getD i ⟨#[]⟩)).flatten=(List.range l.length).map fun i=>Value.string (l.getD i ⟨#[]⟩):=by
  have:=kU ((List.range l.length).map fun i=>Value.string (l.getD i ⟨#[]⟩))
  rw [List.map_map] at this
  exact this
 rw [h1]
 unfold aO
 by_cases h:k<l.length
 ·simp [h,List.getD_eq_getElem?_getD]
 ·simp [h]
theorem Lc (l:List ByteArray):aO l.reverse=sh l.length (s1 fun i=>l.getD (l.length-1-i) ⟨#[]⟩):=by
 rw [DH,List.length_reverse]
 apply lZ
 intro i hi
 show [Value.string (l.reverse.getD i ⟨#[]⟩)]=[Value.string (l.getD (l.length-1-i) ⟨#[]⟩)]
 rw [List.getD_eq_getElem?_getD,List.getD_eq_getElem?_getD,List.getElem?_reverse hi]
theorem Cr {w:World} {fp:List Nat} {v:Value} {l:List ByteArray} {n:Nat} (hl:n=l.length) (hm:n≤1000000) (hn:fp.Nodup) (hs:bY (hp w) [row 9 1 v n (aO l)] fp) :
  bd Tryz.prog 117 [v] w fp (fun _:Unit=>True) (fun _=>.tuple #[]) (fun _=>[row 9 1 v n (aO l.reverse)]):=by
 subst hl
 by_cases h0:0<l.length
 ·rw [DH] at hs
  rw [Lc]
  exact G8 h0 hm hn hs
 ·obtain rfl:l=[]:=List.eq_nil_of_length_eq_zero (by omega)
  show bd Tryz.prog 117 [v] w fp (fun _:Unit=>True) (fun _=>.tuple #[]) (fun _=>[row 9 1 v 0 []])
  replace hs:bY (hp w) [row 9 1 v 0 []] fp:=hs
  refine dV Tryz.func117 rfl rfl hn hs ?_
  refine aY (E:=9) (sz:=1) (by exact .here) fun a cp e=>?_
  subst e
  refine Jr<|Jv rfl<|JI rfl<|JS rfl (by omega)<|Ja rfl<|Ja rfl<|Jn<|J0 ?_
  refine aX (fun _:Nat=>True) (fun k=>[(2,.int .i64 0),(3,.int .i64 (-1)),(0,.slice a 0 cp)]) (fun k=>[row 9 1 (.slice a 0 cp) 0 []]) (fun k=>k) ?_ ?_
  ·apply aJ 0 trivial
   case hs1=>exact cd
   case ht=>exact sS
  intro k _
  refine Jq<|Jr<|Jv rfl<|Jv rfl<|JA rfl<|Jn<|Jc rfl fun ar=>Jp<|Jl<|Jo ?_
  first | with_reducible apply aM | with_reducible apply aN
  case he=>exact py rfl
  case hR=>
   intro w' au
   exact aB () trivial (by exact .cons .here .nil) au rfl
theorem J9 {r:Ro} {s d t p:Value} (v:Int) (o:ByteArray) {y:Nat×Nat×Nat} {w:World} {fp:List Nat} (kQ:fp.Nodup) (hs:bY (hp w) [bA y.1 (.cells #[.string o] 9 (0,0)),JP y.2.1 r s d t p,bA y.2.2 (.cells #[.int .i64 v] 3 (0,0))] fp)
  (h:RR w r s d t p) (hO:RO fp r s d t p) (cG:r.ti.length≤1000000) :
  bd Tryz.prog 221 [.slice none 0 0,.func (.func 222) #[] #[.pointer (some ⟨y.1,0,none⟩),.pointer (some ⟨y.2.1,0,none⟩),.pointer (some ⟨y.2.2,0,none⟩)]] w fp (fun _:Value=>True) id (fun v1=>[row 9 1 v1 (eQ r.po v (r.ti.length+1) o).length (aO (eQ r.po v (r.ti.length+1) o))]):=by
 have hlen:=jK r.po v (r.ti.length+1) o
 refine dV Tryz.func221 rfl rfl kQ hs ?_
 refine Jr<|Jy rfl rfl fun _ _=>Ja rfl<|Jn<|Jq<|Jr<|Jv rfl<|Jn<|J0 ?_
 rename_i b2 tb
 refine aP 9 1 ?_
 refine iY (ps:=[7]) (f:=222) (first:=[]) (cap:=[.pointer (some ⟨y.1,0,none⟩),.pointer (some ⟨y.2.1,0,none⟩),.pointer (some ⟨y.2.2,0,none⟩)]) (ι:=Nat×Value) (κ:=Empty) (rst:=[]) ?hg
  [bA y.1 (.cells #[.string o] 9 (0,0)),JP y.2.1 r s d t p,bA y.2.2 (.cells #[.int .i64 v] 3 (0,0))] (vZ r.po v (r.ti.length+1) o) ?hit
  (fun k x=>x.1=k∧k≤(eQ r.po v (r.ti.length+1) o).length)
  (fun x=>[bA b2 (.cells #[x.2] 32 (0,0)),row 9 1 x.2 x.1 (aO ((eQ r.po v (r.ti.length+1) o).take x.1))])
  (fun _=>False) (fun _=>[]) (fun _=>.ret) (0,.slice none 0 0) ⟨rfl,Zi _⟩ ?ht ?hlen ?hps ?round ?kn ?kj
 case hg=>exact Is.of rfl
 case hit=>intro w' au;exact CD v o h hO cG
 case ht=>
  exact .cons (.there .here) (.cons .here (.cons .here (.cons .here (.cons .here .nil))))
 case hlen=>intro vs nY;obtain ⟨x,_,rfl⟩:=List.mem_map.1 nY;rfl
 case hps=>intro t ht;simp only [List.mem_cons,List.not_mem_nil,or_false] at ht;subst ht;exact Nat.le_of_ble_eq_true rfl
 case kj=>intro y;cases y
 case kn=>
  rintro ⟨n,v1⟩ D ⟨hq,_⟩
  dsimp only [Zb,Za] at hq ⊢
  rw [qK] at hq
  subst hq
  rw [List.take_length]
  refine Jj<|Jt<|Jr<|JL rfl .here rfl<|Ja rfl<|Jn<|Je ?_
  refine aY (E:=9) (sz:=1) (by exact Take.there .here) fun va vc e=>?_
  subst e
  skip
  first | with_reducible apply aM | with_reducible apply aN
  case he=>exact dp rfl rfl
  case hR=>
   intro w' au
   exact aB (.slice va (eQ r.po v (r.ti.length+1) o).length vc) trivial (by exact .cons (.there .here) .nil) au rfl
 case round=>
  rintro l2 rc W TV k ⟨n,v1⟩ vs hsz hk ⟨hq,Mv⟩ hB hF
  dsimp only at hq
  subst hq
  obtain ⟨a,hit,rfl,Bf⟩:=CC hk
  obtain ⟨aL,Iq⟩:=List.getElem?_eq_some_iff.1 Bf
  have htk:aO ((eQ r.po v (r.ti.length+1) o).take (n+1))=aO ((eQ r.po v (r.ti.length+1) o).take n)++[.string a]:=by rw [List.take_succ_eq_append_getElem aL,Iq,eO];rfl
  have vJ:(aO ((eQ r.po v (r.ti.length+1) o).take n)).length=n*1:=by rw [dd,List.length_take_of_le (by omega),Nat.mul_one]
  dsimp only [List.zip_cons_cons,List.zip_nil_right,lN,Zb,Za]
  refine Jg<|Ja rfl<|Jn ?_
  with_reducible apply lX
  case ht=>exact .here
  refine aY (E:=9) (sz:=1) bN fun v1 v2 e=>?_
  subst e
  refine J0<|Jg<|JL rfl (.there .here) rfl<|Jv rfl<|bb (aA (.cons (.of rfl) .nil) rfl rfl rfl rfl) rfl fun _ _=>?_
  refine bB (.of rfl) (.of rfl) cX .here an (by rfl) (ed rfl) (by rfl) (by rfl) (by rfl) eH (by rfl) ?_
  intro v'
  refine aY (by exact .here) fun a' gL e=>?_
  subst e
  (refine aq (.of rfl) (.of rfl) cX rfl rfl (ed rfl) (bC rfl) an ?_;refine Jx<|Jj ?_)
  apply lq (n+1,.slice a' (n+1) gL)
  case ht=>exact cX
  case hx=>exact ⟨rfl,aL⟩
  case h2=>
   show bo _ [bA b2 (.cells #[.slice a' (n+1) gL] 32 (0,0)),row 9 1 (.slice a' (n+1) gL) (n+1) (aO ((eQ r.po v (r.ti.length+1) o).take (n+1)))] _
   rw [htk]
   exact .cons .here (.cons .here .nil)
theorem IZ {r:Ro} {s d t p:Value} (v:Int) (o:ByteArray) {y:Nat×Nat×Nat} {w:World} {fp:List Nat} (kQ:fp.Nodup) (hs:bY (hp w) [bA y.1 (.cells #[.string o] 9 (0,0)),JP y.2.1 r s d t p,bA y.2.2 (.cells #[.int .i64 v] 3 (0,0))] fp)
  (h:RR w r s d t p) (hO:RO fp r s d t p) (cG:r.ti.length≤1000000) :
  bd Tryz.prog 115 [.func (.func 222) #[] #[.pointer (some ⟨y.1,0,none⟩),.pointer (some ⟨y.2.1,0,none⟩),.pointer (some ⟨y.2.2,0,none⟩)]] w fp (fun _:Value=>True) id (fun v1=>[row 9 1 v1 (eQ r.po v (r.ti.length+1) o).length (aO (eQ r.po v (r.ti.length+1) o))]):=by
 refine dV Tryz.func115 rfl rfl kQ hs ?_
 refine Jr<|Ja rfl<|Ji<|Jv rfl ?_
 with_reducible apply fI (As:=[bA y.1 (.cells #[.string o] 9 (0,0)),JP y.2.1 r s d t p,bA y.2.2 (.cells #[.int .i64 v] 3 (0,0))])
 case hr=>exact aZ
 case hd=>rfl
 case ht=>exact sS
 case hc=>
  intro w1 zS aS uY hs1 B2 _
  exact J9 v o uY hs1 (h.iV hO aS.keeps) (h.out hO B2) cG
 intro v1 _
 dsimp only [id_eq,Zb,Za]
 refine Ja rfl<|Jn<|Je ?_
 first | with_reducible apply aM | with_reducible apply aN
 case he=>exact dp rfl rfl
 case hR=>
  intro w' au
  exact aB v1 trivial (by exact .cons .here .nil) au rfl
def Gv (r:Ro) (v:Int) (o:ByteArray):Int:=aW [fU r,AZ r v,sM r o]
def O1 (r:Ro) (v:Int) (o:ByteArray):List ByteArray:=if eQ r.po v (r.ti.length+1) o=[] then [] else (eQ r.po v (r.ti.length+1) o).reverse++[o]
def ET (r:Ro) (v:Int) (o:ByteArray):List ByteArray:=if Gv r v o≠0 then [] else O1 r v o
theorem Nr {r:Ro} {s d t p:Value} (v:Int) (o:ByteArray) {w:World} (h:RR w r s d t p) (cG:mY r):bd Tryz.prog 22 [RA r s d t p,.int .i64 v,.string o] w [] (fun _:Value=>True) (fun x=>.tuple #[x,.int .i64 (Gv r v o)]) (fun x=>[row 9 1 x (ET r v o).length (aO (ET r v o))]):=by
 have h1:=Rd.one h.sr
 have h2:=Rd.one h.de
 have h3:=Rd.one h.ti
 have h4:=Rd.one h.po
 have adk:=cG.2.2
 have iQ:∀ w',aG [] w w'→aj Tryz.prog 34 [.agg #[.int .i64 r.lv,.int .i64 r.ma,s,d,t,p]] w' (.int .i64 (fU r)):=fun w' hk=>eu (h.keeps hk) cG
 have hle:∀ w',aG [] w w'→aj Tryz.prog 114 [.agg #[.int .i64 r.lv,.int .i64 r.ma,s,d,t,p],.int .i64 v] w' (.int .i64 (AZ r v)):=fun w' hk=>ku v (h.keeps hk)
 have lT:∀ w',aG [] w w'→aj Tryz.prog 112 [.agg #[.int .i64 r.lv,.int .i64 r.ma,s,d,t,p],.string o] w' (.int .i64 (sM r o)):=fun w' hk=>ei o (h.keeps hk)
 unfold RA
 refine aQ Tryz.func22 rfl rfl ?_
 refine Jr<|Jy rfl rfl fun _ _=>Ja rfl<|Ja rfl<|Jn<|Jq<|Jq ?_
 rename_i b3 sZ
 with_reducible refine cC 9 (by kernel_rfl) ?_
 (refine ak (cz .here) rfl ?_;refine aT bI rfl (fun w' au=>(iQ w' (Mem.keeps au))) ?_;refine ak (cz .here) rfl ?_;refine ak kG rfl ?_;refine aT aZ rfl (fun w' au=>(hle w' (Mem.keeps au))) ?_;refine ak (cz .here) rfl ?_;refine ak kG rfl ?_;refine aT aZ rfl (fun w' au=>(lT w' (Mem.keeps au))) ?_;refine dX (aA (.cons (.of rfl) (.cons (.of rfl) (.cons (.of rfl) .nil))) rfl rfl rfl rfl) rfl rfl ?_)
 with_reducible refine df rfl fun bq mg=>?_
 (refine ai bI rfl (fun w' au=>(dI (Mem.dh au .here rfl rfl) (bP.cons (bP.cons (bP.cons bP.nil))))) ?_;refine Ja rfl<|Ji<|Jv rfl<|JD rfl<|Jn<|gm rfl (fun ar=>?_) fun ar=>?_;refine Jr<|Jv rfl<|Ja rfl<|Ja rfl<|Jn<|Ju ?_;rotate_left;refine Jk<|Jr<|ab (cz (.there .here)) rfl ?_;refine Jv rfl<|Jv rfl ?_;rotate_right)
 ·have e1:ET r v o=[]:=if_pos ar
  rw [e1]
  refine aP 9 1 ?_
  first | with_reducible apply aM | with_reducible apply aN
  case he=>exact fF rfl rfl rfl
  case hR=>
   intro w' au
   exact aB (.slice none 0 0) trivial (by exact .cons .here .nil) au rfl
 have e1:ET r v o=O1 r v o:=if_neg ar
 have e0:aW [fU r,AZ r v,sM r o]=0:=Decidable.not_not.1 ar
 have e2:Gv r v o=0:=e0
 clear ar
 rw [e1,e2]
 refine JN eh rfl (fun w1 aS=>uD v o (h.keeps aS.keeps)) ?_
 intro y _
 dsimp only [id_eq,Zb,Za]
 skip
 with_reducible apply fI (As:=[bA y.1 (.cells #[.string o] 9 (0,0)),JP y.2.1 r s d t p,bA y.2.2 (.cells #[.int .i64 v] 3 (0,0))])
 case hr=>exact bI
 case hd=>rfl
 case ht=>exact sS
 case hc=>
  intro w1 zS aS uY hs1 B2 _
  exact IZ v o uY hs1 (h.keeps aS.keeps) (h.out (md:=[]) RO.nil (fun b hb=>B2 b hb)) (by omega)
 intro v1 _
 have hlen:=jK r.po v (r.ti.length+1) o
 dsimp only [id_eq,Zb,Za]
 refine aY (E:=9) (sz:=1) (by exact .here) fun va vc e=>?_
 subst e
 unfold O1
 generalize hL:eQ r.po v (r.ti.length+1) o=L at hlen ⊢
 (refine Ja rfl<|Jn<|Jq<|Jr<|Jv rfl<|JI rfl<|JC rfl<|Jn<|gm rfl (fun ar=>?_) fun ar=>?_;refine Jr<|Ja rfl<|Ja rfl<|Jn<|Ju ?_;rotate_left;refine Jk<|Jr<|Jv rfl ?_;rotate_right)
 ·have Ig:L=[]:=List.eq_nil_of_length_eq_zero (by omega)
  rw [if_pos Ig]
  refine aP 9 1 ?_
  first | with_reducible apply aM | with_reducible apply aN
  case he=>exact fF rfl rfl rfl
  case hR=>
   intro w' au
   exact aB (.slice none 0 0) trivial (by exact .cons .here .nil) au rfl
 have hnn:¬ L=[]:=fun e=>by rw [e] at ar;exact ar rfl
 rw [if_neg hnn]
 with_reducible apply fI (As:=[row 9 1 (.slice va L.length vc) L.length (aO L)])
 case hr=>exact bI
 case hd=>rfl
 case ht=>exact sS
 case hc=>
  intro w1 zS aS uY hs1 B2 _
  exact Cr rfl (by omega) uY hs1
 intro _ _
 have a7:aO (L.reverse++[o])=aO L.reverse++[.string o]:=by rw [eO];rfl
 have hlr:(aO L.reverse).length=L.length*1:=by rw [dd,List.length_reverse,Nat.mul_one]
 have Eg:(L.reverse++[o]).length=L.length+1:=by simp
 rw [Eg,a7]
 dsimp only [id_eq,Zb,Za]
 refine Ji<|Jv rfl<|Jv rfl<|bb (aA (.cons (.of rfl) .nil) rfl rfl rfl rfl) rfl fun _ _=>?_
 refine bB (.of rfl) (.of rfl) (.there .here) .here an (by rfl) (ed rfl) (by rfl) (by rfl) (by rfl) eH (by rfl) ?_
 intro v'
 refine Ja rfl<|Ja rfl<|Jn<|Je ?_
 first | with_reducible apply aM | with_reducible apply aN
 case he=>exact fF rfl rfl rfl
 case hR=>
  intro w' au
  exact aB v' trivial (by exact .cons .here .nil) au rfl
theorem Fc {α:Type} {R:α→α→Prop} (ht:∀ a b c,R a b→R b c→R a c):∀ {l:List α},(∀ k (h:k+1<l.length),R l[k] l[k+1])→l.Pairwise R:=by
 intro l h
 rw [List.pairwise_iff_getElem]
 intro i j hi hj xE
 obtain ⟨d,rfl⟩:∃ d,j=i+1+d:=⟨j-(i+1),by omega⟩
 clear xE
 induction d with
 | zero=>exact h i hj
 | succ d ih=>exact ht _ _ _ (ih (by omega)) (h (i+1+d) hj)
theorem oz {a b c d:Int}:¬ lj [a,b] [c,d]≤0↔c<a∨c=a∧d<b:=by
 unfold lj
 by_cases h1:j7 a c=0
 ·rw [if_neg (not_not_intro h1)]
  have:=iq.1 h1
  unfold lj
  by_cases h2:j7 b d=0
  ·rw [if_neg (not_not_intro h2)]
   have:=iq.1 h2
   unfold lj
   omega
  ·rw [if_pos h2]
   unfold j7 at h2 ⊢
   split at h2 <;> split <;> first | omega | (split <;> omega)
 ·rw [if_pos h1]
  have zR:a≠c:=fun e=>h1 (iq.2 e)
  unfold j7
  split
  ·omega
  ·split <;> omega
theorem HD {r:Ro} (hd:B3 r) (h6:r.ti.length≤6):pA r:=by
 obtain ⟨_,_,_,d1,d2,d3⟩:=hd.parts
 exact ⟨d1,d2,d3,by unfold cQ;rw [Zd];exact h6⟩
structure oF (r:Ro):Prop where
 lim:1≤r.lv∧r.lv≤3∧1≤r.ma∧r.ma≤4
 OD:B3 r
 len:r.sr.length≤8∧r.de.length≤8∧r.ti.length≤6
 sm:∀ x∈r.sr,0≤x.mx∧x.mx<r.ma
 dm:∀ x∈r.de,0≤x.mx∧x.mx<r.ma
 tm:∀ x∈r.ti,(0≤x.fr∧x.fr<r.ma)∧(0≤x.to∧x.to<r.ma)∧x.fr≠x.to
 val:iR r r.po
theorem oF.yS {r:Ro} (h:oF r):pA r:=HD h.OD h.len.2.2
theorem il {r:Ro} {m:Int}:ep r m=0↔0≤m∧m<r.ma:=by
 unfold ep
 rw [bH (by decide)]
 simp
theorem Hx {r:Ro} (hd:∀ x∈r.de,0≤x.mx) (ht:∀ x∈r.ti,0≤x.fr) {s:ByteArray} (h:0≤ka r s):s∈ct r∨s∈cQ r:=by
 by_cases h1:s∈ct r
 ·exact .inl h1
 ·by_cases h2:s∈cQ r
  ·exact .inr h2
  ·unfold ka at h
   have f1:=cj.2 h1
   have f2:=cj.2 h2
   rw [if_neg (by omega),if_neg (by omega)] at h
   omega
theorem HW {r:Ro} {s:ByteArray} (h:0≤jz r s):s∈cm r∨s∈cQ r:=by
 by_cases h1:s∈cm r
 ·exact .inl h1
 ·by_cases h2:s∈cQ r
  ·exact .inr h2
  ·unfold jz at h
   have f1:=cj.2 h1
   have f2:=cj.2 h2
   rw [if_neg (by omega),if_neg (by omega)] at h
   omega
theorem mF {r:Ro} {x:Po} (h:lO r x=0):(0≤x.lv∧x.lv<r.lv)∧0≤ka r x.ou∧0≤jz r x.ip∧ka r x.ou=jz r x.ip:=by
 unfold lO at h
 rw [bX] at h
 have h1:=gY.1 (h _ List.mem_cons_self)
 have h2:=(bH (by decide)).1 (h (bO (decide (ka r x.ou<0)) 10) (by simp))
 have h3:=(bH (by decide)).1 (h (bO (decide (jz r x.ip<0)) 10) (by simp))
 have h4:=(bH (by decide)).1 (h (bO (decide (ka r x.ou≠jz r x.ip)) 24) (by simp))
 simp only [decide_eq_false_iff_not,ne_eq,Decidable.not_not] at h2 h3 h4
 exact ⟨by omega,by omega,by omega,h4⟩
theorem k6 {r:Ro} {q:Int→Bool}:jC r q=false↔∀ v:Int,0≤v→v<r.lv→q v=false:=by
 unfold jC
 rw [List.any_eq_false]
 constructor
 ·intro h v h0 h1
  have:=h v.toNat (List.mem_range.2 (by omega))
  rw [show ((v.toNat:Nat):Int)=v by omega] at this
  simpa using this
 ·intro h i hi
  have:=List.mem_range.1 hi
  rw [h i (by omega) (by omega)];decide
theorem DZ {r:Ro} (h:fU r=0):oF r:=by
 obtain ⟨h1,h2,h3,h4⟩:=r6 h
 obtain ⟨kp,hlen,hs,hd,ht⟩:=yJ h2
 have Tx:∀ x∈r.de,0≤x.mx∧x.mx<r.ma:=fun x hx=>il.1 (hd x hx)
 have Rv:∀ x∈r.ti,(0≤x.fr∧x.fr<r.ma)∧(0≤x.to∧x.to<r.ma)∧x.fr≠x.to:=fun x hx=>by
  have:=ht x hx
  unfold nk at this
  rw [bX] at this
  have g3:=(bH (by decide)).1 (this (bO (decide (x.fr=x.to)) 24) (by simp))
  exact ⟨il.1 (this _ (by simp)),il.1 (this _ (by simp)),by simpa using g3⟩
 have hp:∀ k (hk:k<r.po.length),lO r r.po[k]=0∧¬ lj [(r.po[k]).lv,dS r (r.po[k]).ou] (Dh r (if k=0 then none else r.po[k-1]?))≤0:=fun k hk=>by
  have:=dN.1 h3 k hk
  rw [qJ hk] at this
  by_cases e:lO r r.po[k]=0
  ·rw [if_neg (not_not_intro e)] at this
   by_cases e2:lj [(r.po[k]).lv,dS r (r.po[k]).ou] (Dh r (if k=0 then none else r.po[k-1]?))≤0
   ·rw [if_pos e2] at this;exact absurd this (by decide)
   ·exact ⟨e,e2⟩
  ·rw [if_pos e] at this;exact absurd this e
 have Ia:∀ p∈r.po,lO r p=0:=fun p nb=>by
  obtain ⟨k,hk,rfl⟩:=List.getElem_of_mem nb
  exact (hp k hk).1
 have Ij:∀ p∈r.po,0≤p.lv∧p.lv<r.lv:=fun p nb=>(mF (Ia p nb)).1
 have hti:(cQ r).length=r.ti.length:=by unfold cQ;rw [Zd]
 unfold yW at h4
 rw [bX] at h4
 have Tz:=k6.1 ((bH (by decide)).1 (h4 (bO (jC r fun v=>r.ti.any (KG r v)) 33) (by simp)))
 have Wc:=k6.1 ((bH (by decide)).1 (h4 (bO (jC r fun v=>r.ti.any (Hw r v)) 32) (by simp)))
 have Fw:∀ v:Int,¬ (0≤v∧v<r.lv)→∀ o,ee r.po v o=none:=fun v hv o=>gT.2 fun p nb e=>hv (e.1 ▸ Ij p nb)
 refine ⟨uN h1,kp,hlen,fun x hx=>il.1 (hs x hx),Tx,Rv,?_,Ij,?_,?_,?_,?_,?_⟩
 ·refine Fc (R:=fun a b=>pj r a b=true) (fun a b c h h'=>xw h h') fun k hk=>?_
  have:=(hp (k+1) hk).2
  rw [if_neg (by omega),Nat.add_sub_cancel,Zc (by omega)] at this
  have:=oz.1 this
  unfold pj
  simp only [Bool.or_eq_true,Bool.and_eq_true,decide_eq_true_eq]
  exact this
 ·exact fun p nb=>Hx (fun x hx=>(Tx x hx).1) (fun x hx=>(Rv x hx).1.1) (mF (Ia p nb)).2.1
 ·exact fun p nb=>HW (mF (Ia p nb)).2.2.1
 ·exact fun p nb=>(mF (Ia p nb)).2.2.2
 ·rintro v ⟨t,Ft,hc⟩
  rw [hti] at hc
  by_cases hv:0≤v∧v<r.lv
  ·obtain ⟨x,hx,rfl⟩:=List.mem_map.1 Ft
   have:=List.any_eq_false.1 (Tz v hv.1 hv.2) x hx
   exact this (fb.2 hc)
  ·rw [vo (Fw v hv t)] at hc
   cases hc
 ·intro v t Ft
  by_cases hv:0≤v∧v<r.lv
  ·obtain ⟨x,hx,rfl⟩:=List.mem_map.1 Ft
   have:=List.any_eq_false.1 (Wc v hv.1 hv.2) x hx
   unfold Hw at this
   cases h1:fV r.po v x.nm <;> cases h2:nj r.po v x.nm <;> rw [h1,h2] at this <;> simp at this <;> simp
  ·have e1:fV r.po v t=false:=by unfold fV;rw [Fw v hv t];rfl
   have e2:nj r.po v t=false:=by
    unfold nj
    rw [List.any_eq_false]
    intro p nb e
    unfold y6 at e
    simp only [Bool.and_eq_true,decide_eq_true_eq] at e
    exact hv (e.1 ▸ Ij p nb)
   rw [e1,e2]
theorem vr {r:Ro} (hn:pA r) (h:iR r r.po) (v:Int) (o:ByteArray):jB r v o=qk r.po v (cm r) o:=by
 have hti:(cQ r).length=r.ti.length:=by unfold cQ;rw [Zd]
 have:=FL hn h v o
 rw [hti] at this
 unfold jB qk
 rw [this]
 by_cases hm:gD r.po v 7 o∈cm r
 ·have h0:=dz hm
  obtain ⟨x,hx,e⟩:=List.mem_map.1 hm
  rw [if_pos (List.any_eq_true.2 ⟨x,hx,by simpa using e⟩),if_neg (by omega)]
 ·have h0:=cj.2 hm
  rw [if_neg (fun e=>by
   obtain ⟨x,hx,e⟩:=List.any_eq_true.1 e
   exact hm (List.mem_map.2 ⟨x,hx,by simpa using e⟩)),if_pos h0]
end Go.Proofs.A1
namespace Go.SL
open Go
def kd (E:TypeId) (sz:Nat) (v:Value) (n:Nat) (xs:List Value):a8 where
 sat h fp:=xs.length=n*sz∧((fp=[]∧v=.slice none 0 0∧n=0) ∨
  ∃ g off cap cur,fp=[g]∧v=.slice (some ⟨g,off,none⟩) n cap∧h g=some (.cells cur E (0,0))∧n≤cap∧cap≤maxLen∧off+cap*sz≤cur.size∧(cur.toList.drop off).take (n*sz)=xs)
 loc:=by
  rintro h h' fp ⟨hl,h1⟩ hb
  refine ⟨hl,h1.imp id ?_⟩
  rintro ⟨g,off,cap,cur,rfl,rfl,hg,r⟩
  exact ⟨g,off,cap,cur,rfl,rfl,by rw [hb g (by simp)];exact hg,r⟩
 own:=by
  rintro h fp ⟨hl,h1⟩ b hb
  rcases h1 with ⟨rfl,_⟩ | ⟨g,off,cap,cur,rfl,rfl,hg,_⟩
  ·cases hb
  ·rw [List.mem_singleton] at hb;subst hb;exact ⟨_,hg⟩
theorem nK {h:Nat→Option Obj} {E:TypeId} {sz:Nat} {v:Value} {n:Nat} {xs:List Value} {fp:List Nat} (hr:(row E sz v n xs).sat h fp):(kd E sz v n xs).sat h fp:=by
 obtain ⟨e,hl,h1⟩:=hr
 rcases h1 with ⟨rfl,h0⟩ | ⟨g,cap,cur,rfl,hg,h2,h3,h4,h5⟩
 ·exact ⟨hl,.inl ⟨by simpa [Value.ownBlock] using e,rfl,h0⟩⟩
 ·exact ⟨hl,.inr ⟨g,0,cap,cur,by simpa [Value.ownBlock] using e,rfl,hg,h2,h3,by omega,by simpa using h5⟩⟩
section
variable {c:Cx} {D:List Nat} {sl:aI} {hs hs':List a8} {X:Act→World→Prop} {E:TypeId} {sz:Nat} {v:Value} {n:Nat} {xs:List Value}
theorem tp {A B:a8} (ht:Take hs A hs') (hc:∀ h fp,A.sat h fp→B.sat h fp) (k:Tr c D sl (B::hs') X):Tr c D sl hs X:=fun a w a7=>
 k a w (a7.heap (by
  obtain ⟨kk,fp,kQ,⟨f1,f2,rfl,h1,h2⟩,hb⟩:=a7.mem.take (ht.append _)
  exact ⟨kk,f1++f2,kQ,⟨f1,f2,rfl,hc _ _ h1,h2⟩,hb⟩))
theorem EU (ht:Take hs (row E sz v n xs) hs') (k:Tr c D sl (kd E sz v n xs::hs') X):Tr c D sl hs X:=tp ht (fun _ _ h=>nK h) k
theorem wJ (ht:Take hs (kd E sz v n xs) hs') (k:∀ a cap,v=.slice a n cap→n≤cap→cap≤maxLen→Tr c D sl hs X):Tr c D sl hs X:=fun a w a7=>by
 obtain ⟨kk,fp,kQ,⟨f1,f2,rfl,⟨_,h1⟩,h2⟩,hb⟩:=a7.mem.take (ht.append _)
 rcases h1 with ⟨_,e,h0⟩ | ⟨g,off,cap,cur,_,e,_,hc,hm,_⟩
 ·subst h0;exact k none 0 e (Nat.le_refl _) (by unfold maxLen;omega) a w a7
 ·exact k _ cap e hc hm a w a7
theorem z6 (ht:Take hs (kd E sz v n xs) hs') (hn:0<n)
  (k:∀ g off cap pre cur,v=.slice (some ⟨g,off,none⟩) n cap→pre.length=off→n≤cap→cap≤maxLen→off+cap*sz≤(pre++xs++cur).length→xs.length=n*sz→Tr c D sl (bA g (.cells (pre++xs++cur).toArray E (0,0))::hs') X):Tr c D sl hs X:=fun a w a7=>by
 obtain ⟨kk,fp,kQ,⟨f1,f2,rfl,⟨hl,h1⟩,h2⟩,hb⟩:=a7.mem.take (ht.append _)
 rcases h1 with ⟨_,_,h0⟩ | ⟨g,off,cap,cur,rfl,e,hg,hc,hm,hfit,htk⟩
 ·omega
 ·have hsz:n*sz≤cap*sz:=Nat.mul_le_mul_right _ hc
  have Oe:cur.size=cur.toList.length:=by simp
  have mP:cur=(cur.toList.take off++xs++cur.toList.drop (off+n*sz)).toArray:=by
   apply Array.ext'
   show cur.toList=_
   rw [← htk]
   conv=>lhs;rw [← List.take_append_drop off cur.toList]
   rw [Zh]
   congr 1
   conv=>lhs;rw [← List.take_append_drop (n*sz) (cur.toList.drop off)]
   rw [List.drop_drop]
  refine k g off cap (cur.toList.take off) (cur.toList.drop (off+n*sz)) e ?_ hc hm ?_ hl a w (a7.heap ⟨kk,[g]++f2,kQ,⟨[g],f2,rfl,⟨rfl,by rw [← mP];exact hg⟩,h2⟩,hb⟩)
  ·rw [List.length_take];omega
  ·have:=congrArg (fun x:Array Value=>x.toList.length) mP
   simp only [Array.length_toList] at this
   rw [← this];exact hfit
theorem w7 {h:Nat→Option Obj} {g off cap:Nat} {pre cur:List Value} {fp:List Nat} (hb:(bA g (.cells (pre++xs++cur).toArray E (0,0))).sat h fp) (hp:pre.length=off) (hc:n≤cap) (hm:cap≤maxLen) (hfit:off+cap*sz≤(pre++xs++cur).length) (hl:xs.length=n*sz):(kd E sz (.slice (some ⟨g,off,none⟩) n cap) n xs).sat h fp:=by
 obtain ⟨e,hg⟩:=hb
 refine ⟨hl,.inr ⟨g,off,cap,_,e,rfl,hg,hc,hm,by rw [List.size_toArray];exact hfit,?_⟩⟩
 show ((pre++xs++cur).drop off).take (n*sz)=xs
 rw [Zh,← hp,List.drop_left,← hl,List.take_left]
theorem zZ {g off cap:Nat} {pre cur:List Value} (ht:Take hs (bA g (.cells (pre++xs++cur).toArray E (0,0))) hs') (hp:pre.length=off) (hc:n≤cap) (hm:cap≤maxLen) (hfit:off+cap*sz≤(pre++xs++cur).length) (hl:xs.length=n*sz)
  (k:Tr c D sl (kd E sz (.slice (some ⟨g,off,none⟩) n cap) n xs::hs') X):Tr c D sl hs X:=tp ht (fun _ _ h=>w7 h hp hc hm hfit hl) k
theorem zY {a:Option Addr} {cap:Nat} (ht:Take hs (kd E sz (.slice a (n+1) cap) (n+1) xs) hs') (k:Tr c D sl (kd E sz (Go.sliced a 1 (n+1) cap sz) n (xs.drop sz)::hs') X):Tr c D sl hs X:=
 tp ht (fun h fp hr=>by
  obtain ⟨hl,h1⟩:=hr
  rcases h1 with ⟨_,_,h0⟩ | ⟨g,off,gL,cur,rfl,e,hg,hc,hm,hfit,htk⟩
  ·omega
  ·obtain ⟨rfl,-,rfl⟩:=Value.slice.inj e
   have Eg:(xs.drop sz).length=n*sz:=by rw [List.length_drop,hl,Nat.succ_mul];omega
   refine ⟨Eg,.inr ?_⟩
   have SK:(cur.toList.drop (off+sz)).take (n*sz)=xs.drop sz:=by
    rw [← htk,List.drop_take,List.drop_drop,show (n+1)*sz-sz=n*sz by rw [Nat.succ_mul];omega]
   by_cases U2:cap=1
   ·subst U2
    have Ih:n=0:=by omega
    subst Ih
    refine ⟨g,off,0,cur,rfl,?_,hg,Nat.le_refl _,by omega,by omega,?_⟩
    ·simp [Go.sliced]
    ·rw [← SK];simp
   ·refine ⟨g,off+sz,cap-1,cur,rfl,?_,hg,by omega,by omega,?_,SK⟩
    ·simp only [Go.sliced,if_neg U2,Option.map_some,Addr.add,Nat.one_mul,Nat.add_sub_cancel]
     by_cases h0:sz=0
     ·rw [if_pos h0,h0];rfl
     ·rw [if_neg h0]
    ·have:cap*sz=(cap-1)*sz+sz:=by
      rw [← Nat.succ_mul];congr 1;omega
     omega) k
end
end Go.SL
namespace Go.SL
open Go Go.Shelf Go.RowKit Go.Proofs Go.Lib Go.Sort
theorem aG.grown {w w':World} (h:aG [] w w'):∃ q ZQ,w'=Go.Sort.grow (w.drewN q) ZQ:=by
 refine ⟨w'.drawn-w.drawn,w'.heap.extract w.heap.size w'.heap.size,?_⟩
 have hd:=h.dr
 have hh:w'.heap=w.heap++w'.heap.extract w.heap.size w'.heap.size:=by
  apply Array.ext_getElem?
  intro k
  by_cases hk:k<w.heap.size
  ·rw [Array.getElem?_append_left hk]
   exact h.block k hk (by simp)
  ·rw [Array.getElem?_append_right (by omega),Array.getElem?_extract]
   have hs:=h.size
   by_cases eC:k<w'.heap.size
   ·rw [if_pos (by omega)]
    congr 1;omega
   ·rw [if_neg (by omega),Array.getElem?_eq_none (by omega)]
 cases w'
 cases w
 have h1:=h.os
 have h2:=h.tape
 have h3:=h.output
 simp only at h1 h2 h3 hh hd
 subst h1;subst h2;subst h3
 simp only [Go.Sort.grow,World.drewN]
 congr 1
 omega
section
variable {P:Program} {α:Type} [Inhabited α]
theorem vf {enc:α→List Value} {k:Nat} (hk:∀ x,(enc x).length=k) (l:List α):(Go.Sort.flatK enc k l.toArray).toList=(l.map enc).flatten:=by
 have sG:=iG hk l
 apply List.ext_getElem?
 intro t
 by_cases ht:t<l.length*k
 ·have KE:0<k:=by
   rcases Nat.eq_zero_or_pos k with e | e
   ·rw [e] at ht;omega
   ·exact e
  have h1:t / k<l.length:=by rw [Nat.div_lt_iff_lt_mul KE];exact ht
  have h2:t % k<k:=Nat.mod_lt _ KE
  have e3:=IF hk h1 h2 []
  rw [List.append_nil,Nat.div_add_mod' t k] at e3
  rw [e3,Array.getElem?_toList]
  have hsz:t<(Go.Sort.flatK enc k l.toArray).size:=by rw [Go.Sort.size_flatK];simpa using ht
  have e4:(Go.Sort.flatK enc k l.toArray)[t]? = some ((Go.Sort.flatK enc k l.toArray)[t]!):=by
   rw [getElem!_pos _ t hsz]
   exact getElem?_pos _ t hsz
  rw [e4,Go.Sort.get_flatK _ _ _ _ (by simpa using ht),getElem!_pos l.toArray (t / k) (by simpa using h1)]
  have h5:t % k<(enc l[t / k]).length:=by rw [hk];exact h2
  rw [Zc h5]
  congr 1
  show (enc (l.toArray[t / k]'_))[t % k]! = _
  rw [show l.toArray[t / k]'(by simpa using h1)=l[t / k] from rfl,getElem!_pos _ (t % k) h5]
 ·rw [List.getElem?_eq_none (by rw [Array.length_toList,Go.Sort.size_flatK];simpa using ht),List.getElem?_eq_none (by rw [sG];omega)]
theorem AK (pre cur vs ws:List Value) (h:ws.length=vs.length):Go.Sort.putCells id pre.length ws.toArray (pre++vs++cur).toArray=(pre++ws++cur).toArray:=by
 apply Array.ext_getElem?
 intro j
 unfold Go.Sort.putCells
 rw [Array.getElem?_mapIdx]
 simp only [List.getElem?_toArray,List.size_toArray]
 by_cases h1:j<pre.length
 ·rw [Zh,Zh,List.getElem?_append_left h1,List.getElem?_append_left h1]
  rw [Zc h1]
  simp only [Option.map_some]
  rw [if_neg (by omega)]
 ·by_cases h2:j<pre.length+ws.length
  ·have e1:(pre++vs++cur)[j]? = some ((pre++vs++cur)[j]'(by simp;omega)):=Zc _
   rw [e1,Option.map_some,if_pos (by omega)]
   rw [Zh,List.getElem?_append_right (by omega),List.getElem?_append_left (by omega),Zc (by omega)]
   congr 1
   show ws.toArray[j-pre.length]! = _
   rw [getElem!_pos ws.toArray (j-pre.length) (by simp;omega)]
   rfl
  ·rw [List.getElem?_append_right (by simp;omega),List.getElem?_append_right (by simp;omega)]
   simp only [Zg,h]
   cases cur[j-(pre.length+vs.length)]? with
   | none=>rfl
   | some x =>
    rw [Option.map_some,if_neg (by omega)]
theorem Ai {ρ:Ren} (L:SlLaysF0.n6 P ρ) {k:Nat} (aE:∀ w,(isAgg (ρ.t 24)).run P w=.ok true w) (zE:∀ w,(Go.sizeOf (ρ.t 24)).run P w=.ok k w) {enc:α→List Value} (hk:∀ x,(enc x).length=k) (h1:∀ x,∀ v∈enc x,v.oneCell'=true) {cf:α→α→Int} (hO:Go.Sort.SWO (ltOf cf))
  {g b cap:Nat} {cb:Array Value} {l:List α} {pre cur:List Value} {E:TypeId} {w:World} (eg:∀ args w,(callFunc g args).run P w=.ok (.enter g args) w) (hb:w.heap[b]? = some (.cells (pre++(l.map enc).flatten++cur).toArray E (0,0))) (hsz:l.length<4611686018427387904)
  (W3:∀ w',aG [b] w w'→∀ x y:α,Calls P g (#[.agg (enc x).toArray,.agg (enc y).toArray]++cb) w' fun e vQ=>e=.returned (.int .i64 (cf x y))∧aG [] w' vQ) :
  Calls P (ρ.f 6) #[.slice (some ⟨b,pre.length,none⟩) l.length cap,.func (.func g) #[] cb] w fun e w'=>
   e=.returned (.tuple #[])∧∃ l':List α,l'.Perm l∧l'.Pairwise (fun x y=>ltOf cf y x=false)∧aG [b] w w'∧w'.heap[b]? = some (.cells (pre++(l'.map enc).flatten++cur).toArray E (0,0)):=by
 have Oh:b<w.heap.size:=(Array.getElem?_eq_some_iff.1 hb).1
 have S4:∀ (m:Nat) (d:Array α) (os:Array Obj),aG [b] w (sortWorldK enc k w b pre.length m d os):=by
  intro m d os
  unfold sortWorldK putRowK
  refine ⟨rfl,rfl,rfl,Nat.le_add_right _ _,by simp,fun q hq hne=>?_⟩
  rw [Go.Sort.heap_grow_old _ _ (by simpa using hq)]
  have:b≠q:=fun e=>hne (by rw [e];simp)
  simp [Go.Sort.putRow,Go.Sort.mapBlock,Go.Sort.ahead,Array.getElem?_modify,this]
 have hC:CmpLays P g cb enc k cf b pre.length l.toArray.size w:=fun m os dk _ x y=>(W3 _ (S4 m dk os) x y).mono fun e w' ⟨he,rn⟩=>⟨he,rn.grown⟩
 have sG:=iG hk l
 have hH:HoldsK enc k w b pre.length l.toArray:=by
  intro j hj
  rw [Go.Sort.size_flatK] at hj
  have lQ:j<l.length*k:=by simpa using hj
  refine ⟨?_,by simp [World.frozen?,hb]⟩
  have h0:=vf hk l
  simp only [World.cell?,hb,Option.isSome_none,Bool.false_eq_true,if_false,List.getElem?_toArray]
  rw [Zh,List.getElem?_append_right (by omega),Nat.add_sub_cancel_left,List.getElem?_append_left (by omega),← h0,Array.getElem?_toList]
  have hs:j<(Go.Sort.flatK enc k l.toArray).size:=by rw [Go.Sort.size_flatK];exact hj
  rw [getElem!_pos _ j hs]
  exact getElem?_pos _ j hs
 have key:=AnyQ.slices_SortFunc L k aE zE enc hk h1 cf hO g cb b pre.length cap l.toArray w eg hC hH Oh (by simpa using hsz)
 refine Calls.mono key ?_
 rintro e w' ⟨he,d',m,os,hp,y9,hw⟩
 subst hw
 obtain ⟨zM,_,XZ⟩:=hp
 have hd:List.Perm d'.toList l:=by
  rw [show (l.toArray.extract 0 l.toArray.size)=l.toArray by simp,show d'.extract 0 l.toArray.size=d' by rw [← zM];simp] at XZ
  exact XZ
 refine ⟨he,d'.toList,hd,?_,S4 m d' os,?_⟩
 ·rw [List.pairwise_iff_getElem]
  intro i j hi hj xE
  rw [Array.length_toList] at hi hj
  have Tw:d'.size=l.length:=by rw [zM];simp
  have:=y9 i j (Zi _) xE (by simp;omega)
  rw [getElem!_pos d' i hi,getElem!_pos d' j hj] at this
  simpa using this
 ·unfold sortWorldK putRowK
  rw [Go.Sort.heap_grow_old _ _ (by simpa using Oh)]
  have V9:=AK pre cur (l.map enc).flatten (Go.Sort.flatK enc k d').toList (by
   rw [Array.length_toList,Go.Sort.size_flatK,sG,zM];simp)
  have Oc:=vf hk d'.toList
  rw [Array.toArray_toList] at Oc V9
  rw [Oc] at V9
  simp [Go.Sort.putRow,Go.Sort.mapBlock,Go.Sort.ahead,Array.getElem?_modify,hb,Go.Sort.onCells]
  simpa using V9
end
end Go.SL
namespace Go.Proofs
open Go.Shelf
def Tryz.Ck:Go.Shelf.Ren:=⟨fun | 6=>260 | 15=>245 | 14=>320 | 28=>312 | 29=>313 | 20=>349 | 21=>350 | 22=>351 | 23=>352 | 24=>353 | 25=>354 | 26=>355 | 27=>356 | 46=>376 | 47=>344 | 48=>345 | 49=>377 | 50=>378 | 57=>392 | n=>n,fun | 22=>329 | 24=>244 | 25=>332 | 3=>3 | 39=>318 | 0=>0 | 53=>381 | 55=>383 | 4=>4 | 46=>374 | 45=>373 | 50=>272 | 5=>5 | 9=>9 | 66=>409 | 70=>413 | 76=>428 | 77=>359 | n=>n,fun | n=>n⟩
theorem Tryz.Cl:Go.Proofs.SlLaysF0.n6 Tryz.prog Tryz.Ck:={
 mixed:=by kernel_rfl
 f6:=⟨Tryz.f260.name,by decide,Tryz.func260.trans (congrArg some (by kernel_rfl))⟩
 f14:=⟨Tryz.f320.name,by decide,Tryz.func320.trans (congrArg some (by kernel_rfl))⟩
 f15:=Tryz.func245.trans (congrArg some (by kernel_rfl))
 f20:=⟨Tryz.f349.name,by decide,Tryz.func349.trans (congrArg some (by kernel_rfl))⟩
 f21:=⟨Tryz.f350.name,by decide,Tryz.func350.trans (congrArg some (by kernel_rfl))⟩
 f22:=⟨Tryz.f351.name,by decide,Tryz.func351.trans (congrArg some (by kernel_rfl))⟩
 f23:=⟨Tryz.f352.name,by decide,Tryz.func352.trans (congrArg some (by kernel_rfl))⟩
 f24:=⟨Tryz.f353.name,by decide,Tryz.func353.trans (congrArg some (by kernel_rfl))⟩
 f25:=⟨Tryz.f354.name,by decide,Tryz.func354.trans (congrArg some (by kernel_rfl))⟩
 f26:=⟨Tryz.f355.name,by decide,Tryz.func355.trans (congrArg some (by kernel_rfl))⟩
 f27:=⟨Tryz.f356.name,by decide,Tryz.func356.trans (congrArg some (by kernel_rfl))⟩
 f28:=Tryz.func312.trans (congrArg some (by kernel_rfl))
 f29:=Tryz.func313.trans (congrArg some (by kernel_rfl))
 f46:=⟨Tryz.f376.name,by decide,Tryz.func376.trans (congrArg some (by kernel_rfl))⟩
 f47:=Tryz.func344.trans (congrArg some (by kernel_rfl))
 f48:=Tryz.func345.trans (congrArg some (by kernel_rfl))
 f49:=⟨Tryz.f377.name,by decide,Tryz.func377.trans (congrArg some (by kernel_rfl))⟩
 f50:=⟨Tryz.f378.name,by decide,Tryz.func378.trans (congrArg some (by kernel_rfl))⟩
 f57:=⟨Tryz.f392.name,by decide,Tryz.func392.trans (congrArg some (by kernel_rfl))⟩
 t0:=Tryz.underlying0
 a0:=Tryz.isAgg0
 z0:=Tryz.sizeOf0
 v0:=Tryz.zeroValue0
 t3:=Tryz.underlying3
 a3:=Tryz.isAgg3
 z3:=Tryz.sizeOf3
 v3:=Tryz.zeroValue3
 t4:=Tryz.underlying4
 a4:=Tryz.isAgg4
 z4:=Tryz.sizeOf4
 v4:=Tryz.zeroValue4
 t5:=Tryz.underlying5
 a5:=Tryz.isAgg5
 z5:=Tryz.sizeOf5
 v5:=Tryz.zeroValue5
 t9:=Tryz.underlying9
 a9:=Tryz.isAgg9
 z9:=Tryz.sizeOf9
 v9:=Tryz.zeroValue9
 t22:=Tryz.underlying329
 a22:=Tryz.isAgg329
 z22:=Tryz.sizeOf329
 v22:=Tryz.zeroValue329
 t25:=Tryz.underlying332
 a25:=Tryz.isAgg332
 z25:=Tryz.sizeOf332
 v25:=Tryz.zeroValue332
 t39:=Tryz.underlying318
 a39:=Tryz.isAgg318
 z39:=Tryz.sizeOf318
 v39:=Tryz.zeroValue318
 t45:=Tryz.underlying373
 a45:=Tryz.isAgg373
 z45:=Tryz.sizeOf373
 v45:=Tryz.zeroValue373
 t46:=Tryz.underlying374
 a46:=Tryz.isAgg374
 z46:=Tryz.sizeOf374
 v46:=Tryz.zeroValue374
 t50:=Tryz.underlying272
 a50:=Tryz.isAgg272
 z50:=Tryz.sizeOf272
 v50:=Tryz.zeroValue272
 t53:=Tryz.underlying381
 a53:=Tryz.isAgg381
 z53:=Tryz.sizeOf381
 v53:=Tryz.zeroValue381
 t55:=Tryz.underlying383
 a55:=Tryz.isAgg383
 z55:=Tryz.sizeOf383
 v55:=Tryz.zeroValue383
 t66:=Tryz.underlying409
 a66:=Tryz.isAgg409
 z66:=Tryz.sizeOf409
 v66:=Tryz.zeroValue409
 t70:=Tryz.underlying413
 a70:=Tryz.isAgg413
 z70:=Tryz.sizeOf413
 v70:=Tryz.zeroValue413
 t76:=Tryz.underlying428
 a76:=Tryz.isAgg428
 z76:=Tryz.sizeOf428
 v76:=Tryz.zeroValue428
 t77:=Tryz.underlying359
 a77:=Tryz.isAgg359
 z77:=Tryz.sizeOf359
 v77:=Tryz.zeroValue359 }
def Tryz.Cm:Go.Shelf.Ren:=⟨fun | 6=>317 | 15=>245 | 14=>348 | 28=>312 | 29=>313 | 20=>368 | 21=>369 | 22=>370 | 23=>371 | 24=>372 | 25=>373 | 26=>374 | 27=>375 | 46=>389 | 47=>344 | 48=>345 | 49=>390 | 50=>391 | 57=>399 | n=>n,fun | 22=>39 | 24=>188 | 25=>388 | 3=>3 | 39=>318 | 0=>0 | 53=>381 | 55=>383 | 4=>4 | 46=>374 | 45=>373 | 50=>272 | 5=>5 | 9=>9 | 66=>409 | 70=>413 | 76=>428 | 77=>359 | n=>n,fun | n=>n⟩
theorem Tryz.Cn:Go.Proofs.SlLaysF0.n6 Tryz.prog Tryz.Cm:={
 mixed:=by kernel_rfl
 f6:=⟨Tryz.f317.name,by decide,Tryz.func317.trans (congrArg some (by kernel_rfl))⟩
 f14:=⟨Tryz.f348.name,by decide,Tryz.func348.trans (congrArg some (by kernel_rfl))⟩
 f15:=Tryz.func245.trans (congrArg some (by kernel_rfl))
 f20:=⟨Tryz.f368.name,by decide,Tryz.func368.trans (congrArg some (by kernel_rfl))⟩
 f21:=⟨Tryz.f369.name,by decide,Tryz.func369.trans (congrArg some (by kernel_rfl))⟩
 f22:=⟨Tryz.f370.name,by decide,Tryz.func370.trans (congrArg some (by kernel_rfl))⟩
 f23:=⟨Tryz.f371.name,by decide,Tryz.func371.trans (congrArg some (by kernel_rfl))⟩
 f24:=⟨Tryz.f372.name,by decide,Tryz.func372.trans (congrArg some (by kernel_rfl))⟩
 f25:=⟨Tryz.f373.name,by decide,Tryz.func373.trans (congrArg some (by kernel_rfl))⟩
 f26:=⟨Tryz.f374.name,by decide,Tryz.func374.trans (congrArg some (by kernel_rfl))⟩
 f27:=⟨Tryz.f375.name,by decide,Tryz.func375.trans (congrArg some (by kernel_rfl))⟩
 f28:=Tryz.func312.trans (congrArg some (by kernel_rfl))
 f29:=Tryz.func313.trans (congrArg some (by kernel_rfl))
 f46:=⟨Tryz.f389.name,by decide,Tryz.func389.trans (congrArg some (by kernel_rfl))⟩
 f47:=Tryz.func344.trans (congrArg some (by kernel_rfl))
 f48:=Tryz.func345.trans (congrArg some (by kernel_rfl))
 f49:=⟨Tryz.f390.name,by decide,Tryz.func390.trans (congrArg some (by kernel_rfl))⟩
 f50:=⟨Tryz.f391.name,by decide,Tryz.func391.trans (congrArg some (by kernel_rfl))⟩
 f57:=⟨Tryz.f399.name,by decide,Tryz.func399.trans (congrArg some (by kernel_rfl))⟩
 t0:=Tryz.underlying0
 a0:=Tryz.isAgg0
 z0:=Tryz.sizeOf0
 v0:=Tryz.zeroValue0
 t3:=Tryz.underlying3
 a3:=Tryz.isAgg3
 z3:=Tryz.sizeOf3
 v3:=Tryz.zeroValue3
 t4:=Tryz.underlying4
 a4:=Tryz.isAgg4
 z4:=Tryz.sizeOf4
 v4:=Tryz.zeroValue4
 t5:=Tryz.underlying5
 a5:=Tryz.isAgg5
 z5:=Tryz.sizeOf5
 v5:=Tryz.zeroValue5
 t9:=Tryz.underlying9
 a9:=Tryz.isAgg9
 z9:=Tryz.sizeOf9
 v9:=Tryz.zeroValue9
 t22:=Tryz.underlying39
 a22:=Tryz.isAgg39
 z22:=Tryz.sizeOf39
 v22:=Tryz.zeroValue39
 t25:=Tryz.underlying388
 a25:=Tryz.isAgg388
 z25:=Tryz.sizeOf388
 v25:=Tryz.zeroValue388
 t39:=Tryz.underlying318
 a39:=Tryz.isAgg318
 z39:=Tryz.sizeOf318
 v39:=Tryz.zeroValue318
 t45:=Tryz.underlying373
 a45:=Tryz.isAgg373
 z45:=Tryz.sizeOf373
 v45:=Tryz.zeroValue373
 t46:=Tryz.underlying374
 a46:=Tryz.isAgg374
 z46:=Tryz.sizeOf374
 v46:=Tryz.zeroValue374
 t50:=Tryz.underlying272
 a50:=Tryz.isAgg272
 z50:=Tryz.sizeOf272
 v50:=Tryz.zeroValue272
 t53:=Tryz.underlying381
 a53:=Tryz.isAgg381
 z53:=Tryz.sizeOf381
 v53:=Tryz.zeroValue381
 t55:=Tryz.underlying383
 a55:=Tryz.isAgg383
 z55:=Tryz.sizeOf383
 v55:=Tryz.zeroValue383
 t66:=Tryz.underlying409
 a66:=Tryz.isAgg409
 z66:=Tryz.sizeOf409
 v66:=Tryz.zeroValue409
 t70:=Tryz.underlying413
 a70:=Tryz.isAgg413
 z70:=Tryz.sizeOf413
 v70:=Tryz.zeroValue413
 t76:=Tryz.underlying428
 a76:=Tryz.isAgg428
 z76:=Tryz.sizeOf428
 v76:=Tryz.zeroValue428
 t77:=Tryz.underlying359
 a77:=Tryz.isAgg359
 z77:=Tryz.sizeOf359
 v77:=Tryz.zeroValue359 }
end Go.Proofs
namespace Go.Proofs.A1
open Go Go.SL Go.Shelf Go.Proofs
structure Wy where
 v:Value
 p:List Nat
 f:Nat
def Wy.cells (x:Wy):List Value:=[x.v,.int .i64 (x.f:Nat)]
def nz (p:List Nat):List Int:=p.map fun i:Nat=>(i:Int)
def fN (p:List Nat):List Value:=p.map fun i=>.int .i64 (i:Nat)
def RQ (l:List Wy):List (List Value):=l.map Wy.cells
def mr (l:List Wy):List Value:=(RQ l).flatten
theorem xu (p:List Nat):(fN p).map (fun u=>[u])=ints (nz p):=by simp [fN,ints,nz]
theorem rI (p:List Nat):(nz p).length=p.length:=by simp [nz]
def RU (a b:Nat×List Nat):Int:=aW [j7 a.1 b.1,j7 (a.2.length:Nat) (b.2.length:Nat),lj (nz a.2) (nz b.2)]
def wl (a b:Nat×List Nat):Bool:=decide (a.1<b.1)||(decide (a.1=b.1)&&(decide (a.2.length<b.2.length)||(decide (a.2.length=b.2.length)&&lexB a.2 b.2)))
theorem vm {x y:Int}:j7 x y<0↔x<y:=by
 unfold j7
 split
 ·constructor <;> intro _ <;> omega
 ·split <;> constructor <;> intro _ <;> omega
theorem By:∀ {a b:List Nat},a.length=b.length→(lj (nz a) (nz b)<0↔lexB a b=true)
 | [],[],_=>by simp [nz,lj,lexB]
 | [],_::_,h=>by simp at h
 | _::_,[],h=>by simp at h
 | x :: a, y :: b, h => by
  have ih:=By (a:=a) (b:=b) (by simpa using h)
  show (if j7 x y≠0 then j7 x y else lj (nz a) (nz b))<0↔_
  unfold lexB
  by_cases e:(x:Int)=y
  ·rw [if_neg (not_not_intro (iq.2 e)),ih]
   have e':x=y:=by exact_mod_cast e
   simp [e']
  ·rw [if_pos (fun q=>e (iq.1 q)),vm]
   have e':¬ x=y:=fun q=>e (by rw [q])
   simp [e']
theorem Du (a b:Nat×List Nat):RU a b<0↔wl a b=true:=by
 unfold RU wl aW
 by_cases h1:(a.1:Int)=b.1
 ·rw [if_neg (not_not_intro (iq.2 h1))]
  have zR:a.1=b.1:=by exact_mod_cast h1
  unfold aW
  by_cases h2:((a.2.length:Nat):Int)=(b.2.length:Nat)
  ·rw [if_neg (not_not_intro (iq.2 h2))]
   have FH:a.2.length=b.2.length:=by exact_mod_cast h2
   have h3:=By FH
   unfold aW
   by_cases h4:lj (nz a.2) (nz b.2)=0
   ·rw [if_neg (not_not_intro h4)]
    rw [h4] at h3
    simp [aW,zR,FH]
    have:=h3.symm
    simpa using this
   ·rw [if_pos h4,h3]
    simp [zR,FH]
  ·rw [if_pos (fun q=>h2 (iq.1 q)),vm]
   have FH:¬ a.2.length=b.2.length:=fun q=>h2 (by rw [q])
   simp [zR,FH]
 ·rw [if_pos (fun q=>h1 (iq.1 q)),vm]
  have zR:¬ a.1=b.1:=fun q=>h1 (by rw [q])
  simp [zR]
theorem wA (a:Nat×List Nat):wl a a=false:=by unfold wl;rw [nQ];simp
theorem zU {a b c:Nat×List Nat} (h1:wl a b=true) (h2:wl b c=true):wl a c=true:=by
 unfold wl at *
 simp only [Bool.or_eq_true,Bool.and_eq_true,decide_eq_true_eq] at *
 rcases h1 with h1 | ⟨e1,h1 | ⟨e2,h1⟩⟩ <;> rcases h2 with h2 | ⟨g1,h2 | ⟨g2,h2⟩⟩
 ·exact .inl (by omega)
 ·exact .inl (by omega)
 ·exact .inl (by omega)
 ·exact .inl (by omega)
 ·exact .inr ⟨by omega,.inl (by omega)⟩
 ·exact .inr ⟨by omega,.inl (by omega)⟩
 ·exact .inl (by omega)
 ·exact .inr ⟨by omega,.inl (by omega)⟩
 ·exact .inr ⟨by omega,.inr ⟨by omega,pK h1 h2⟩⟩
theorem Gj {a b:Nat×List Nat} (h:a≠b):wl a b=true∨wl b a=true:=by
 unfold wl
 simp only [Bool.or_eq_true,Bool.and_eq_true,decide_eq_true_eq]
 rcases Nat.lt_trichotomy a.1 b.1 with h1 | h1 | h1
 ·exact .inl (.inl h1)
 ·rcases Nat.lt_trichotomy a.2.length b.2.length with h2 | h2 | h2
  ·exact .inl (.inr ⟨h1,.inl h2⟩)
  ·have hne:a.2≠b.2:=fun e=>h (Prod.ext h1 e)
   rcases pL h2 hne with h3 | h3
   ·exact .inl (.inr ⟨h1,.inr ⟨h2,h3⟩⟩)
   ·exact .inr (.inr ⟨h1.symm,.inr ⟨h2.symm,h3⟩⟩)
  ·exact .inr (.inr ⟨h1.symm,.inl h2⟩)
 ·exact .inr (.inl h1)
theorem OT {α:Type} (g:α→Nat×List Nat):Go.Sort.SWO (ltOf fun x y:α=>RU (g x) (g y)):=by
 have e:∀ x y:α,ltOf (fun x y:α=>RU (g x) (g y)) x y=wl (g x) (g y):=fun x y=>by
  unfold ltOf
  rw [Bool.eq_iff_iff,decide_eq_true_eq]
  exact Du _ _
 constructor
 ·intro x;rw [e];exact wA _
 ·intro x y z h1 h2;rw [e] at *;exact zU h1 h2
 ·intro x y z h1 h2
  rw [e] at *
  by_cases h:wl (g x) (g z)=true
  ·by_cases e1:g x=g y
   ·rw [e1,h2] at h;cases h
   ·rcases Gj e1 with h3 | h3
    ·rw [h1] at h3;cases h3
    ·rw [zU h3 h] at h2;cases h2
  ·simpa using h
theorem Sp {v:Value} {cs:List Value} {es:List Int} {w:World} (h:Rd w v 1 (cs.map fun v=>[v])) (hl:bP cs es):aj Tryz.prog 319 [v] w (.int .i64 (aW es)):=
 Sq (by rw [← hl.eq];exact h)
theorem OV {v1 v2:Value} {p q:List Nat} {f1 f2:Nat} {w:World} (h1:Rd w v1 1 (ints (nz p))) (h2:Rd w v2 1 (ints (nz q))) :
  aj Tryz.prog 261 [.agg #[v1,.int .i64 (f1:Nat)],.agg #[v2,.int .i64 (f2:Nat)]] w (.int .i64 (RU (f1,p) (f2,q))):=by
 have W4:∀ w',aG [] w w'→aj Tryz.prog 236 [v1,v2] w' (.int .i64 (lj (nz p) (nz q))):=fun w' hk=>xO (h1.keeps hk) (h2.keeps hk)
 obtain ⟨a,cp,b,o,rfl,db,bT,ha,hc⟩:=h1
 rw [bW,rI] at *
 obtain ⟨a',RN,b',o',rfl,od,N5,cE,UX⟩:=h2
 rw [bW,rI] at *
 have iF:=W4
 refine ah Tryz.func261 rfl rfl ?_
 refine Jr<|Jy rfl rfl fun _ _=>Jy rfl rfl fun _ _=>Ja rfl<|Jn<|Jq ?_
 with_reducible refine cC 18 (by kernel_rfl) ?_
 (refine ak j9 rfl ?_;refine ak (gz (.there .here)) rfl ?_;refine ak j9 rfl ?_;refine ak (gz .here) rfl ?_;refine aT aZ rfl (fun w' au=>(Bx _ _ w')) ?_;refine ak j9 rfl ?_;refine ak (gz (.there .here)) rfl ?_;refine ak (bZ (.of rfl)) rfl ?_;refine ak j9 rfl ?_;refine ak (gz .here) rfl ?_;refine ak (bZ (.of rfl)) rfl ?_;refine aT aZ rfl (fun w' au=>(Bx _ _ w')) ?_;refine ak j9 rfl ?_;refine ak (gz (.there .here)) rfl ?_;refine ak j9 rfl ?_;refine ak (gz .here) rfl ?_;refine aT aZ rfl (fun w' au=>(iF w' (Mem.keeps au))) ?_;refine dX (aA (.cons (.of rfl) (.cons (.of rfl) (.cons (.of rfl) .nil))) rfl rfl rfl rfl) rfl rfl ?_)
 with_reducible refine df rfl fun bq mg=>?_
 (refine ai bI rfl (fun w' au=>(Sp (Mem.dh au .here rfl rfl) (bP.cons (bP.cons (bP.cons bP.nil))))) ?_;refine Ja rfl<|Jn<|Je<|JT ?_)
 rfl
theorem OQ (l:List Wy):∀ r∈RQ l,r.length=2:=fun r hr=>by obtain ⟨x,_,rfl⟩:=List.mem_map.1 hr;rfl
theorem oH (l:List Wy):(mr l).length=l.length*2:=by unfold mr;rw [fQ (OQ l)];unfold RQ;rw [Zd]
theorem KO (a b:List Wy):mr (a++b)=mr a++mr b:=by unfold mr RQ;rw [List.map_append,List.flatten_append]
def ir (j8:List Wy):a8:=mE 3 (j8.map Wy.v) (j8.map fun x=>fN x.p)
theorem EG {w:World} {j8:List Wy} {fp:List Nat} (hn:fp.Nodup) (hs:bY (hp w) [ir j8] fp) {x:Wy} (hx:x∈j8):Rd w x.v 1 (ints (nz x.p)):=by
 obtain ⟨j,hj,rfl⟩:=List.getElem_of_mem hx
 have hm:Mem ⟨w,fp,0⟩ [ir j8] w:=⟨.refl _ _,fp,hn,hs,fun b hb=>.inr hb⟩
 have:=hm.Cu (j:=j) (v:=(j8[j]).v) (x:=fN (j8[j]).p) .here (by simp [hj]) (by simp [hj])
 rwa [xu] at this
theorem Di {c:Cx} {hs hs':List a8} {w:World} (hm:Mem c hs w) {j8:List Wy} (ht:Take hs (ir j8) hs') {x:Wy} (hx:x∈j8):Rd w x.v 1 (ints (nz x.p)):=by
 obtain ⟨j,hj,rfl⟩:=List.getElem_of_mem hx
 have:=hm.Cu (j:=j) (v:=(j8[j]).v) (x:=fN (j8[j]).p) ht (by simp [hj]) (by simp [hj])
 rwa [xu] at this
theorem bY.one {h:Nat→Option Obj} {A:a8} {fp:List Nat} (hs:bY h [A] fp):A.sat h fp:=by
 obtain ⟨f1,f2,rfl,h1,h2⟩:=hs
 obtain rfl:f2=[]:=h2
 rwa [List.append_nil]
theorem GP {v:Value} {n:Nat} {l j8:List Wy} {w:World} {fp:List Nat} (kQ:fp.Nodup) (hs:bY (hp w) [kd 244 2 v n (mr l),ir j8] fp) (hn:n=l.length) (iD:∀ x∈l,x∈j8) (cG:n≤1000000) (U2:∀ x∈j8,x.v.oneCell'=true) :
  bd Tryz.prog 260 [v,.func (.func 261) #[] #[]] w fp (fun l':List Wy=>l'.Perm l∧l'.Pairwise (fun x y=>wl (y.f,y.p) (x.f,x.p)=false)) (fun _=>.tuple #[]) (fun l'=>[kd 244 2 v n (mr l'),ir j8]):=by
 obtain ⟨f1,f2,rfl,h1,h2⟩:=hs
 obtain ⟨hlen,h1⟩:=h1
 have Ql:=(List.nodup_append.1 kQ).2.1
 have kp:=(List.nodup_append.1 kQ).2.2
 rcases h1 with ⟨rfl,rfl,h0⟩ | ⟨g,off,cap,cur,rfl,rfl,hg,jJ,jq,hfit,htk⟩
 ·have me:l=[]:=List.eq_nil_of_length_eq_zero (by omega)
  subst me
  refine (AnyF.slices_SortFunc_none Tryz.Cl none 0 (.func (.func 261) #[] #[]) w).mono fun e w' ⟨he,hw⟩=>?_
  subst hw
  exact ⟨[],he,⟨.refl _,.nil⟩,.refl _ _,[]++f2,by simpa using Ql,⟨[],f2,rfl,⟨hlen,.inl ⟨rfl,rfl,h0⟩⟩,h2⟩,fun b hb=>.inl hb⟩
 ·subst hn
  have Oi:g<w.heap.size:=(Array.getElem?_eq_some_iff.1 hg).1
  by_cases me:l=[]
  ·subst me
   refine (AnyF.slices_SortFunc_none Tryz.Cl (some ⟨g,off,none⟩) cap (.func (.func 261) #[] #[]) w).mono fun e w' ⟨he,hw⟩=>?_
   subst hw
   exact ⟨[],he,⟨.refl _,.nil⟩,.refl _ _,[g]++f2,kQ,⟨[g],f2,rfl,⟨hlen,.inr ⟨g,off,cap,cur,rfl,rfl,hg,jJ,jq,hfit,htk⟩⟩,h2⟩,fun b hb=>.inl hb⟩
  obtain ⟨x0,PW⟩:=List.exists_mem_of_ne_nil l me
  let α:={x:Wy // x∈j8}
  let _:Inhabited α:=⟨⟨x0,iD x0 PW⟩⟩
  let enc:α→List Value:=fun x=>x.1.cells
  have hle:l.length*2≤cap*2:=Nat.mul_le_mul_right _ jJ
  have Oe:cur.size=cur.toList.length:=by simp
  have mP:cur=(cur.toList.take off++mr l++cur.toList.drop (off+l.length*2)).toArray:=by
   apply Array.ext'
   show cur.toList=_
   rw [← htk]
   conv=>lhs;rw [← List.take_append_drop off cur.toList]
   rw [Zh]
   congr 1
   conv=>lhs;rw [← List.take_append_drop (l.length*2) (cur.toList.drop off)]
   rw [List.drop_drop]
  have zL:(cur.toList.take off).length=off:=by rw [List.length_take];omega
  generalize km:cur.toList.take off=pre at mP zL
  generalize S5:cur.toList.drop (off+l.length*2)=post at mP
  let la:List α:=l.attach.map fun x=>⟨x.1,iD x.1 x.2⟩
  have Qn:la.map (fun x:α=>x.1)=l:=by
   show (l.attach.map fun x=>(⟨x.1,iD x.1 x.2⟩:α)).map (fun x:α=>x.1)=l
   rw [List.map_map]
   exact List.attach_map_subtype_val l
  have Ba:∀ m:List α,(m.map enc).flatten=mr (m.map fun x:α=>x.1):=fun m=>by
   unfold mr RQ
   rw [List.map_map];rfl
  have CV:la.length=l.length:=by
   show (l.attach.map fun x=>(⟨x.1,iD x.1 x.2⟩:α)).length=_
   rw [Zd,List.length_attach]
  have tb:w.heap[g]? = some (.cells (pre++(la.map enc).flatten++post).toArray 244 (0,0)):=by rw [Ba,Qn,← mP];exact hg
  have key:=Ai Tryz.Cl (k:=2) Tryz.isAgg244 Tryz.sizeOf244 (enc:=enc) (fun _=>rfl)
   (fun x u hu=>by
    have hx:=U2 x.1 x.2
    simp only [enc,Wy.cells,List.mem_cons,List.not_mem_nil,or_false] at hu
    rcases hu with rfl | rfl
    ·exact hx
    ·rfl)
   (OT (fun x:α=>(x.1.f,x.1.p))) (g:=261) (b:=g) (cap:=cap) (cb:=#[]) (l:=la) (pre:=pre) (cur:=post) (E:=244) (w:=w)
   (enters_of Tryz.func261 (by kernel_rfl) rfl) tb (by rw [CV];omega)
   (fun w' hk x y=>by
    have hp:bY (hp w') [ir j8] f2:=bY.loc h2 fun b hb=>by
     have Oh:b<w.heap.size:=by
      obtain ⟨o,ho⟩:=bY.own h2 b hb
      exact jQ ho
     exact hk.block b Oh (fun e=>kp g (by simp) b hb (List.mem_singleton.1 e).symm)
    exact OV (EG Ql hp x.2) (EG Ql hp y.2))
  rw [CV,zL] at key
  refine Calls.mono key ?_
  rintro e w' ⟨he,l',gU,V5,hk,dy⟩
  have xC:(l'.map fun x:α=>x.1).length=l.length:=by rw [Zd,gU.length_eq,CV]
  rw [Ba] at dy
  refine ⟨l'.map fun x:α=>x.1,he,⟨?_,?_⟩,hk.mono (by simp),[g]++f2,kQ,⟨[g],f2,rfl,?_,bY.loc h2 fun b hb=>?_⟩,fun b hb=>.inl hb⟩
  ·have:=gU.map (fun x:α=>x.1)
   rwa [Qn] at this
  ·rw [List.pairwise_map]
   refine V5.imp fun {x y} h=>?_
   unfold ltOf at h
   rw [decide_eq_false_iff_not,Du] at h
   simpa using h
  ·have hr:=w7 (n:=l.length) (sz:=2) (cap:=cap) (fp:=[g]) (h:=hp w') ⟨rfl,dy⟩ zL jJ jq (by
    have:=congrArg (fun x:Array Value=>x.toList.length) mP
    simp only [Array.length_toList,Zg,oH] at this
    rw [Zg,Zg,oH,xC,← this];exact hfit) (by rw [oH,xC])
   exact hr
  ·have Oh:b<w.heap.size:=by
    obtain ⟨o,ho⟩:=bY.own h2 b hb
    exact jQ ho
   exact hk.block b Oh (fun e=>kp g (by simp) b hb (List.mem_singleton.1 e).symm)
end Go.Proofs.A1
namespace Go.Proofs.A1
open Go Go.SL
theorem II {α:Type} {q:α→Bool} {l:List α} {k:Nat} (h:k<l.length) (hq:q l[k]=true):(l.filter q)[((l.take k).filter q).length]? = some l[k]:=by
 have e:l=l.take k++l[k]::l.drop (k+1):=by rw [← List.drop_eq_getElem_cons h,List.take_append_drop]
 have:l.filter q=(l.take k).filter q++l[k]::(l.drop (k+1)).filter q:=by
  conv=>lhs;rw [e]
  rw [List.filter_append,List.filter_cons_of_pos hq]
 rw [this,List.getElem?_append_right (Nat.le_refl _),Nat.sub_self];rfl
def Bo (r:Ro) (v m:Int) (i:Nat):Bool:=decide ((fJ r i).fr=m)&&!fV r.po v (gn r i)
def fo (r:Ro) (v m:Int) (k:Nat):List Nat:=(List.range k).filter (Bo r v m)
def Ky (r:Ro) (v m:Int):List (List Value):=(fo r v m r.ti.length).map fun i=>[.int .i64 (i:Nat),.agg (fJ r i).cells.toArray]
theorem tI (r:Ro) (v m:Int):(Ky r v m).length=(fo r v m r.ti.length).length:=by simp [Ky]
theorem rR (r:Ro) (v m:Int) (k:Nat):fo r v m (k+1)=fo r v m k++if Bo r v m k then [k] else []:=by
 unfold fo
 rw [List.range_succ,List.filter_append]
 congr 1
 by_cases h:Bo r v m k=true
 ·rw [List.filter_cons_of_pos h,if_pos h];rfl
 ·rw [List.filter_cons_of_neg h,if_neg h];rfl
theorem L4 {r:Ro} {v m:Int} {k:Nat} (h:k<r.ti.length) (hq:Bo r v m k=true):(Ky r v m)[(fo r v m k).length]? = some [.int .i64 (k:Nat),.agg (fJ r k).cells.toArray]:=by
 have h1:=II (l:=List.range r.ti.length) (q:=Bo r v m) (k:=k) (by rw [List.length_range];exact h) (by rw [List.getElem_range];exact hq)
 rw [List.take_range,Nat.min_eq_left (by omega),List.getElem_range] at h1
 unfold Ky fo
 rw [List.getElem?_map,h1];rfl
theorem CJ {r:Ro} {v m:Int} {k:Nat} {vs:List Value} (h:(Ky r v m)[k]? = some vs):∃ i,(fo r v m r.ti.length)[k]? = some i∧vs=[.int .i64 (i:Nat),.agg (fJ r i).cells.toArray]∧i<r.ti.length∧Bo r v m i=true:=by
 unfold Ky at h
 rw [List.getElem?_map,Option.map_eq_some_iff] at h
 obtain ⟨i,hi,rfl⟩:=h
 have hm:=List.mem_of_getElem? hi
 unfold fo at hm
 rw [List.mem_filter,List.mem_range] at hm
 exact ⟨i,hi,rfl,hm.1,hm.2⟩
theorem mB {r:Ro} {i:Nat} (h:i<r.ti.length):fJ r i=r.ti[i]:=by
 unfold fJ;rw [List.getD_eq_getElem?_getD,Zc h];rfl
theorem DS {P:Program} {c:Cx} {sl:aI} {hs:List a8} {dst:Option Tmp} {ty:TypeId} {pos:String} {af:Array Edge} {g:Option (Nat×Bool)} {k:IntKind} {t u:TypeId} {x y:Operand} {a b:Int} (hx:Is sl x (.int k a)) (hy:Is sl y (.int k b)) (e:a=b) :
  cL P c sl hs ⟨dst,.binOp .eql t x y u,ty,pos,af,g⟩ (.bool true):=by
 have:=kN (P:=P) (c:=c) (hs:=hs) (dst:=dst) (ty:=ty) (pos:=pos) (af:=af) (g:=g) (t:=t) (u:=u) hx hy
 rwa [decide_eq_true e] at this
theorem Lv {P:Program} {c:Cx} {sl:aI} {hs:List a8} {dst:Option Tmp} {ty:TypeId} {pos:String} {af:Array Edge} {g:Option (Nat×Bool)} {k:IntKind} {t u:TypeId} {x y:Operand} {a b:Int} (hx:Is sl x (.int k a)) (hy:Is sl y (.int k b)) (e:a≠b) :
  cL P c sl hs ⟨dst,.binOp .eql t x y u,ty,pos,af,g⟩ (.bool false):=by
 have:=kN (P:=P) (c:=c) (hs:=hs) (dst:=dst) (ty:=ty) (pos:=pos) (af:=af) (g:=g) (t:=t) (u:=u) hx hy
 rwa [decide_eq_false e] at this
theorem cI {P:Program} {c:Cx} {sl:aI} {hs:List a8} {dst:Option Tmp} {ty:TypeId} {pos:String} {af:Array Edge} {g:Option (Nat×Bool)} {x y z:Operand} {q:Bool} {v u:Value} (hx:Is sl x (.bool q)) (hy:Is sl y v) (hz:Is sl z u) (e:(bif q then v else u)=Value.bool false):cL P c sl hs ⟨dst,.pick x y z,ty,pos,af,g⟩ (.bool false):=e ▸ tz hx hy hz
theorem eG {P:Program} {c:Cx} {sl:aI} {hs:List a8} {dst:Option Tmp} {ty:TypeId} {pos:String} {af:Array Edge} {g:Option (Nat×Bool)} {x y z:Operand} {q:Bool} {v u:Value} (hx:Is sl x (.bool q)) (hy:Is sl y v) (hz:Is sl z u) (e:(bif q then v else u)=Value.bool true):cL P c sl hs ⟨dst,.pick x y z,ty,pos,af,g⟩ (.bool true):=e ▸ tz hx hy hz
theorem rL {r:Ro} {s d t p:Value} (v m:Int) {w w1:World} (h:RR w1 r s d t p) :
  bd Tryz.prog 153 [RA r s d t p,.int .i64 v,.int .i64 m] w [] (fun _:Nat×Nat×Nat=>True) (fun x=>.func (.func 240) #[] #[.pointer (some ⟨x.1,0,none⟩),.pointer (some ⟨x.2.1,0,none⟩),.pointer (some ⟨x.2.2,0,none⟩)])
   (fun x=>[JP x.1 r s d t p,bA x.2.1 (.cells #[.int .i64 m] 3 (0,0)),bA x.2.2 (.cells #[.int .i64 v] 3 (0,0))]):=by
 have h1:=Rd.one h.sr
 have h2:=Rd.one h.de
 have h3:=Rd.one h.ti
 have h4:=Rd.one h.po
 unfold RA
 refine aQ Tryz.func153 rfl rfl ?_
 (refine Jr<|Jy rfl rfl fun _ _=>Jy rfl rfl fun _ _=>Jy rfl rfl fun _ _=>Ja rfl<|Ji<|ab (bn .nil (.cons (.of rfl) (.cons (.of rfl) (.cons (.of rfl) .nil)))) rfl ?_;refine Ja rfl<|Jn<|Je ?_)
 rename_i b3 sZ b4 u9 b5 KF
 first | with_reducible apply aM | with_reducible apply aN
 case he=>exact dp rfl rfl
 case hR=>
  intro w' au
  exact aB (b3,b5,b4) trivial (by exact .cons bN (.cons .here (.cons .here .nil))) au rfl
set_option maxHeartbeats 1000000 in
theorem HF {r:Ro} {s d t p:Value} {b1 b2 b3:Nat} (v m:Int) {w0 w:World} {md:List Nat} (h:RR w0 r s d t p) (hn:RO md r s d t p) (cG:r.ti.length≤1000000) :
  Iter Tryz.prog 240 [] [.pointer (some ⟨b1,0,none⟩),.pointer (some ⟨b2,0,none⟩),.pointer (some ⟨b3,0,none⟩)] [JP b1 r s d t p,bA b2 (.cells #[.int .i64 m] 3 (0,0)),bA b3 (.cells #[.int .i64 v] 3 (0,0))] (Ky r v m) w0 md w:=by
 intro l fp J E hB hF kQ hs hy
 have hR:=h.iV hn hB
 have hO:=h.out hn hF
 rw [tI]
 have h1:=Rd.one hR.sr
 have h2:=Rd.one hR.de
 have h4:=Rd.one hR.po
 have hti:=hR.ti
 have ZP:=hO.ti
 obtain ⟨a,cp,b,o',rfl,db,bT,ha,hc⟩:=hti
 rw [bJ] at *
 unfold maxLen at bT
 refine dV Tryz.func240 rfl rfl kQ hs ?_
 (refine Jr<|bF rfl rfl ae ?_;refine JL rfl (.there .here) rfl<|JI rfl<|Jv rfl<|Jn<|J0 ?_)
 refine aX (fun k:Nat=>k≤r.ti.length) (fun k=>[(10,.int .i64 (k:Nat)),(9,.int .i64 (r.ti.length:Nat)),(8,.slice a r.ti.length cp),(0,.func (.yield l) #[] #[]),(1,.pointer (some ⟨b1,0,none⟩)),(2,.pointer (some ⟨b2,0,none⟩)),(3,.pointer (some ⟨b3,0,none⟩))])
  (fun k=>[J (fo r v m k).length,JP b1 r s d (.slice a r.ti.length cp) p,bA b2 (.cells #[.int .i64 m] 3 (0,0)),bA b3 (.cells #[.int .i64 v] 3 (0,0))]) (fun k=>r.ti.length-k) ?_ ?_
 ·apply aJ 0 (by omega)
  case hs1=>exact cd
  case ht=>
   exact .cons .here (.cons .here (.cons .here (.cons .here .nil)))
 intro k hk
 by_cases aL:k<r.ti.length
 ·have cE:=ha (eT aL)
  have aC:=(hc k _ (dQ aL)).2
  have Wj:b ∉ fp:=ZP (eT aL) b (by rw [cE];rfl)
  unfold Ti.cells at aC
  have Bh:∀ w',aG fp w w'→aj Tryz.prog 121 [.agg #[.int .i64 r.lv,.int .i64 r.ma,s,d,.slice a r.ti.length cp,p],.int .i64 v,.string (r.ti[k]).nm] w' (.bool (fV r.po v (r.ti[k]).nm)):=fun w' hk=>pY v _ (hR.iV hO hk)
  have y8:=mB aL
  have xz:gn r k=(r.ti[k]).nm:=by unfold gn;rw [y8]
  by_cases wc:(r.ti[k]).fr=m
  ·cases zP:fV r.po v (r.ti[k]).nm with
   | true =>
    have Bi:∀ w',aG fp w w'→aj Tryz.prog 121 [.agg #[.int .i64 r.lv,.int .i64 r.ma,s,d,.slice a r.ti.length cp,p],.int .i64 v,.string (r.ti[k]).nm] w' (.bool true):=fun w' hk=>zP ▸ Bh w' hk
    have hq:Bo r v m k=false:=by unfold Bo;rw [xz,zP];simp
    have H5:fo r v m (k+1)=fo r v m k:=by rw [rR,if_neg (by rw [hq];decide),List.append_nil]
    (refine Jr<|JA rfl<|Jn<|Jq<|Jd rfl fun ar=>Jk<|Jq<|J0<|Jr<|Jv rfl<|ab (fH cE ar) rfl ?_;refine ab (jh (.of rfl) (eF.BH aC Wj) rfl) rfl ?_;refine Jz rfl rfl fun _ _=>Ja rfl<|aq (.of rfl) (.of rfl) .here rfl rfl (fh rfl rfl rfl) (bC rfl) an ?_;refine Ji<|bF rfl rfl ae ?_;refine JL rfl .here rfl<|JL rfl cX rfl<|ab (DS (.of rfl) (.of rfl) wc) rfl ?_;refine Jv rfl<|JK rfl rfl<|ab (cz bN) rfl ?_;refine JK rfl rfl<|JL rfl eR rfl<|JK rfl rfl<|bF rfl rfl ae ?_;refine JK rfl rfl<|JL rfl .here rfl<|JK rfl rfl<|ai eh rfl (fun w' au=>(Bi w' (Mem.keeps au))) ?_;refine JK rfl rfl<|JH rfl<|ab (cI (.of rfl) (.of rfl) (.of rfl) rfl) rfl ?_;refine Jv rfl<|je rfl rfl rfl rfl ?_;refine je rfl rfl rfl rfl ?_;refine aF rfl rfl inferInstance (fun hg bj=>(cA (.of rfl) .here an (by rfl))) rfl ?_;refine ew rfl rfl rfl rfl ?_;refine aF rfl rfl inferInstance (fun hg bj=>(eU (.bE bj rfl))) rfl ?_;refine ab (cI (.of rfl) (.of rfl) (.of rfl) rfl) rfl ?_;refine Jn<|bL (.of rfl) ?_;refine Jw<|Jj<|Jt<|Jg<|JB rfl (by omega)<|Jv rfl<|Jn ?_)
    apply aK (k+1) (by omega) (by omega)
    case hs1=>exact cd
    case ht=>
     rw [H5]
     exact .cons (.there .here) (.cons (.there .here) (.cons (.there .here) (.cons (.there .here) .nil)))
   | false =>
    have Bi:∀ w',aG fp w w'→aj Tryz.prog 121 [.agg #[.int .i64 r.lv,.int .i64 r.ma,s,d,.slice a r.ti.length cp,p],.int .i64 v,.string (r.ti[k]).nm] w' (.bool false):=fun w' hk=>zP ▸ Bh w' hk
    have hq:Bo r v m k=true:=by unfold Bo;rw [xz,zP,y8,decide_eq_true wc];rfl
    have H5:fo r v m (k+1)=fo r v m k++[k]:=by rw [rR,if_pos hq]
    have Qo:(fo r v m (k+1)).length=(fo r v m k).length+1:=by rw [H5];simp
    have SC:=hy _ _ (L4 aL hq)
    rw [y8] at SC
    (refine Jr<|JA rfl<|Jn<|Jq<|Jd rfl fun ar=>Jk<|Jq<|J0<|Jr<|Jv rfl<|ab (fH cE ar) rfl ?_;refine ab (jh (.of rfl) (eF.BH aC Wj) rfl) rfl ?_;refine Jz rfl rfl fun _ _=>Ja rfl<|aq (.of rfl) (.of rfl) .here rfl rfl (fh rfl rfl rfl) (bC rfl) an ?_;refine Ji<|bF rfl rfl ae ?_;refine JL rfl .here rfl<|JL rfl cX rfl<|ab (DS (.of rfl) (.of rfl) wc) rfl ?_;refine Jv rfl<|JK rfl rfl<|ab (cz bN) rfl ?_;refine JK rfl rfl<|JL rfl eR rfl<|JK rfl rfl<|bF rfl rfl ae ?_;refine JK rfl rfl<|JL rfl .here rfl<|JK rfl rfl<|ai eh rfl (fun w' au=>(Bi w' (Mem.keeps au))) ?_;refine JK rfl rfl<|JH rfl<|ab (eG (.of rfl) (.of rfl) (.of rfl) rfl) rfl ?_;refine Jv rfl<|JK rfl rfl<|Jv rfl<|JK rfl rfl<|Jv rfl<|JK rfl rfl<|ab (cz .here) rfl ?_;refine JK rfl rfl ?_)
    unfold Ti.cells at SC
    with_reducible apply wG hB hF SC
    case hx=>exact Is.of rfl
    case ha=>exact .cons (.of rfl) (.cons (.of rfl) .nil)
    case hd=>rfl
    case ht=>exact Take.there .here
    intro q
    cases q with
    | false =>
     simp only [cond_false]
     (refine JK rfl rfl<|JH rfl<|ab (eG (.of rfl) (.of rfl) (.of rfl) rfl) rfl ?_;refine Jn<|cB (.of rfl) ?_;refine Je<|Jm<|Jh<|Jh<|Jm ?_)
     first | with_reducible apply aM | with_reducible apply aN
     case he=>exact py rfl
     case hR=>
      intro w' au
      exact aB false trivial (by exact .cons .here (.cons (.there .here) (.cons (.there .here) (.cons (.there .here) .nil)))) au rfl
    | true =>
     simp only [cond_true]
     (refine JK rfl rfl<|JH rfl<|ab (cI (.of rfl) (.of rfl) (.of rfl) rfl) rfl ?_;refine Jn<|bL (.of rfl) ?_;refine Jw<|Jj<|Jt<|Jg<|JB rfl (by omega)<|Jv rfl<|Jn ?_)
     apply aK (k+1) (by omega) (by omega)
     case hs1=>exact cd
     case ht=>
      rw [Qo]
      exact .cons .here (.cons (.there .here) (.cons (.there .here) (.cons (.there .here) .nil)))
  ·have hq:Bo r v m k=false:=by unfold Bo;rw [y8,decide_eq_false wc];rfl
   have H5:fo r v m (k+1)=fo r v m k:=by rw [rR,if_neg (by rw [hq];decide),List.append_nil]
   (refine Jr<|JA rfl<|Jn<|Jq<|Jd rfl fun ar=>Jk<|Jq<|J0<|Jr<|Jv rfl<|ab (fH cE ar) rfl ?_;refine ab (jh (.of rfl) (eF.BH aC Wj) rfl) rfl ?_;refine Jz rfl rfl fun _ _=>Ja rfl<|aq (.of rfl) (.of rfl) .here rfl rfl (fh rfl rfl rfl) (bC rfl) an ?_;refine Ji<|bF rfl rfl ae ?_;refine JL rfl .here rfl<|JL rfl cX rfl<|ab (Lv (.of rfl) (.of rfl) wc) rfl ?_;refine Jv rfl<|aF rfl rfl inferInstance (fun hg bj=>(cA (.of rfl) bN an (by rfl))) rfl ?_;refine aF rfl rfl inferInstance (fun hg bj=>(ag (.of rfl) (At.lit eR rfl))) rfl ?_;refine aF rfl rfl inferInstance (fun hg bj=>(ao (.of rfl) ae)) rfl ?_;refine aF rfl rfl inferInstance (fun hg bj=>(ag (.bE bj rfl) (At.lit .here rfl))) rfl ?_;refine ew rfl rfl rfl rfl ?_;refine aF rfl rfl inferInstance (fun hg bj=>(eU (.bE bj rfl))) rfl ?_;refine ab (cI (.of rfl) (.of rfl) (.of rfl) rfl) rfl ?_;refine Jv rfl<|je rfl rfl rfl rfl ?_;refine je rfl rfl rfl rfl ?_;refine aF rfl rfl inferInstance (fun hg bj=>(cA (.of rfl) .here an (by rfl))) rfl ?_;refine ew rfl rfl rfl rfl ?_;refine aF rfl rfl inferInstance (fun hg bj=>(eU (.bE bj rfl))) rfl ?_;refine ab (cI (.of rfl) (.of rfl) (.of rfl) rfl) rfl ?_;refine Jn<|bL (.of rfl) ?_;refine Jw<|Jj<|Jt<|Jg<|JB rfl (by omega)<|Jv rfl<|Jn ?_)
   apply aK (k+1) (by omega) (by omega)
   case hs1=>exact cd
   case ht=>
    rw [H5]
    exact .cons (.there .here) (.cons (.there .here) (.cons (.there .here) (.cons (.there .here) .nil)))
 ·obtain rfl:k=r.ti.length:=by omega
  refine Jr<|JA rfl<|Jn<|Jq<|Jc rfl fun ar=>Jp<|Jl<|Jo ?_
  first | with_reducible apply aM | with_reducible apply aN
  case he=>exact py rfl
  case hR=>
   intro w' au
   exact aB true trivial (by exact .cons .here (.cons .here (.cons .here (.cons .here .nil)))) au rfl
theorem A4 (l:List Int):∀ r∈ints l,∀ u∈r,u.oneCell'=true:=fun r hr=>by obtain ⟨x,_,rfl⟩:=List.mem_map.1 hr;exact bD rfl fZ
theorem rM (l:List Int):l.map (Value.int .i64)=(ints l).flatten:=by
 induction l with
 | nil=>rfl
 | cons x l ih=>show [Value.int .i64 x]++l.map (Value.int .i64)=_;rw [ih];rfl
theorem M8 {lv:Value} {l:List Int} {w:World} (h:Rd w lv 1 (ints l)) (hl:l.length≤1000) :
  bd Tryz.prog 262 [lv] w [] (fun _:Value=>True) id (fun v=>[row 3 1 v l.length (l.map (.int .i64))]):=by
 have h':=h
 obtain ⟨a,cp,b,o,rfl,db,bT,ha,hc⟩:=h
 refine aQ Tryz.func262 rfl rfl ?_
 cases a with
 | none =>
  have me:l=[]:=by
   cases l with
   | nil=>rfl
   | cons x r=>exact absurd (ha (by simp [ints])) (by simp)
  subst me
  (refine Jr<|Ja rfl<|Jn<|Jq<|Jr<|Jv rfl<|ab (gp (.of rfl) (.of rfl)) rfl ?_;refine Jn<|cB (.of rfl) ?_;refine Jr<|Ja rfl<|Jn<|Ju ?_)
  refine aP 3 1 ?_
  first | with_reducible apply aM | with_reducible apply aN
  case he=>exact dp rfl rfl
  case hR=>
   intro w' au
   exact aB (.slice none 0 0) trivial (by exact .cons .here .nil) au rfl
 | some ad =>
  (refine Jr<|Ja rfl<|Jn<|Jq<|Jr<|Jv rfl<|ab (gp (.of rfl) (.of rfl)) rfl ?_;refine Jn<|bL (.of rfl) ?_;refine Jk<|Jr<|bb (aA .nil rfl rfl rfl rfl) rfl fun _ _=>?_;refine Jv rfl ?_)
  rename_i bq mg
  refine bQ (g:=bq) (E:=3) (ys:=[]) 0 1 (by exact .here) rfl rfl rfl ?_
  with_reducible apply fX
  case hx=>exact Is.of rfl
  case hy=>exact Is.of rfl
  case ht=>exact .here
  case hsrc=>exact fun w' au=>h'.keeps au.keeps
  case h1=>exact A4 l
  case hz=>exact rfl
  case hsz=>exact rfl
  case hb0=>exact rfl
  case hb=>rw [bW];omega
  case hd=>rfl
  intro v'
  rw [bW,← rM,Nat.zero_add,Za]
  refine Ja rfl<|Jn<|Je ?_
  first | with_reducible apply aM | with_reducible apply aN
  case he=>exact dp rfl rfl
  case hR=>
   intro w' au
   exact aB v' trivial (by exact .cons .here .nil) au rfl
theorem ux {P:Program} {c:Cx} {sl:aI} {hs:List a8} {dst:Option Tmp} {ty:TypeId} {pos:String} {af:Array Edge} {g:Option (Nat×Bool)} {t u:TypeId} {x y:Operand} {a b:ByteArray} (hx:Is sl x (.string a)) (hy:Is sl y (.string b)) (e:a=b) :
  cL P c sl hs ⟨dst,.binOp .eql t x y u,ty,pos,af,g⟩ (.bool true):=by
 have:=dR (P:=P) (c:=c) (hs:=hs) (dst:=dst) (ty:=ty) (pos:=pos) (af:=af) (g:=g) (t:=t) (u:=u) hx hy
 rwa [decide_eq_true e] at this
theorem AG {P:Program} {c:Cx} {sl:aI} {hs:List a8} {dst:Option Tmp} {ty:TypeId} {pos:String} {af:Array Edge} {g:Option (Nat×Bool)} {t u:TypeId} {x y:Operand} {a b:ByteArray} (hx:Is sl x (.string a)) (hy:Is sl y (.string b)) (e:a≠b) :
  cL P c sl hs ⟨dst,.binOp .eql t x y u,ty,pos,af,g⟩ (.bool false):=by
 have:=dR (P:=P) (c:=c) (hs:=hs) (dst:=dst) (ty:=ty) (pos:=pos) (af:=af) (g:=g) (t:=t) (u:=u) hx hy
 rwa [decide_eq_false e] at this
def sO (r:Ro) (v:Int) (so:ByteArray) (i:Nat):Bool:=fV r.po v (gn r i)&&decide (jB r v (gn r i)=so)
def zT (r:Ro) (v:Int) (so:ByteArray) (k:Nat):List Nat:=(List.range k).filter (sO r v so)
theorem vq (r:Ro) (v:Int) (so:ByteArray) (k:Nat):zT r v so (k+1)=zT r v so k++if sO r v so k then [k] else []:=by
 unfold zT
 rw [List.range_succ,List.filter_append]
 congr 1
 by_cases h:sO r v so k=true
 ·rw [List.filter_cons_of_pos h,if_pos h];rfl
 ·rw [List.filter_cons_of_neg h,if_neg h];rfl
def jL (r:Ro) (so:ByteArray):Int:=(r.sr.getD (bu (cm r) so).toNat ⟨⟨#[]⟩,0⟩).mx
def wk (x:Wy):Nat×List Nat:=(x.f,x.p)
def OM (L:List (Nat×List Nat)) (W:List Wy):Prop:=W.map wk=L∧∀ y∈W,y.v.oneCell'=true
theorem OM.add {L:List (Nat×List Nat)} {W:List Wy} (h:OM L W) (y:Wy) (hy:y.v.oneCell'=true):OM (L++[wk y]) (W++[y]):=by
 refine ⟨by rw [List.map_append,h.1];rfl,fun z hz=>?_⟩
 rcases List.mem_append.1 hz with hz | hz
 ·exact h.2 z hz
 ·rw [List.mem_singleton.1 hz];exact hy
theorem JX (W:List Wy) (y:Wy):ir (W++[y])=mE 3 (W.map Wy.v++[y.v]) ((W.map fun x=>fN x.p)++[fN y.p]):=by unfold ir;rw [List.map_append,List.map_append];rfl
theorem xZ (W:List Wy) (y:Wy):mr (W++[y])=mr W++[y.v,.int .i64 (y.f:Nat)]:=by rw [KO];rfl
theorem oK {c:Cx} {D:List Nat} {sl:aI} {hs h1 h2:List a8} {X:Act→World→Prop} {W:List Wy} (y:Wy) {n:Nat} {x:List Value} (ht:Take hs (ir W) h1) (ht2:Take h1 (row 3 1 y.v n x) h2) (hn:n=y.p.length) (hx:x=fN y.p)
  (k:Tr c D sl (ir (W++[y])::h2) X):Tr c D sl hs X:=by
 subst hx
 refine my (vs:=W.map Wy.v) (xs:=W.map fun x=>fN x.p) (v:=y.v) (show Take hs (mE 3 (W.map Wy.v) (W.map fun x=>fN x.p)) h1 from ht) ht2 (by rw [hn];unfold fN;rw [Zd]) (by rw [Zd,Zd]) ?_
 rw [← JX];exact k
theorem wM {c:Cx} {D:List Nat} {sl:aI} {hs:List a8} {X:Act→World→Prop} (k:Tr c D sl (ir []::hs) X):Tr c D sl hs X:=kJ 3 k
set_option maxHeartbeats 1000000 in
theorem JU {r:Ro} {s d t p:Value} (v:Int) (so:ByteArray) {w:World} (h:RR w r s d t p) (cG:r.ti.length≤1000) (Qb:so∈cm r) :
  bd Tryz.prog 259 [RA r s d t p,.int .i64 v,.string so] w [] (fun x:Value×List Wy=>OM ((zT r v so r.ti.length).map (fun i=>(0,[i]))++(fo r v (jL r so) r.ti.length).map (fun i=>(1,[i]))) x.2) (fun x=>x.1)
   (fun x=>[row 244 2 x.1 x.2.length (mr x.2),ir x.2]):=by
 have h1:=Rd.one h.sr
 have h2:=Rd.one h.de
 have h3:=Rd.one h.ti
 have h4:=Rd.one h.po
 have hti:=h.ti
 obtain ⟨a,cp,b,o',rfl,db,bT,ha,hc⟩:=hti
 have P8:=h.sr
 obtain ⟨a2,nA,b2,o2,rfl,jt,eA,iW,jq⟩:=P8
 rw [bJ] at *
 rw [cu] at *
 unfold maxLen at bT eA
 obtain ⟨i0,rP⟩:∃ i:Nat,bu (cm r) so=(i:Nat):=⟨(bu (cm r) so).toNat,by have:=dz Qb;omega⟩
 have Io:i0<r.sr.length:=by
  obtain ⟨hl,_⟩:=er (l:=cm r) (s:=so) (by omega)
  rw [rP,Int.toNat_natCast] at hl
  unfold cm at hl;rwa [Zd] at hl
 have zd:jL r so=(r.sr[i0]).mx:=by unfold jL;rw [rP,Int.toNat_natCast,List.getD_eq_getElem?_getD,Zc Io];rfl
 have SN:∀ w',aG [] w w'→aj Tryz.prog 180 [.agg #[.int .i64 r.lv,.int .i64 r.ma,.slice a2 r.sr.length nA,d,.slice a r.ti.length cp,p],.string so] w' (.int .i64 (i0:Nat)):=fun w' hk=>rP ▸ nI so (h.keeps hk)
 have hsrc:=SN
 unfold RA
 refine aQ Tryz.func259 rfl rfl ?_
 (refine Jr<|Jy rfl rfl fun _ _=>Ja rfl<|Ji<|Jz rfl rfl fun _ _=>Jn<|Jq<|Jr<|bF rfl rfl ae ?_;refine JL rfl (.there .here) rfl<|JI rfl<|Jv rfl<|Jn<|J0 ?_)
 rename_i b3 sZ b7 TC
 refine aP 244 2 ?_
 refine wM ?_
 refine aX (ι:=Nat×Value×List Wy) (fun x=>x.1≤r.ti.length∧OM ((zT r v so x.1).map (fun i=>(0,[i]))) x.2.2)
  (fun x=>[(14,.int .i64 (x.1:Nat)),(13,.int .i64 (r.ti.length:Nat)),(12,.slice a r.ti.length cp),(7,.pointer (some ⟨b7,0,none⟩)),(3,.pointer (some ⟨b3,0,none⟩)),(1,.int .i64 v),(2,.string so)])
  (fun x=>[bA b7 (.cells #[x.2.1] 329 (0,0)),row 244 2 x.2.1 x.2.2.length (mr x.2.2),ir x.2.2,JP b3 r (.slice a2 r.sr.length nA) d (.slice a r.ti.length cp) p]) (fun x=>r.ti.length-x.1) ?_ ?_
 ·apply aJ (0,.slice none 0 0,[]) ⟨Zi _,rfl,fun y hy=>by cases hy⟩
  case hs1=>exact cd
  case ht=>
   exact .cons bN (.cons (.there .here) (.cons .here (.cons .here .nil)))
 rintro ⟨k,wv,W⟩ ⟨hk,hW⟩
 dsimp only at hk hW ⊢
 have RJ:(mr W).length=W.length*2:=oH W
 by_cases aL:k<r.ti.length
 ·have cE:=ha (eT aL)
  have aC:=(hc k _ (dQ aL)).2
  unfold Ti.cells at aC
  have y8:=mB aL
  have xz:gn r k=(r.ti[k]).nm:=by unfold gn;rw [y8]
  have Yq:W.length≤k:=by
   have:=congrArg List.length hW.1
   rw [Zd,Zd] at this
   rw [this]
   have:=List.length_filter_le (sO r v so) (List.range k)
   rw [List.length_range] at this
   exact this
  have Bh:∀ w',aG [] w w'→aj Tryz.prog 121 [.agg #[.int .i64 r.lv,.int .i64 r.ma,.slice a2 r.sr.length nA,d,.slice a r.ti.length cp,p],.int .i64 v,.string (r.ti[k]).nm] w' (.bool (fV r.po v (r.ti[k]).nm)):=fun w' hk=>pY v _ (h.keeps hk)
  have tM:∀ w',aG [] w w'→aj Tryz.prog 126 [.agg #[.int .i64 r.lv,.int .i64 r.ma,.slice a2 r.sr.length nA,d,.slice a r.ti.length cp,p],.int .i64 v,.string (r.ti[k]).nm] w' (.string (jB r v (r.ti[k]).nm)):=fun w' hk=>oY v _ (h.keeps hk) (by omega)
  cases zP:fV r.po v (r.ti[k]).nm with
  | false =>
   have Bi:∀ w',aG [] w w'→aj Tryz.prog 121 [.agg #[.int .i64 r.lv,.int .i64 r.ma,.slice a2 r.sr.length nA,d,.slice a r.ti.length cp,p],.int .i64 v,.string (r.ti[k]).nm] w' (.bool false):=fun w' hk=>zP ▸ Bh w' hk
   have hq:sO r v so k=false:=by unfold sO;rw [xz,zP];rfl
   have H5:zT r v so (k+1)=zT r v so k:=by rw [vq,if_neg (by rw [hq];decide),List.append_nil]
   (refine Jr<|JA rfl<|Jn<|Jq<|Jd rfl fun ar=>Jk<|Jq<|J0<|Jr<|Jv rfl<|ab (fH cE ar) rfl ?_;refine ab (iv (eF.base aC rfl)) rfl ?_;refine Jz rfl rfl fun _ _=>Ja rfl<|aq (.of rfl) (.of rfl) .here rfl rfl (fh rfl rfl rfl) (bC rfl) an ?_;refine Ji<|ab (cz eR) rfl ?_;refine Jv rfl<|bF rfl rfl ae ?_;refine JL rfl .here rfl<|ai eh rfl (fun w' au=>(Bi w' (Mem.keeps au))) ?_;refine Jv rfl<|aF rfl rfl inferInstance (fun hg bj=>(cA (.of rfl) eR an (by rfl))) rfl ?_;refine je rfl rfl rfl rfl ?_;refine aF rfl rfl inferInstance (fun hg bj=>(ao (.of rfl) ae)) rfl ?_;refine aF rfl rfl inferInstance (fun hg bj=>(ag (.bE bj rfl) (At.lit .here rfl))) rfl ?_;refine ew rfl rfl rfl rfl ?_;refine je rfl rfl rfl rfl ?_;refine ew rfl rfl rfl rfl ?_;refine ab (cI (.of rfl) (.of rfl) (.of rfl) rfl) rfl ?_;refine Jn<|bL (.of rfl) ?_;refine Jw<|Jj<|Jt<|Jg<|JB rfl (by omega)<|Jv rfl<|Jn ?_)
   apply aK (k+1,wv,W) ⟨show k+1≤r.ti.length by omega,by rw [H5];exact hW⟩ (show r.ti.length-(k+1)<r.ti.length-k by omega)
   case hs1=>exact cd
   case ht=>(try simp only [Ze,Zf,Za]);exact .cons (.there .here) (.cons (.there .here) (.cons (.there .here) (.cons (.there .here) .nil)))
  | true =>
   have Bi:∀ w',aG [] w w'→aj Tryz.prog 121 [.agg #[.int .i64 r.lv,.int .i64 r.ma,.slice a2 r.sr.length nA,d,.slice a r.ti.length cp,p],.int .i64 v,.string (r.ti[k]).nm] w' (.bool true):=fun w' hk=>zP ▸ Bh w' hk
   by_cases y9:jB r v (r.ti[k]).nm=so
   ·have hq:sO r v so k=true:=by unfold sO;rw [xz,zP,decide_eq_true y9];rfl
    have H5:zT r v so (k+1)=zT r v so k++[k]:=by rw [vq,if_pos hq]
    (refine Jr<|JA rfl<|Jn<|Jq<|Jd rfl fun ar=>Jk<|Jq<|J0<|Jr<|Jv rfl<|ab (fH cE ar) rfl ?_;refine ab (iv (eF.base aC rfl)) rfl ?_;refine Jz rfl rfl fun _ _=>Ja rfl<|aq (.of rfl) (.of rfl) .here rfl rfl (fh rfl rfl rfl) (bC rfl) an ?_;refine Ji<|ab (cz eR) rfl ?_;refine Jv rfl<|bF rfl rfl ae ?_;refine JL rfl .here rfl<|ai eh rfl (fun w' au=>(Bi w' (Mem.keeps au))) ?_;refine Jv rfl<|JK rfl rfl<|ab (cz eR) rfl ?_;refine JK rfl rfl<|Jv rfl<|JK rfl rfl<|bF rfl rfl ae ?_;refine JK rfl rfl<|JL rfl .here rfl<|JK rfl rfl<|ai eh rfl (fun w' au=>(tM w' (Mem.keeps au))) ?_;refine JK rfl rfl<|Jv rfl<|JK rfl rfl<|ab (ux (.of rfl) (.of rfl) y9) rfl ?_;refine ab (eG (.of rfl) (.of rfl) (.of rfl) rfl) rfl ?_;refine Jn<|cB (.of rfl) ?_;refine Jg<|JL rfl (.there .here) rfl<|Jv rfl<|bb (aA (.cons (.of rfl) .nil) rfl rfl rfl rfl) rfl fun _ _=>?_;refine ab (aU (.cons (.of rfl) (.cons (.of rfl) .nil)) an) rfl ?_;refine bb (br (.cons (.of rfl) .nil) rfl rfl bM bM an) rfl fun _ _=>?_)
    rename_i b9 Yn bq mg bl Oh
    have IA:=hW.add ⟨.slice (some ⟨bq,0,none⟩) 1 1,[k],0⟩ rfl
    have SG:mr (W++[⟨.slice (some ⟨bq,0,none⟩) 1 1,[k],0⟩])=mr W++[.slice (some ⟨bq,0,none⟩) 1 1,.int .i64 0]:=xZ W _
    have SF:(W++[(⟨.slice (some ⟨bq,0,none⟩) 1 1,[k],0⟩:Wy)]).length=W.length+1:=by simp
    refine bB (.of rfl) (.of rfl) eR .here an (by rfl) (gF rfl rfl) (by rfl) (by rfl) (by rfl) eH (by rfl) ?_
    intro v'
    refine aY (by exact .here) fun a' gL e=>?_
    subst e
    (refine aq (.of rfl) (.of rfl) eR rfl rfl (ed rfl) (bC rfl) an ?_;refine Jx<|Jj<|Jt<|Jg<|JB rfl (by omega)<|Jv rfl<|Jn ?_)
    refine bQ (g:=bq) (E:=3) (ys:=[.int .i64 (k:Nat)]) 1 1 cX rfl rfl rfl ?_
    refine oK (W:=W) ⟨.slice (some ⟨bq,0,none⟩) 1 1,[k],0⟩ (n:=1) (x:=[.int .i64 (k:Nat)]) fg (by exact .here) rfl rfl ?_
    apply aK (k+1,.slice a' (W.length+1) gL,W++[⟨.slice (some ⟨bq,0,none⟩) 1 1,[k],0⟩]) ⟨show k+1≤r.ti.length by omega,by rw [H5,List.map_append];exact IA⟩ (show r.ti.length-(k+1)<r.ti.length-k by omega)
    case hs1=>exact cd
    case ht=>
     show bo _ [bA b7 (.cells #[.slice a' (W.length+1) gL] 329 (0,0)),row 244 2 (.slice a' (W.length+1) gL) (W++[(⟨.slice (some ⟨bq,0,none⟩) 1 1,[k],0⟩:Wy)]).length (mr (W++[⟨.slice (some ⟨bq,0,none⟩) 1 1,[k],0⟩])),ir (W++[⟨.slice (some ⟨bq,0,none⟩) 1 1,[k],0⟩]),JP b3 r (.slice a2 r.sr.length nA) d (.slice a r.ti.length cp) p] _
     rw [SF,SG]
     exact .cons (.there .here) (.cons (.there .here) (.cons .here (.cons bN .nil)))
   ·have hq:sO r v so k=false:=by unfold sO;rw [xz,zP,decide_eq_false y9];rfl
    have H5:zT r v so (k+1)=zT r v so k:=by rw [vq,if_neg (by rw [hq];decide),List.append_nil]
    (refine Jr<|JA rfl<|Jn<|Jq<|Jd rfl fun ar=>Jk<|Jq<|J0<|Jr<|Jv rfl<|ab (fH cE ar) rfl ?_;refine ab (iv (eF.base aC rfl)) rfl ?_;refine Jz rfl rfl fun _ _=>Ja rfl<|aq (.of rfl) (.of rfl) .here rfl rfl (fh rfl rfl rfl) (bC rfl) an ?_;refine Ji<|ab (cz eR) rfl ?_;refine Jv rfl<|bF rfl rfl ae ?_;refine JL rfl .here rfl<|ai eh rfl (fun w' au=>(Bi w' (Mem.keeps au))) ?_;refine Jv rfl<|JK rfl rfl<|ab (cz eR) rfl ?_;refine JK rfl rfl<|Jv rfl<|JK rfl rfl<|bF rfl rfl ae ?_;refine JK rfl rfl<|JL rfl .here rfl<|JK rfl rfl<|ai eh rfl (fun w' au=>(tM w' (Mem.keeps au))) ?_;refine JK rfl rfl<|Jv rfl<|JK rfl rfl<|ab (AG (.of rfl) (.of rfl) y9) rfl ?_;refine ab (cI (.of rfl) (.of rfl) (.of rfl) rfl) rfl ?_;refine Jn<|bL (.of rfl) ?_;refine Jw<|Jj<|Jt<|Jg<|JB rfl (by omega)<|Jv rfl<|Jn ?_)
    apply aK (k+1,wv,W) ⟨show k+1≤r.ti.length by omega,by rw [H5];exact hW⟩ (show r.ti.length-(k+1)<r.ti.length-k by omega)
    case hs1=>exact cd
    case ht=>(try simp only [Ze,Zf,Za]);exact .cons (.there .here) (.cons (.there .here) (.cons (.there .here) (.cons (.there .here) .nil)))
 ·obtain rfl:k=r.ti.length:=by omega
  refine Jr<|JA rfl<|Jn<|Jq<|Jc rfl fun ar=>Jp<|Jl<|Jo<|Jt<|Jq<|Jq ?_
  have og:=iW (gB Io)
  have eM:=(jq i0 _ (fm Io)).2
  unfold Sr.cells at eM
  have Rz:=eM 1 _ rfl
  with_reducible refine dP 10 (by kernel_rfl) ?_
  (refine aH (cz cX) rfl ?_;refine k7 rfl rfl ?_;refine nC rfl rfl ae ?_;refine aH (gz cX) rfl ?_;refine aH (cz cX) rfl ?_;refine k7 rfl rfl ?_;refine fc aZ rfl (fun w' au=>(hsrc w' (Mem.keeps au))) ?_;refine aH (az (.of rfl) (.of rfl) og (by omega) (by omega) ba) rfl ?_;refine nC rfl rfl ae ?_;refine aH (ag (.of rfl) (At.base Rz rfl)) rfl ?_)
  with_reducible refine dY ?_
  rw [← zd]
  with_reducible apply jg
  case hr=>exact eh
  case hd=>rfl
  case ht=>exact bo.nil
  case hc=>
   intro w1 fp aS _ hs1
   obtain rfl:fp=[]:=hs1
   exact rL (s:=.slice a2 r.sr.length nA) (d:=d) (t:=.slice a r.ti.length cp) (p:=p) v (jL r so) (h.keeps aS.keeps)
  intro y _
  dsimp only [id_eq,Zb,Za]
  refine Jn<|J0 ?_
  have sG:(fo r v (jL r so) r.ti.length).length≤r.ti.length:=by
   have:=List.length_filter_le (Bo r v (jL r so)) (List.range r.ti.length)
   rw [List.length_range] at this
   exact this
  have iF:(zT r v so r.ti.length).length≤r.ti.length:=by
   have:=List.length_filter_le (sO r v so) (List.range r.ti.length)
   rw [List.length_range] at this
   exact this
  refine iY (ps:=[51,52]) (f:=240) (first:=[]) (cap:=[.pointer (some ⟨y.1,0,none⟩),.pointer (some ⟨y.2.1,0,none⟩),.pointer (some ⟨y.2.2,0,none⟩)]) (ι:=Value×List Wy) (κ:=Empty) (rst:=[JP b3 r (.slice a2 r.sr.length nA) d (.slice a r.ti.length cp) p]) ?hg
   [JP y.1 r (.slice a2 r.sr.length nA) d (.slice a r.ti.length cp) p,bA y.2.1 (.cells #[.int .i64 (jL r so)] 3 (0,0)),bA y.2.2 (.cells #[.int .i64 v] 3 (0,0))] (Ky r v (jL r so)) ?hit
   (fun k x=>OM ((zT r v so r.ti.length).map (fun i=>(0,[i]))++((fo r v (jL r so) r.ti.length).take k).map (fun i=>(1,[i]))) x.2)
   (fun x=>[bA b7 (.cells #[x.1] 329 (0,0)),row 244 2 x.1 x.2.length (mr x.2),ir x.2])
   (fun _=>False) (fun _=>[]) (fun _=>.ret) (wv,W) (by rw [Ze,Zf,List.append_nil];exact hW) ?ht ?hlen ?hps ?round ?kn ?kj
  case hg=>exact Is.of rfl
  case hit=>intro w' au;exact HF v (jL r so) h RO.nil (by omega)
  case ht=>
   dsimp only [Zb,Za]
   exact .cons cX (.cons cX (.cons cX (.cons .here (.cons .here (.cons .here .nil)))))
  case hlen=>intro vs nY;obtain ⟨x,_,rfl⟩:=List.mem_map.1 nY;rfl
  case hps=>intro t ht;simp only [List.mem_cons,List.not_mem_nil,or_false] at ht;rcases ht with rfl | rfl <;> exact Nat.le_of_ble_eq_true rfl
  case kj=>intro y;cases y
  case kn=>
   rintro ⟨wv,W⟩ D hq
   dsimp only [Zb,Za] at hq ⊢
   rw [tI,List.take_length] at hq
   refine aY (E:=244) (sz:=2) (by exact Take.there .here) fun va vc e=>?_
   subst e
   refine Jj<|Jt<|Jr<|JL rfl .here rfl<|Ja rfl<|Jn<|Je ?_
   first | with_reducible apply aM | with_reducible apply aN
   case he=>exact dp rfl rfl
   case hR=>
    intro w' au
    exact aB (.slice va W.length vc,W) hq (by exact .cons (.there .here) (.cons (.there .here) .nil)) au rfl
  case round=>
   rintro l2 rc W2 TV k ⟨wv,W⟩ vs hsz hk hq hB hF
   dsimp only at hq
   obtain ⟨i,hi,rfl,iP,UT⟩:=CJ hk
   obtain ⟨vJ,Iq⟩:=List.getElem?_eq_some_iff.1 hi
   have htk:(fo r v (jL r so) r.ti.length).take (k+1)=(fo r v (jL r so) r.ti.length).take k++[i]:=by rw [List.take_succ_eq_append_getElem vJ,Iq]
   have RJ:(mr W).length=W.length*2:=oH W
   have Yq:W.length≤2000:=by
    have:=congrArg List.length hq.1
    rw [Zd,Zg,Zd,Zd,List.length_take] at this
    omega
   dsimp only [Ti.cells,List.zip_cons_cons,List.zip_nil_right,lN,Zb,Za]
   refine Jg<|Ja rfl<|Jn ?_
   with_reducible apply lX
   case ht=>exact .here
   refine aY (E:=244) (sz:=2) bN fun v1 v2 e=>?_
   subst e
   (refine J0<|Jg<|JL rfl (.there .here) rfl<|Jv rfl<|bb (aA (.cons (.of rfl) .nil) rfl rfl rfl rfl) rfl fun _ _=>?_;refine ab (aU (.cons (.of rfl) (.cons (.of rfl) .nil)) an) rfl ?_;refine bb (br (.cons (.of rfl) .nil) rfl rfl bM bM an) rfl fun _ _=>?_)
   rename_i bq mg bl Oh
   have IA:=hq.add ⟨.slice (some ⟨bq,0,none⟩) 1 1,[i],1⟩ rfl
   have SG:mr (W++[⟨.slice (some ⟨bq,0,none⟩) 1 1,[i],1⟩])=mr W++[.slice (some ⟨bq,0,none⟩) 1 1,.int .i64 1]:=xZ W _
   have SF:(W++[(⟨.slice (some ⟨bq,0,none⟩) 1 1,[i],1⟩:Wy)]).length=W.length+1:=by simp
   refine bB (.of rfl) (.of rfl) eR .here an (by rfl) (gF rfl rfl) (by rfl) (by rfl) (by rfl) eH (by rfl) ?_
   intro v'
   refine aY (by exact .here) fun a' gL e=>?_
   subst e
   (refine aq (.of rfl) (.of rfl) eR rfl rfl (ed rfl) (bC rfl) an ?_;refine Jx<|Jj ?_)
   refine bQ (g:=bq) (E:=3) (ys:=[.int .i64 (i:Nat)]) 1 1 cX rfl rfl rfl ?_
   refine oK (W:=W) ⟨.slice (some ⟨bq,0,none⟩) 1 1,[i],1⟩ (n:=1) (x:=[.int .i64 (i:Nat)]) fg (by exact .here) rfl rfl ?_
   apply lq (.slice a' (W.length+1) gL,W++[⟨.slice (some ⟨bq,0,none⟩) 1 1,[i],1⟩])
   case ht=>exact eR
   case hx=>
    show OM _ _
    rw [htk,List.map_append,← Zh]
    exact IA
   case h2=>
    show bo _ [bA b7 (.cells #[.slice a' (W.length+1) gL] 329 (0,0)),row 244 2 (.slice a' (W.length+1) gL) (W++[(⟨.slice (some ⟨bq,0,none⟩) 1 1,[i],1⟩:Wy)]).length (mr (W++[⟨.slice (some ⟨bq,0,none⟩) 1 1,[i],1⟩])),ir (W++[⟨.slice (some ⟨bq,0,none⟩) 1 1,[i],1⟩])] _
    rw [SF,SG]
    exact .cons (.there .here) (.cons (.there .here) (.cons .here .nil))
end Go.Proofs.A1
