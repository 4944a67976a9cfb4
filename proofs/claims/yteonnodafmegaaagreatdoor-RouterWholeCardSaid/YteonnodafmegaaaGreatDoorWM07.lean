/- Parts of the proof: KE KF KV GkOff GkSortK TryzSortF KG KH KI KJq. -/
import Derived.Test.YteonnodafmegaaaGreatDoorWM06
import Derived.Test.YteonnodafmegaaaGreatDoorWM04
import Derived.Test.YteonnodafmegaaaGreatDoorWM03
import Derived.Test.YteonnodafmegaaaGreatDoorWM02
import Derived.ArgAppend
import Derived.Shelf.SlSortCmp.WholeK
import Derived.Shelf.SlSortCmp.NoneTotal
import Derived.Shelf.SlicesG.Cmp
import Derived.Ground.SlsfProg
import Derived.Ground.SlgcProg
import Derived.Ground.NamesProg
import Derived.Ground.Names2Prog
import Derived.Test.YteonnodafmegaaaGreatDoorProg
set_option linter.unusedSectionVars false
set_option linter.unusedVariables false
set_option linter.unusedSimpArgs false
namespace Go.Proofs.A1
open Go Go.SL
theorem eh {w w':World} {a:Addr} {v:Value} {md:List Nat} (h:w.cell? a=some v) (hs:a.spot=none) (hn:a.block ∉ md) (hk:aJ md w w'):w'.cell? a=some v:=by
 have hb:=World.block_lt_of_cell? w a h
 obtain ⟨b,o,s⟩:=a
 subst hs
 have:=hk.block b hb hn
 rw [← h]
 simp [World.cell?,this]
theorem KJ {q:Bool} {o:ByteArray} {f:FuncId} {first cap:List Value} [bR Tryz.prog f] {b5:Nat} {w:World} (f5:w.cell? ⟨b5,0,none⟩=some (.func (.func f) first.toArray cap.toArray))
  (cz:∀ w',aJ [] w w'→aj Tryz.prog f (first++[.string o]++cap) w' (.bool q)) :
  aj Tryz.prog 225 [.string o,.pointer (some ⟨b5,0,none⟩)] w (.bool (!q)):=by
 refine ah Tryz.func225 rfl rfl ?_
 (refine Jr<|Ja rfl<|Ji<|ab (ag (.of rfl) (At.base f5 rfl)) rfl<|Jv rfl ?_)
 refine ai bN rfl (fun w' aA=>cz w' aA.keeps) ?_
 refine JH rfl<|Ja rfl<|Jn<|Je<|JT ?_
 rfl
theorem Ec {lv:Value} {l:List Ti} {q:ByteArray→Bool} {f:FuncId} {first cap:List Value} [bR Tryz.prog f] {w:World} (h:Rd w lv 3 (tX l)) (hn:l.length≤1000000)
  (cz:∀ o w',aJ [] w w'→aj Tryz.prog f (first++[.string o]++cap) w' (.bool (q o))) :
  bu Tryz.prog 118 [lv,.func (.func 119) #[] #[],.func (.func f) first.toArray cap.toArray] w [] (fun _:Value=>True) id (fun v=>[row 9 1 v ((l.map Ti.nm).filter q).length (aL ((l.map Ti.nm).filter q))]):=by
 have z7:=Rd.one h
 refine aS Tryz.func118 rfl rfl ?_
 refine Jr<|Jy rfl rfl fun _ _=>Ja rfl<|Ji<|Jv rfl<|Jv rfl ?_
 rename_i b5 ND
 refine JN bj rfl (fun w1 aR=>M1 (f:=119) (first:=[]) (cap:=[]) (g:=Ti.nm) (h.keeps aR.keeps) hn (fun x _ w2 _=>Iw x w2)) ?_
 intro nv _
 dsimp only [id_eq,Zb,Za]
 refine ab (bC .nil (.cons (.of rfl) .nil)) rfl ?_
 with_reducible apply fP (As:=[row 9 1 nv l.length (aL (l.map Ti.nm))])
 case hr=>exact bj
 case hd=>rfl
 case ht=>exact l6
 case hc=>
  intro w1 AT aR vA hs1 CQ kQ
  have h5:b5 ∉ AT:=kQ b5 _ _ (by exact .here)
  have f5:w1.cell? ⟨b5,0,none⟩=some (.func (.func f) first.toArray cap.toArray):=At.lit (by exact Take.there .here) rfl w1 aR
  exact Kw (f:=225) (p:=fun o=>!q o) (first:=[]) (cap:=[.pointer (some ⟨b5,0,none⟩)]) vA hs1 (by rw [Zd]) hn
   (fun o _ w2 eF=>KJ (eh f5 rfl h5 eF) (fun w3 XB=>cz o w3 ((aR.keeps.over (fun b hb=>CQ b hb) eF).trans XB)))
 intro v' _
 dsimp only [id_eq,Zb,Za]
 simp only [Bool.not_not]
 refine Ja rfl<|Jn<|Je ?_
 first | with_reducible apply aO | with_reducible apply aP
 case he=>exact dH rfl rfl
 case hR=>
  intro w' aA
  exact aG v' trivial (by exact .cons .here .nil) aA rfl
theorem KK {q:Bool} {o:ByteArray} {f:FuncId} {first cap:List Value} [bR Tryz.prog f] {b5:Nat} {w:World} (f5:w.cell? ⟨b5,0,none⟩=some (.func (.func f) first.toArray cap.toArray))
  (cz:∀ w',aJ [] w w'→aj Tryz.prog f (first++[.string o]++cap) w' (.bool q)) :
  aj Tryz.prog 226 [.string o,.pointer (some ⟨b5,0,none⟩)] w (.bool (!q)):=by
 refine ah Tryz.func226 rfl rfl ?_
 (refine Jr<|Ja rfl<|Ji<|ab (ag (.of rfl) (At.base f5 rfl)) rfl<|Jv rfl ?_)
 refine ai bN rfl (fun w' aA=>cz w' aA.keeps) ?_
 refine JH rfl<|Ja rfl<|Jn<|Je<|JT ?_
 rfl
theorem Ed {lv:Value} {l:List De} {q:ByteArray→Bool} {f:FuncId} {first cap:List Value} [bR Tryz.prog f] {w:World} (h:Rd w lv 3 (uy l)) (hn:l.length≤1000000)
  (cz:∀ o w',aJ [] w w'→aj Tryz.prog f (first++[.string o]++cap) w' (.bool (q o))) :
  bu Tryz.prog 123 [lv,.func (.func 124) #[] #[],.func (.func f) first.toArray cap.toArray] w [] (fun _:Value=>True) id (fun v=>[row 9 1 v ((l.map De.nm).filter q).length (aL ((l.map De.nm).filter q))]):=by
 have z7:=Rd.one h
 refine aS Tryz.func123 rfl rfl ?_
 refine Jr<|Jy rfl rfl fun _ _=>Ja rfl<|Ji<|Jv rfl<|Jv rfl ?_
 rename_i b5 ND
 refine JN bj rfl (fun w1 aR=>E0 (f:=124) (first:=[]) (cap:=[]) (g:=De.nm) (h.keeps aR.keeps) hn (fun x _ w2 _=>DE x w2)) ?_
 intro nv _
 dsimp only [id_eq,Zb,Za]
 refine ab (bC .nil (.cons (.of rfl) .nil)) rfl ?_
 with_reducible apply fP (As:=[row 9 1 nv l.length (aL (l.map De.nm))])
 case hr=>exact bj
 case hd=>rfl
 case ht=>exact l6
 case hc=>
  intro w1 AT aR vA hs1 CQ kQ
  have h5:b5 ∉ AT:=kQ b5 _ _ (by exact .here)
  have f5:w1.cell? ⟨b5,0,none⟩=some (.func (.func f) first.toArray cap.toArray):=At.lit (by exact Take.there .here) rfl w1 aR
  exact Kw (f:=226) (p:=fun o=>!q o) (first:=[]) (cap:=[.pointer (some ⟨b5,0,none⟩)]) vA hs1 (by rw [Zd]) hn
   (fun o _ w2 eF=>KK (eh f5 rfl h5 eF) (fun w3 XB=>cz o w3 ((aR.keeps.over (fun b hb=>CQ b hb) eF).trans XB)))
 intro v' _
 dsimp only [id_eq,Zb,Za]
 simp only [Bool.not_not]
 refine Ja rfl<|Jn<|Je ?_
 first | with_reducible apply aO | with_reducible apply aP
 case he=>exact dH rfl rfl
 case hR=>
  intro w' aA
  exact aG v' trivial (by exact .cons .here .nil) aA rfl
theorem Og {r:Ro} {s d t p:Value} (v:Int) (o:ByteArray) {b1 b2:Nat} {w:World} (h:RR w r s d t p) (hA:BR w b1 (RC r s d t p)) (f2:w.cell? ⟨b2,0,none⟩=some (.int .i64 v)) :
  aj Tryz.prog 120 [.string o,.pointer (some ⟨b1,0,none⟩),.pointer (some ⟨b2,0,none⟩)] w (.bool (gV r.po v o)):=by
 have h1:=Rd.one h.sr
 have h2:=Rd.one h.de
 have h3:=Rd.one h.ti
 have h4:=Rd.one h.po
 have ke:∀ (j:Nat) (u:Value),[Value.int .i64 r.lv,.int .i64 r.ma,s,d,t,p][j]? = some u→w.cell? ⟨b1,0+j,none⟩=some u:=hA
 refine ah Tryz.func120 rfl rfl ?_
 (refine Jr<|Ja rfl<|Ji<|ab (gW (ew.base ke rfl)) rfl<|ab (ag (.of rfl) (At.base f2 rfl)) rfl<|Jv rfl ?_)
 refine ai eM rfl (fun w' aA=>qC v o (h.keeps aA.keeps)) ?_
 refine Ja rfl<|Jn<|Je<|JT ?_
 rfl
theorem Hf {r:Ro} {s d t p:Value} (v:Int) (o so:ByteArray) {b1 b2 b3:Nat} {w:World} (h:RR w r s d t p) (cT:r.ti.length≤1000000) (hA:BR w b1 (RC r s d t p)) (f2:w.cell? ⟨b2,0,none⟩=some (.int .i64 v)) (f3:w.cell? ⟨b3,0,none⟩=some (.string so)) :
  aj Tryz.prog 125 [.string o,.pointer (some ⟨b1,0,none⟩),.pointer (some ⟨b2,0,none⟩),.pointer (some ⟨b3,0,none⟩)] w (.bool (decide (jG r v o=so))):=by
 have h1:=Rd.one h.sr
 have h2:=Rd.one h.de
 have h3:=Rd.one h.ti
 have h4:=Rd.one h.po
 have ke:∀ (j:Nat) (u:Value),[Value.int .i64 r.lv,.int .i64 r.ma,s,d,t,p][j]? = some u→w.cell? ⟨b1,0+j,none⟩=some u:=hA
 refine ah Tryz.func125 rfl rfl ?_
 refine Jr<|Ja rfl<|Jn<|Jq ?_
 with_reducible refine dE 6 (by kernel_rfl) ?_
 (refine aF (gW (ew.base ke rfl)) rfl<|aF (ag (.of rfl) (At.base f2 rfl)) rfl<|ju rfl rfl<|fI eM rfl (fun w' aA=>(pq v o (RR.keeps h (Mem.keeps aA)) cT))<|aF (ag (.of rfl) (At.base f3 rfl)) rfl<|aF (dG (.of rfl) (.of rfl)) rfl ?_)
 with_reducible refine dI ?_
 refine Ja rfl<|Jn<|Je<|JT ?_
 rfl
def Cz (r:Ro) (v:Int):Int:=aX [fX r,CN r v]
def Eg (r:Ro) (v:Int):List ByteArray:=if Cz r v≠0 then [] else (cM r).filter (gV r.po v)
theorem Sq {r:Ro} {s d t p:Value} (v:Int) {w:World} (h:RR w r s d t p) (cT:lD r):bu Tryz.prog 23 [RA r s d t p,.int .i64 v] w [] (fun _:Value=>True) (fun x=>.tuple #[x,.int .i64 (Cz r v)]) (fun x=>[row 9 1 x (Eg r v).length (aL (Eg r v))]):=by
 have h1:=Rd.one h.sr
 have h2:=Rd.one h.de
 have h3:=Rd.one h.ti
 have h4:=Rd.one h.po
 have eQ:∀ w',aJ [] w w'→aj Tryz.prog 34 [.agg #[.int .i64 r.lv,.int .i64 r.ma,s,d,t,p]] w' (.int .i64 (fX r)):=fun w' hk=>eH (h.keeps hk) cT
 have hle:∀ w',aJ [] w w'→aj Tryz.prog 114 [.agg #[.int .i64 r.lv,.int .i64 r.ma,s,d,t,p],.int .i64 v] w' (.int .i64 (CN r v)):=fun w' hk=>kT v (h.keeps hk)
 unfold RA
 refine aS Tryz.func23 rfl rfl ?_
 refine Jr<|Jy rfl rfl fun _ _=>Jy rfl rfl fun _ _=>Ja rfl<|Ja rfl<|Jn<|Jq<|Jq ?_
 rename_i b2 tL b3 vI
 with_reducible refine cZ 6 (by kernel_rfl) ?_
 (refine ao (cR (.there .here)) rfl<|aY bN rfl (fun w' aA=>(eQ w' (Mem.keeps aA)))<|ao (cR (.there .here)) rfl<|ao (gT .here) rfl<|aY bj rfl (fun w' aA=>(hle w' (Mem.keeps aA)))<|eB (aC (.cons (.of rfl) (.cons (.of rfl) .nil)) rfl rfl rfl rfl) rfl rfl ?_)
 with_reducible refine dB rfl fun bq nq=>?_
 (refine ai bN rfl (fun w' aA=>(dO (Mem.dw aA .here rfl rfl) (bY.cons (bY.cons bY.nil))))<|Ja rfl<|Ji<|Jv rfl<|JD rfl<|Jn<|gm rfl (fun az=>?_) fun az=>?_;refine Jr<|Jv rfl<|Ja rfl<|Ja rfl<|Jn<|Ju ?_;rotate_left;refine Jk<|Jr<|bS rfl rfl ae<|JL rfl bL rfl<|ab (bC .nil (.cons (.of rfl) (.cons (.of rfl) .nil))) rfl ?_;rotate_right)
 ·have e1:Eg r v=[]:=if_pos az
  rw [e1]
  refine aQ 9 1 ?_
  first | with_reducible apply aO | with_reducible apply aP
  case he=>exact fV rfl rfl rfl
  case hR=>
   intro w' aA
   exact aG (.slice none 0 0) trivial (by exact .cons .here .nil) aA rfl
 have e1:Eg r v=(r.ti.map Ti.nm).filter (gV r.po v):=if_neg az
 have e0:aX [fX r,CN r v]=0:=Zo.1 az
 have e2:Cz r v=0:=e0
 rw [e1,e2]
 with_reducible apply jw
 case hr=>exact eM
 case hd=>rfl
 case ht=>exact bD.nil
 case hc=>
  intro w1 fp aR _ hs1
  obtain rfl:fp=[]:=hs1
  have hA:BR w1 b2 [.int .i64 r.lv,.int .i64 r.ma,s,d,t,p]:=BR.of aR bL
  have f2:w1.cell? ⟨b3,0,none⟩=some (.int .i64 v):=At.lit (by exact Take.there .here) rfl w1 aR
  have hR:=h.keeps aR.keeps
  exact Ec (f:=120) (q:=gV r.po v) (first:=[]) (cap:=[.pointer (some ⟨b2,0,none⟩),.pointer (some ⟨b3,0,none⟩)]) hR.ti (by have:=cT.2.2;omega)
   (fun o w2 eF=>Og v o (hR.keeps eF) (hA.keeps eF) (cu f2 rfl eF))
 intro x _
 dsimp only [id_eq,Zb,Za]
 refine Ja rfl<|Ja rfl<|Jn<|Je ?_
 first | with_reducible apply aO | with_reducible apply aP
 case he=>exact fV rfl rfl rfl
 case hR=>
  intro w' aA
  exact aG x trivial (by exact .cons .here .nil) aA rfl
def Hh (r:Ro) (v:Int) (so:ByteArray):Int:=aX [fX r,CN r v,P2 r so]
def FU (r:Ro) (v:Int) (so:ByteArray):List ByteArray:=if Hh r v so≠0 then [] else (cq r).filter fun o=>decide (jG r v o=so)
theorem Om {r:Ro} {s d t p:Value} (v:Int) (so:ByteArray) {w:World} (h:RR w r s d t p) (cT:lD r):bu Tryz.prog 24 [RA r s d t p,.int .i64 v,.string so] w [] (fun _:Value=>True) (fun x=>.tuple #[x,.int .i64 (Hh r v so)]) (fun x=>[row 9 1 x (FU r v so).length (aL (FU r v so))]):=by
 have h1:=Rd.one h.sr
 have h2:=Rd.one h.de
 have h3:=Rd.one h.ti
 have h4:=Rd.one h.po
 have eQ:∀ w',aJ [] w w'→aj Tryz.prog 34 [.agg #[.int .i64 r.lv,.int .i64 r.ma,s,d,t,p]] w' (.int .i64 (fX r)):=fun w' hk=>eH (h.keeps hk) cT
 have hle:∀ w',aJ [] w w'→aj Tryz.prog 114 [.agg #[.int .i64 r.lv,.int .i64 r.ma,s,d,t,p],.int .i64 v] w' (.int .i64 (CN r v)):=fun w' hk=>kT v (h.keeps hk)
 have wW:∀ w',aJ [] w w'→aj Tryz.prog 122 [.agg #[.int .i64 r.lv,.int .i64 r.ma,s,d,t,p],.string so] w' (.int .i64 (P2 r so)):=fun w' hk=>pP so (h.keeps hk)
 unfold RA
 refine aS Tryz.func24 rfl rfl ?_
 refine Jr<|Jy rfl rfl fun _ _=>Jy rfl rfl fun _ _=>Jy rfl rfl fun _ _=>Ja rfl<|Ja rfl<|Jn<|Jq<|Jq ?_
 rename_i b2 tL b3 vI b4 wA
 with_reducible refine cZ 9 (by kernel_rfl) ?_
 (refine ao (cR bL) rfl<|aY bN rfl (fun w' aA=>(eQ w' (Mem.keeps aA)))<|ao (cR bL) rfl<|ao (gT (.there .here)) rfl<|aY bj rfl (fun w' aA=>(hle w' (Mem.keeps aA)))<|ao (cR bL) rfl<|ao (gT .here) rfl<|aY bj rfl (fun w' aA=>(wW w' (Mem.keeps aA)))<|eB (aC (.cons (.of rfl) (.cons (.of rfl) (.cons (.of rfl) .nil))) rfl rfl rfl rfl) rfl rfl ?_)
 with_reducible refine dB rfl fun bq nq=>?_
 (refine ai bN rfl (fun w' aA=>(dO (Mem.dw aA .here rfl rfl) (bY.cons (bY.cons (bY.cons bY.nil)))))<|Ja rfl<|Ji<|Jv rfl<|JD rfl<|Jn<|gm rfl (fun az=>?_) fun az=>?_;refine Jr<|Jv rfl<|Ja rfl<|Ja rfl<|Jn<|Ju ?_;rotate_left;refine Jk<|Jr<|bS rfl rfl ae<|JL rfl cW rfl<|ab (bC .nil (.cons (.of rfl) (.cons (.of rfl) (.cons (.of rfl) .nil)))) rfl ?_;rotate_right)
 ·have e1:FU r v so=[]:=if_pos az
  rw [e1]
  refine aQ 9 1 ?_
  first | with_reducible apply aO | with_reducible apply aP
  case he=>exact fV rfl rfl rfl
  case hR=>
   intro w' aA
   exact aG (.slice none 0 0) trivial (by exact .cons .here .nil) aA rfl
 have e1:FU r v so=(r.de.map De.nm).filter (fun o=>decide (jG r v o=so)):=if_neg az
 have e0:aX [fX r,CN r v,P2 r so]=0:=Zo.1 az
 have e2:Hh r v so=0:=e0
 rw [e1,e2]
 with_reducible apply jw
 case hr=>exact eM
 case hd=>rfl
 case ht=>exact bD.nil
 case hc=>
  intro w1 fp aR _ hs1
  obtain rfl:fp=[]:=hs1
  have hA:BR w1 b2 [.int .i64 r.lv,.int .i64 r.ma,s,d,t,p]:=BR.of aR cW
  have f2:w1.cell? ⟨b3,0,none⟩=some (.int .i64 v):=At.lit bL rfl w1 aR
  have f3:w1.cell? ⟨b4,0,none⟩=some (.string so):=At.lit (by exact Take.there .here) rfl w1 aR
  have hR:=h.keeps aR.keeps
  exact Ed (f:=125) (q:=fun o=>decide (jG r v o=so)) (first:=[]) (cap:=[.pointer (some ⟨b2,0,none⟩),.pointer (some ⟨b3,0,none⟩),.pointer (some ⟨b4,0,none⟩)]) hR.de (by have:=cT.2.1;omega)
   (fun o w2 eF=>Hf v o so (hR.keeps eF) (by have:=cT.2.2;omega) (hA.keeps eF) (cu f2 rfl eF) (cu f3 rfl eF))
 intro x _
 dsimp only [id_eq,Zb,Za]
 refine Ja rfl<|Ja rfl<|Jn<|Je ?_
 first | with_reducible apply aO | with_reducible apply aP
 case he=>exact fV rfl rfl rfl
 case hR=>
  intro w' aA
  exact aG x trivial (by exact .cons .here .nil) aA rfl
theorem zn {vs:List Value}:∀ {cs cur:List Value} {o:Nat},o+vs.length≤cs.length→setCells (cs++cur) o vs=setCells cs o vs++cur:=by
 induction vs with
 | nil=>intro cs cur o _;rfl
 | cons v vs ih =>
  intro cs cur o h
  simp only [ZL] at h
  rw [setCells,setCells,List.set_append_left _ _ (by omega),ih (by simp;omega)]
theorem wN {cs vs:List Value} (h:vs.length=cs.length):setCells cs 0 vs=vs:=by
 apply Zap
 intro k
 rw [iu _ _ _ _ (by omega)]
 by_cases hk:k<vs.length
 ·rw [if_pos (by omega),Nat.sub_zero]
 ·rw [if_neg (by omega),Zah (by omega),Zah (by omega)]
theorem Md {n sz i:Nat} {f:Nat→List Value} {vs:List Value} (hf:∀ i,i<n→(f i).length=sz) (hi:i<n) (hv:vs.length=sz):setCells (sW n f) (i*sz) vs=sW n (fun k=>if k=i then vs else f k):=by
 have:=Mc (o:=0) hf hi (by omega:0+vs.length≤sz)
 rw [Zaw] at this
 rw [this]
 apply my
 intro k _
 show (if k=i then _ else _)=(if k=i then _ else _)
 split
 ·exact wN (by rw [hf i hi,hv])
 ·rfl
def swp (B:Nat→ByteArray) (m k:Nat):Nat→ByteArray:=fun x=>if x<k∨m-k≤x then B (m-1-x) else B x
def s1 (B:Nat→ByteArray):Nat→List Value:=fun i=>[.string (B i)]
theorem oe (B:Nat→ByteArray) (m:Nat):∀ i,i<m→(s1 B i).length=1:=fun _ _=>rfl
theorem HU {B:Nat→ByteArray} {m i:Nat} (cur:List Value) (h:i<m):(sW m (s1 B)++cur)[i*1]? = some (.string (B i)):=by
 have hl:=hG (oe B m)
 rw [ZD (by rw [hl];omega)]
 exact zg (j:=0) (oe B m) h (by omega)
theorem HT {B C:Nat→ByteArray} {m i:Nat} {v:ByteArray} (cur:List Value) (h:i<m) (hC:∀ k,k<m→C k=if k=i then v else B k):setCells (sW m (s1 B)++cur) (i*1) [.string v]=sW m (s1 C)++cur:=by
 have hl:=hG (oe B m)
 rw [zn (by rw [hl];simp;omega),Md (oe B m) h rfl]
 congr 1
 apply my
 intro k hk
 unfold s1
 rw [hC k hk]
 split <;> rfl
set_option maxHeartbeats 4000000 in
theorem HZ {w:World} {fp:List Nat} {v:Value} {m:Nat} {B:Nat→ByteArray} (hm:0<m) (aeH:m≤1000000) (hn:fp.Nodup) (hs:ct (hp w) [row 9 1 v m (sW m (s1 B))] fp) :
  bu Tryz.prog 117 [v] w fp (fun _:Unit=>True) (fun _=>.tuple #[]) (fun _=>[row 9 1 v m (sW m (s1 fun i=>B (m-1-i)))]):=by
 refine eb Tryz.func117 rfl rfl hn hs ?_
 refine cU (by exact .here) hm ?_
 rintro g cap cur rfl dj z6 hsz ON
 have hlen:=hG (oe B m)
 refine Jr<|Jv rfl<|JI rfl<|JS rfl (by omega)<|Ja rfl<|Ja rfl<|Jn<|J0 ?_
 refine aW (fun k:Nat=>2*k≤m) (fun k=>[(2,.int .i64 k),(3,.int .i64 ((m-1-k:Nat):Int)),(0,.slice (some ⟨g,0,none⟩) m cap)]) (fun k=>[bH g (.cells (sW m (s1 (swp B m k))++cur).toArray 9 (0,0))]) (fun k=>m-2*k) ?_ ?_
 ·apply aI 0 (by omega)
  case hs1=>exact .cons rfl (.KG rfl (by congr 1;omega) (.cons rfl .nil))
  case ht=>
   rw [show sW m (s1 (swp B m 0))=sW m (s1 B) from my fun i hi=>by unfold s1 swp;rw [if_neg (by omega)]]
   exact .cons .here .nil
 intro k hk
 have tu:=hG (oe (swp B m k) m)
 by_cases aM:k<m-1-k
 ·have hj:m-1-k<m:=by omega
  have Rg:k<m:=by omega
  have c1:=HU (B:=swp B m k) cur Rg
  have c2:=HU (B:=swp B m k) cur hj
  have J9:=HT (C:=fun i=>if i=k then swp B m k (m-1-k) else swp B m k i) cur Rg (v:=swp B m k (m-1-k)) (B:=swp B m k) fun i _=>rfl
  have Rr:=HT (C:=swp B m (k+1)) cur hj (v:=swp B m k k) (B:=fun i=>if i=k then swp B m k (m-1-k) else swp B m k i) fun i hi=>by
   symm
   unfold swp
   by_cases e1:i=m-1-k
   ·subst e1
    rw [if_pos rfl,if_neg (by omega),if_pos (by omega)]
    congr 1;omega
   ·rw [if_neg e1]
    by_cases e2:i=k
    ·subst e2
     rw [if_pos rfl,if_neg (by omega),if_pos (by omega)]
    ·rw [if_neg e2]
     by_cases e3:i<k∨m-k≤i
     ·rw [if_pos e3,if_pos (by omega)]
     ·rw [if_neg e3,if_neg (by omega)]
  have tw:k*1+1≤(sW m (s1 (swp B m k))++cur).length:=by rw [Zg,tu];omega
  have tL:(m-1-k)*1+1≤(sW m (s1 (fun i=>if i=k then swp B m k (m-1-k) else swp B m k i))++cur).length:=by rw [Zg,hG (oe _ m)];omega
  refine Jq<|Jr<|Jv rfl<|Jv rfl<|JA rfl<|Jn<|Jd rfl fun az=>Jk<|Jq<|J0 ?_
  with_reducible refine L5 16 rfl ?_
  (refine eO 0 rfl mo mo mo (fun w ρ=>rfl) (fun w=>(aN (.of rfl))) rfl<|eO 1 rfl mo mo mo (fun w ρ=>rfl) (fun w=>(aN (.of rfl))) rfl<|eO 2 rfl mo mo mo (fun w ρ=>rfl) (fun w=>(aN (.of rfl))) rfl<|eO 3 rfl mo mo mo (fun w ρ=>rfl) (fun w=>(aN (.of rfl))) rfl<|eO 4 rfl mo mo mo (fun w ρ=>rfl) (fun w=>(aN (.of rfl))) rfl<|eO 5 rfl mo mo mo (fun w ρ=>rfl) (fun w=>(aN (.of rfl))) rfl<|eO 6 rfl mo mo mo (fun w ρ=>rfl) (fun w=>(ar (.of rfl) (.of rfl) rfl (by omega) (by omega) bb)) rfl<|eO 8 rfl mo mo mo (fun w ρ=>rfl) (fun w=>(aN (.of rfl))) rfl<|eO 9 rfl mo mo mo (fun w ρ=>rfl) (fun w=>(aN (.of rfl))) rfl<|eO 10 rfl mo mo mo (fun w ρ=>rfl) (fun w=>(ar (.of rfl) (.of rfl) rfl (by omega) (by omega) bb)) rfl ?_)
  refine cC (rs:=[7,11]) (by kernel_rfl) (by simp) (ZA.2 ⟨?_,ZA.2 ⟨?_,fun _ h=>absurd h Zp⟩⟩)
  ·refine cQ rfl ?_
   (refine ab (ag (.of rfl) (At.jL .here c2)) rfl<|Jn ?_)
   ·refine cC (rs:=[11]) (by kernel_rfl) (by simp) (ZA.2 ⟨?_,fun _ h=>absurd h Zp⟩)
    refine cQ rfl ?_
    (refine ab (ag (.of rfl) (At.jL .here c1)) rfl<|Jn ?_)
    refine eO 12 rfl mo mo mo (fun w ρ=>rfl) (fun w=>(ar (.of rfl) (.of rfl) rfl (by omega) (by omega) bb)) rfl ?_
    refine cC (rs:=[13]) (by kernel_rfl) (by simp) (ZA.2 ⟨?_,fun _ h=>absurd h Zp⟩)
    refine cQ rfl ?_
    with_reducible apply aq
    case hx=>exact Is.of rfl
    case hy=>exact Is.of rfl
    case ht=>exact .here
    case hv=>exact rfl
    case hl=>rfl
    case h1=>exact bM rfl gq
    case h2=>exact tw
    case he=>exact J9
    refine Jn ?_
    refine eO 14 rfl mo mo mo (fun w ρ=>rfl) (fun w=>(ar (.of rfl) (.of rfl) rfl (by omega) (by omega) bb)) rfl ?_
    refine cC (rs:=[15]) (by kernel_rfl) (by simp) (ZA.2 ⟨?_,fun _ h=>absurd h Zp⟩)
    refine cQ rfl ?_
    with_reducible apply aq
    case hx=>exact Is.of rfl
    case hy=>exact Is.of rfl
    case ht=>exact .here
    case hv=>exact rfl
    case hl=>rfl
    case h1=>exact bM rfl gq
    case h2=>exact tL
    case he=>exact Rr
    refine Jn ?_
    with_reducible refine cH (by kernel_rfl) ?_
    refine Jj<|Jt<|Jg<|Jv rfl<|JB rfl (by omega)<|Jv rfl<|JS rfl (by omega)<|Ja rfl<|Ja rfl<|Jn ?_
    apply aK (k+1) (by omega) (by omega)
    case hs1=>exact .cons rfl (.KG rfl (by congr 1;omega) (.cons rfl .nil))
    case ht=>exact l6
  ·refine cQ rfl ?_
   (refine ab (ag (.of rfl) (At.jL .here c1)) rfl<|Jn ?_)
   ·refine cC (rs:=[7]) (by kernel_rfl) (by simp) (ZA.2 ⟨?_,fun _ h=>absurd h Zp⟩)
    refine cQ rfl ?_
    (refine ab (ag (.of rfl) (At.jL .here c2)) rfl<|Jn ?_)
    refine eO 12 rfl mo mo mo (fun w ρ=>rfl) (fun w=>(ar (.of rfl) (.of rfl) rfl (by omega) (by omega) bb)) rfl ?_
    refine cC (rs:=[13]) (by kernel_rfl) (by simp) (ZA.2 ⟨?_,fun _ h=>absurd h Zp⟩)
    refine cQ rfl ?_
    with_reducible apply aq
    case hx=>exact Is.of rfl
    case hy=>exact Is.of rfl
    case ht=>exact .here
    case hv=>exact rfl
    case hl=>rfl
    case h1=>exact bM rfl gq
    case h2=>exact tw
    case he=>exact J9
    refine Jn ?_
    refine eO 14 rfl mo mo mo (fun w ρ=>rfl) (fun w=>(ar (.of rfl) (.of rfl) rfl (by omega) (by omega) bb)) rfl ?_
    refine cC (rs:=[15]) (by kernel_rfl) (by simp) (ZA.2 ⟨?_,fun _ h=>absurd h Zp⟩)
    refine cQ rfl ?_
    with_reducible apply aq
    case hx=>exact Is.of rfl
    case hy=>exact Is.of rfl
    case ht=>exact .here
    case hv=>exact rfl
    case hl=>rfl
    case h1=>exact bM rfl gq
    case h2=>exact tL
    case he=>exact Rr
    refine Jn ?_
    with_reducible refine cH (by kernel_rfl) ?_
    refine Jj<|Jt<|Jg<|Jv rfl<|JB rfl (by omega)<|Jv rfl<|JS rfl (by omega)<|Ja rfl<|Ja rfl<|Jn ?_
    apply aK (k+1) (by omega) (by omega)
    case hs1=>exact .cons rfl (.KG rfl (by congr 1;omega) (.cons rfl .nil))
    case ht=>exact l6
 ·have W7:sW m (s1 (swp B m k))=sW m (s1 fun i=>B (m-1-i)):=my fun i hi=>by
   unfold s1 swp
   by_cases e:i<k∨m-k≤i
   ·rw [if_pos e]
   ·rw [if_neg e];show [Value.string (B i)]=[Value.string (B (m-1-i))];rw [show m-1-i=i by omega]
  rw [W7]
  have Fe:=hG (oe (fun i=>B (m-1-i)) m)
  refine cN (n:=m) (cap:=cap) (sz:=1) (show Take _ (bH g (.cells ((sW m (s1 fun i=>B (m-1-i)))++cur).toArray 9 (0,0))) _ by exact .here) dj z6 (by rw [Zg,Fe];rw [Zg,ON] at hsz;omega) Fe ?_
  refine Jq<|Jr<|Jv rfl<|Jv rfl<|JA rfl<|Jn<|Jc rfl fun az=>Jp<|Jl<|Jo ?_
  first | with_reducible apply aO | with_reducible apply aP
  case he=>exact pO rfl
  case hR=>
   intro w' aA
   exact aG () trivial (by exact .cons .here .nil) aA rfl
theorem EH (l:List ByteArray):aL l=sW l.length (s1 fun i=>l.getD i ⟨#[]⟩):=by
 rw [Dd]
 apply Zap
 intro k
 have h1:((List.range l.length).map (s1 fun i=>l.getD i ⟨#[]⟩)).flatten=(List.range l.length).map fun i=>Value.string (l.getD i ⟨#[]⟩):=by
  have:=lp ((List.range l.length).map fun i=>Value.string (l.getD i ⟨#[]⟩))
  rw [ZaH] at this
  exact this
 rw [h1]
 unfold aL
 by_cases h:k<l.length
 ·simp [h,Zk]
 ·simp [h]
theorem Mf (l:List ByteArray):aL l.reverse=sW l.length (s1 fun i=>l.getD (l.length-1-i) ⟨#[]⟩):=by
 rw [EH,List.length_reverse]
 apply my
 intro i hi
 show [Value.string (l.reverse.getD i ⟨#[]⟩)]=[Value.string (l.getD (l.length-1-i) ⟨#[]⟩)]
 rw [Zk,Zk,List.getElem?_reverse hi]
theorem Dq {w:World} {fp:List Nat} {v:Value} {l:List ByteArray} {n:Nat} (hl:n=l.length) (hm:n≤1000000) (hn:fp.Nodup) (hs:ct (hp w) [row 9 1 v n (aL l)] fp) :
  bu Tryz.prog 117 [v] w fp (fun _:Unit=>True) (fun _=>.tuple #[]) (fun _=>[row 9 1 v n (aL l.reverse)]):=by
 subst hl
 by_cases h0:0<l.length
 ·rw [EH] at hs
  rw [Mf]
  exact HZ h0 hm hn hs
 ·obtain rfl:l=[]:=Z0 (by omega)
  show bu Tryz.prog 117 [v] w fp (fun _:Unit=>True) (fun _=>.tuple #[]) (fun _=>[row 9 1 v 0 []])
  replace hs:ct (hp w) [row 9 1 v 0 []] fp:=hs
  refine eb Tryz.func117 rfl rfl hn hs ?_
  refine aT (E:=9) (sz:=1) (by exact .here) fun a cp e=>?_
  subst e
  refine Jr<|Jv rfl<|JI rfl<|JS rfl (by omega)<|Ja rfl<|Ja rfl<|Jn<|J0 ?_
  refine aW (fun _:Nat=>True) (fun k=>[(2,.int .i64 0),(3,.int .i64 (-1)),(0,.slice a 0 cp)]) (fun k=>[row 9 1 (.slice a 0 cp) 0 []]) (fun k=>k) ?_ ?_
  ·apply aI 0 trivial
   case hs1=>exact cg
   case ht=>exact l6
  intro k _
  refine Jq<|Jr<|Jv rfl<|Jv rfl<|JA rfl<|Jn<|Jc rfl fun az=>Jp<|Jl<|Jo ?_
  first | with_reducible apply aO | with_reducible apply aP
  case he=>exact pO rfl
  case hR=>
   intro w' aA
   exact aG () trivial (by exact .cons .here .nil) aA rfl
theorem K3 {r:Ro} {s d t p:Value} (v:Int) (o:ByteArray) {y:Nat×Nat×Nat} {w:World} {fp:List Nat} (lj:fp.Nodup) (hs:ct (hp w) [bH y.1 (.cells #[.string o] 9 (0,0)),JP y.2.1 r s d t p,bH y.2.2 (.cells #[.int .i64 v] 3 (0,0))] fp)
  (h:RR w r s d t p) (hO:RO fp r s d t p) (cT:r.ti.length≤1000000) :
  bu Tryz.prog 221 [.slice none 0 0,.func (.func 222) #[] #[.pointer (some ⟨y.1,0,none⟩),.pointer (some ⟨y.2.1,0,none⟩),.pointer (some ⟨y.2.2,0,none⟩)]] w fp (fun _:Value=>True) id (fun v1=>[row 9 1 v1 (eI r.po v (r.ti.length+1) o).length (aL (eI r.po v (r.ti.length+1) o))]):=by
 have hlen:=iC r.po v (r.ti.length+1) o
 refine eb Tryz.func221 rfl rfl lj hs ?_
 refine Jr<|Jy rfl rfl fun _ _=>Ja rfl<|Jn<|Jq<|Jr<|Jv rfl<|Jn<|J0 ?_
 rename_i b2 tL
 refine aQ 9 1 ?_
 refine jn (ps:=[7]) (f:=222) (first:=[]) (cap:=[.pointer (some ⟨y.1,0,none⟩),.pointer (some ⟨y.2.1,0,none⟩),.pointer (some ⟨y.2.2,0,none⟩)]) (ι:=Nat×Value) (κ:=Empty) (rst:=[]) ?hg
  [bH y.1 (.cells #[.string o] 9 (0,0)),JP y.2.1 r s d t p,bH y.2.2 (.cells #[.int .i64 v] 3 (0,0))] (wV r.po v (r.ti.length+1) o) ?hit
  (fun k x=>x.1=k∧k≤(eI r.po v (r.ti.length+1) o).length)
  (fun x=>[bH b2 (.cells #[x.2] 32 (0,0)),row 9 1 x.2 x.1 (aL ((eI r.po v (r.ti.length+1) o).take x.1))])
  (fun _=>False) (fun _=>[]) (fun _=>.ret) (0,.slice none 0 0) ⟨rfl,Zi _⟩ ?ht ?hlen ?hps ?round ?kn ?kj
 case hg=>exact Is.of rfl
 case hit=>intro w' aA;exact Dz v o h hO cT
 case ht=>
  exact .cons (.there .here) (.cons .here (.cons .here (.cons .here (.cons .here .nil))))
 case hlen=>intro vs oF;obtain ⟨x,_,rfl⟩:=Zt.1 oF;rfl
 case hps=>intro t ht;simp only [ZS,Zp,or_false] at ht;subst ht;exact Zav rfl
 case kj=>intro y;cases y
 case kn=>
  rintro ⟨n,v1⟩ D ⟨hq,_⟩
  dsimp only [Zb,Za] at hq ⊢
  rw [rm] at hq
  subst hq
  rw [ZN]
  refine Jj<|Jt<|Jr<|JL rfl .here rfl<|Ja rfl<|Jn<|Je ?_
  refine aT (E:=9) (sz:=1) (by exact Take.there .here) fun va vc e=>?_
  subst e
  skip
  first | with_reducible apply aO | with_reducible apply aP
  case he=>exact dH rfl rfl
  case hR=>
   intro w' aA
   exact aG (.slice va (eI r.po v (r.ti.length+1) o).length vc) trivial (by exact .cons (.there .here) .nil) aA rfl
 case round=>
  rintro l2 rc W US k ⟨n,v1⟩ vs hsz hk ⟨hq,Nx⟩ hB hF
  dsimp only at hq
  subst hq
  obtain ⟨a,hit,rfl,B6⟩:=Dy hk
  obtain ⟨aM,J8⟩:=Zl.1 B6
  have htk:aL ((eI r.po v (r.ti.length+1) o).take (n+1))=aL ((eI r.po v (r.ti.length+1) o).take n)++[.string a]:=by rw [Zn aM,J8,eU];rfl
  have tu:(aL ((eI r.po v (r.ti.length+1) o).take n)).length=n*1:=by rw [c7,ZaK (by omega),Zaq]
  dsimp only [List.zip_cons_cons,List.zip_nil_right,mh,Zb,Za]
  refine Jg<|Ja rfl<|Jn ?_
  with_reducible apply mw
  case ht=>exact .here
  refine aT (E:=9) (sz:=1) bL fun v1 v2 e=>?_
  subst e
  refine J0<|Jg<|JL rfl (.there .here) rfl<|Jv rfl<|br (aC (.cons (.of rfl) .nil) rfl rfl rfl rfl) rfl fun _ _=>?_
  refine bF (.of rfl) (.of rfl) cW .here ak (by rfl) (en rfl) (by rfl) (by rfl) (by rfl) eC (by rfl) ?_
  intro v'
  refine aT (by exact .here) fun a' gL e=>?_
  subst e
  (refine aq (.of rfl) (.of rfl) cW rfl rfl (en rfl) (bG rfl) ak<|Jx<|Jj ?_)
  apply lM (n+1,.slice a' (n+1) gL)
  case ht=>exact cW
  case hx=>exact ⟨rfl,aM⟩
  case h2=>
   show bD _ [bH b2 (.cells #[.slice a' (n+1) gL] 32 (0,0)),row 9 1 (.slice a' (n+1) gL) (n+1) (aL ((eI r.po v (r.ti.length+1) o).take (n+1)))] _
   rw [htk]
   exact .cons .here (.cons .here .nil)
theorem KH {r:Ro} {s d t p:Value} (v:Int) (o:ByteArray) {y:Nat×Nat×Nat} {w:World} {fp:List Nat} (lj:fp.Nodup) (hs:ct (hp w) [bH y.1 (.cells #[.string o] 9 (0,0)),JP y.2.1 r s d t p,bH y.2.2 (.cells #[.int .i64 v] 3 (0,0))] fp)
  (h:RR w r s d t p) (hO:RO fp r s d t p) (cT:r.ti.length≤1000000) :
  bu Tryz.prog 115 [.func (.func 222) #[] #[.pointer (some ⟨y.1,0,none⟩),.pointer (some ⟨y.2.1,0,none⟩),.pointer (some ⟨y.2.2,0,none⟩)]] w fp (fun _:Value=>True) id (fun v1=>[row 9 1 v1 (eI r.po v (r.ti.length+1) o).length (aL (eI r.po v (r.ti.length+1) o))]):=by
 refine eb Tryz.func115 rfl rfl lj hs ?_
 refine Jr<|Ja rfl<|Ji<|Jv rfl ?_
 with_reducible apply fP (As:=[bH y.1 (.cells #[.string o] 9 (0,0)),JP y.2.1 r s d t p,bH y.2.2 (.cells #[.int .i64 v] 3 (0,0))])
 case hr=>exact bj
 case hd=>rfl
 case ht=>exact l6
 case hc=>
  intro w1 AT aR vA hs1 CQ _
  exact K3 v o vA hs1 (h.jB hO aR.keeps) (h.out hO CQ) cT
 intro v1 _
 dsimp only [id_eq,Zb,Za]
 refine Ja rfl<|Jn<|Je ?_
 first | with_reducible apply aO | with_reducible apply aP
 case he=>exact dH rfl rfl
 case hR=>
  intro w' aA
  exact aG v1 trivial (by exact .cons .here .nil) aA rfl
def A2 (r:Ro) (v:Int) (o:ByteArray):Int:=aX [fX r,CN r v,ph r o]
def kH (r:Ro) (v:Int) (o:ByteArray):List ByteArray:=if eI r.po v (r.ti.length+1) o=[] then [] else (eI r.po v (r.ti.length+1) o).reverse++[o]
def C2 (r:Ro) (v:Int) (o:ByteArray):List ByteArray:=if A2 r v o≠0 then [] else kH r v o
theorem On {r:Ro} {s d t p:Value} (v:Int) (o:ByteArray) {w:World} (h:RR w r s d t p) (cT:lD r):bu Tryz.prog 22 [RA r s d t p,.int .i64 v,.string o] w [] (fun _:Value=>True) (fun x=>.tuple #[x,.int .i64 (A2 r v o)]) (fun x=>[row 9 1 x (C2 r v o).length (aL (C2 r v o))]):=by
 have h1:=Rd.one h.sr
 have h2:=Rd.one h.de
 have h3:=Rd.one h.ti
 have h4:=Rd.one h.po
 have afU:=cT.2.2
 have eQ:∀ w',aJ [] w w'→aj Tryz.prog 34 [.agg #[.int .i64 r.lv,.int .i64 r.ma,s,d,t,p]] w' (.int .i64 (fX r)):=fun w' hk=>eH (h.keeps hk) cT
 have hle:∀ w',aJ [] w w'→aj Tryz.prog 114 [.agg #[.int .i64 r.lv,.int .i64 r.ma,s,d,t,p],.int .i64 v] w' (.int .i64 (CN r v)):=fun w' hk=>kT v (h.keeps hk)
 have mq:∀ w',aJ [] w w'→aj Tryz.prog 112 [.agg #[.int .i64 r.lv,.int .i64 r.ma,s,d,t,p],.string o] w' (.int .i64 (ph r o)):=fun w' hk=>eA o (h.keeps hk)
 unfold RA
 refine aS Tryz.func22 rfl rfl ?_
 refine Jr<|Jy rfl rfl fun _ _=>Ja rfl<|Ja rfl<|Jn<|Jq<|Jq ?_
 rename_i b3 vI
 with_reducible refine cZ 9 (by kernel_rfl) ?_
 (refine ao (cR .here) rfl<|aY bN rfl (fun w' aA=>(eQ w' (Mem.keeps aA)))<|ao (cR .here) rfl<|ao l7 rfl<|aY bj rfl (fun w' aA=>(hle w' (Mem.keeps aA)))<|ao (cR .here) rfl<|ao l7 rfl<|aY bj rfl (fun w' aA=>(mq w' (Mem.keeps aA)))<|eB (aC (.cons (.of rfl) (.cons (.of rfl) (.cons (.of rfl) .nil))) rfl rfl rfl rfl) rfl rfl ?_)
 with_reducible refine dB rfl fun bq nq=>?_
 (refine ai bN rfl (fun w' aA=>(dO (Mem.dw aA .here rfl rfl) (bY.cons (bY.cons (bY.cons bY.nil)))))<|Ja rfl<|Ji<|Jv rfl<|JD rfl<|Jn<|gm rfl (fun az=>?_) fun az=>?_;refine Jr<|Jv rfl<|Ja rfl<|Ja rfl<|Jn<|Ju ?_;rotate_left;refine Jk<|Jr<|ab (cR (.there .here)) rfl<|Jv rfl<|Jv rfl ?_;rotate_right)
 ·have e1:C2 r v o=[]:=if_pos az
  rw [e1]
  refine aQ 9 1 ?_
  first | with_reducible apply aO | with_reducible apply aP
  case he=>exact fV rfl rfl rfl
  case hR=>
   intro w' aA
   exact aG (.slice none 0 0) trivial (by exact .cons .here .nil) aA rfl
 have e1:C2 r v o=kH r v o:=if_neg az
 have e0:aX [fX r,CN r v,ph r o]=0:=Zo.1 az
 have e2:A2 r v o=0:=e0
 clear az
 rw [e1,e2]
 refine JN eM rfl (fun w1 aR=>u5 v o (h.keeps aR.keeps)) ?_
 intro y _
 dsimp only [id_eq,Zb,Za]
 skip
 with_reducible apply fP (As:=[bH y.1 (.cells #[.string o] 9 (0,0)),JP y.2.1 r s d t p,bH y.2.2 (.cells #[.int .i64 v] 3 (0,0))])
 case hr=>exact bN
 case hd=>rfl
 case ht=>exact l6
 case hc=>
  intro w1 AT aR vA hs1 CQ _
  exact KH v o vA hs1 (h.keeps aR.keeps) (h.out (md:=[]) RO.nil (fun b hb=>CQ b hb)) (by omega)
 intro v1 _
 have hlen:=iC r.po v (r.ti.length+1) o
 dsimp only [id_eq,Zb,Za]
 refine aT (E:=9) (sz:=1) (by exact .here) fun va vc e=>?_
 subst e
 unfold kH
 generalize hL:eI r.po v (r.ti.length+1) o=L at hlen ⊢
 (refine Ja rfl<|Jn<|Jq<|Jr<|Jv rfl<|JI rfl<|JC rfl<|Jn<|gm rfl (fun az=>?_) fun az=>?_;refine Jr<|Ja rfl<|Ja rfl<|Jn<|Ju ?_;rotate_left;refine Jk<|Jr<|Jv rfl ?_;rotate_right)
 ·have JV:L=[]:=Z0 (by omega)
  rw [if_pos JV]
  refine aQ 9 1 ?_
  first | with_reducible apply aO | with_reducible apply aP
  case he=>exact fV rfl rfl rfl
  case hR=>
   intro w' aA
   exact aG (.slice none 0 0) trivial (by exact .cons .here .nil) aA rfl
 have hnn:¬ L=[]:=fun e=>by rw [e] at az;exact az rfl
 rw [if_neg hnn]
 with_reducible apply fP (As:=[row 9 1 (.slice va L.length vc) L.length (aL L)])
 case hr=>exact bN
 case hd=>rfl
 case ht=>exact l6
 case hc=>
  intro w1 AT aR vA hs1 CQ _
  exact Dq rfl (by omega) vA hs1
 intro _ _
 have bh:aL (L.reverse++[o])=aL L.reverse++[.string o]:=by rw [eU];rfl
 have hlr:(aL L.reverse).length=L.length*1:=by rw [c7,List.length_reverse,Zaq]
 have Fe:(L.reverse++[o]).length=L.length+1:=by simp
 rw [Fe,bh]
 dsimp only [id_eq,Zb,Za]
 refine Ji<|Jv rfl<|Jv rfl<|br (aC (.cons (.of rfl) .nil) rfl rfl rfl rfl) rfl fun _ _=>?_
 refine bF (.of rfl) (.of rfl) (.there .here) .here ak (by rfl) (en rfl) (by rfl) (by rfl) (by rfl) eC (by rfl) ?_
 intro v'
 refine Ja rfl<|Ja rfl<|Jn<|Je ?_
 first | with_reducible apply aO | with_reducible apply aP
 case he=>exact fV rfl rfl rfl
 case hR=>
  intro w' aA
  exact aG v' trivial (by exact .cons .here .nil) aA rfl
theorem Gg {α:Type} {R:α→α→Prop} (ht:∀ a b c,R a b→R b c→R a c):∀ {l:List α},(∀ k (h:k+1<l.length),R l[k] l[k+1])→l.Pairwise R:=by
 intro l h
 rw [Z4]
 intro i j hi hj wY
 obtain ⟨d,rfl⟩:∃ d,j=i+1+d:=⟨j-(i+1),by omega⟩
 clear wY
 induction d with
 | zero=>exact h i hj
 | succ d ih=>exact ht _ _ _ (ih (by omega)) (h (i+1+d) hj)
theorem oP {a b c d:Int}:¬ lI [a,b] [c,d]≤0↔c<a∨c=a∧d<b:=by
 unfold lI
 by_cases h1:kr a c=0
 ·rw [if_neg (not_not_intro h1)]
  have:=iB.1 h1
  unfold lI
  by_cases h2:kr b d=0
  ·rw [if_neg (not_not_intro h2)]
   have:=iB.1 h2
   unfold lI
   omega
  ·rw [if_pos h2]
   unfold kr at h2 ⊢
   split at h2 <;> split <;> first | omega | (split <;> omega)
 ·rw [if_pos h1]
  have CR:a≠c:=fun e=>h1 (iB.2 e)
  unfold kr
  split
  ·omega
  ·split <;> omega
theorem Iz {r:Ro} (hd:CT r) (h6:r.ti.length≤6):pR r:=by
 obtain ⟨_,_,_,d1,d2,d3⟩:=hd.parts
 exact ⟨d1,d2,d3,by unfold cM;rw [Zd];exact h6⟩
structure rR (r:Ro):Prop where
 lim:1≤r.lv∧r.lv≤3∧1≤r.ma∧r.ma≤4
 Pp:CT r
 len:r.sr.length≤8∧r.de.length≤8∧r.ti.length≤6
 sm:∀ x∈r.sr,0≤x.mx∧x.mx<r.ma
 dm:∀ x∈r.de,0≤x.mx∧x.mx<r.ma
 tm:∀ x∈r.ti,(0≤x.fr∧x.fr<r.ma)∧(0≤x.to∧x.to<r.ma)∧x.fr≠x.to
 val:iJ r r.po
theorem rR.ui {r:Ro} (h:rR r):pR r:=Iz h.Pp h.len.2.2
theorem jr {r:Ro} {m:Int}:fg r m=0↔0≤m∧m<r.ma:=by
 unfold fg
 rw [bO (by decide)]
 simp
theorem It {r:Ro} (hd:∀ x∈r.de,0≤x.mx) (ht:∀ x∈r.ti,0≤x.fr) {s:ByteArray} (h:0≤kC r s):s∈cq r∨s∈cM r:=by
 by_cases h1:s∈cq r
 ·exact .inl h1
 ·by_cases h2:s∈cM r
  ·exact .inr h2
  ·unfold kC at h
   have f1:=cm.2 h1
   have f2:=cm.2 h2
   rw [if_neg (by omega),if_neg (by omega)] at h
   omega
theorem IV {r:Ro} {s:ByteArray} (h:0≤j7 r s):s∈cF r∨s∈cM r:=by
 by_cases h1:s∈cF r
 ·exact .inl h1
 ·by_cases h2:s∈cM r
  ·exact .inr h2
  ·unfold j7 at h
   have f1:=cm.2 h1
   have f2:=cm.2 h2
   rw [if_neg (by omega),if_neg (by omega)] at h
   omega
theorem mY {r:Ro} {x:Po} (h:mi r x=0):(0≤x.lv∧x.lv<r.lv)∧0≤kC r x.ou∧0≤j7 r x.ip∧kC r x.ou=j7 r x.ip:=by
 unfold mi at h
 rw [cy] at h
 have h1:=gn.1 (h _ Zq)
 have h2:=(bO (by decide)).1 (h (ch (decide (kC r x.ou<0)) 10) (by simp))
 have h3:=(bO (by decide)).1 (h (ch (decide (j7 r x.ip<0)) 10) (by simp))
 have h4:=(bO (by decide)).1 (h (ch (decide (kC r x.ou≠j7 r x.ip)) 24) (by simp))
 simp only [decide_eq_false_iff_not,ne_eq,Zo] at h2 h3 h4
 exact ⟨by omega,by omega,by omega,h4⟩
theorem lA {r:Ro} {q:Int→Bool}:jV r q=false↔∀ v:Int,0≤v→v<r.lv→q v=false:=by
 unfold jV
 rw [Z9]
 constructor
 ·intro h v h0 h1
  have:=h v.toNat (ZQ.2 (by omega))
  rw [show ((v.toNat:Nat):Int)=v by omega] at this
  simpa using this
 ·intro h i hi
  have:=ZQ.1 hi
  rw [h i (by omega) (by omega)];decide
theorem CM {r:Ro} (h:fX r=0):rR r:=by
 obtain ⟨h1,h2,h3,h4⟩:=sL h
 obtain ⟨kQ,hlen,hs,hd,ht⟩:=zF h2
 have hdm:∀ x∈r.de,0≤x.mx∧x.mx<r.ma:=fun x hx=>jr.1 (hd x hx)
 have VC:∀ x∈r.ti,(0≤x.fr∧x.fr<r.ma)∧(0≤x.to∧x.to<r.ma)∧x.fr≠x.to:=fun x hx=>by
  have:=ht x hx
  unfold nI at this
  rw [cy] at this
  have g3:=(bO (by decide)).1 (this (ch (decide (x.fr=x.to)) 24) (by simp))
  exact ⟨jr.1 (this _ (by simp)),jr.1 (this _ (by simp)),by simpa using g3⟩
 have hp:∀ k (hk:k<r.po.length),mi r r.po[k]=0∧¬ lI [(r.po[k]).lv,dX r (r.po[k]).ou] (Eh r (if k=0 then none else r.po[k-1]?))≤0:=fun k hk=>by
  have:=dS.1 h3 k hk
  rw [rk hk] at this
  by_cases e:mi r r.po[k]=0
  ·rw [if_neg (not_not_intro e)] at this
   by_cases e2:lI [(r.po[k]).lv,dX r (r.po[k]).ou] (Eh r (if k=0 then none else r.po[k-1]?))≤0
   ·rw [if_pos e2] at this;exact absurd this (by decide)
   ·exact ⟨e,e2⟩
  ·rw [if_pos e] at this;exact absurd this e
 have Js:∀ p∈r.po,mi r p=0:=fun p nB=>by
  obtain ⟨k,hk,rfl⟩:=Zu nB
  exact (hp k hk).1
 have Re:∀ p∈r.po,0≤p.lv∧p.lv<r.lv:=fun p nB=>(mY (Js p nB)).1
 have hti:(cM r).length=r.ti.length:=by unfold cM;rw [Zd]
 unfold zQ at h4
 rw [cy] at h4
 have Uu:=lA.1 ((bO (by decide)).1 (h4 (ch (jV r fun v=>r.ti.any (LB r v)) 33) (by simp)))
 have Xl:=lA.1 ((bO (by decide)).1 (h4 (ch (jV r fun v=>r.ti.any (Ir r v)) 32) (by simp)))
 have Gx:∀ v:Int,¬ (0≤v∧v<r.lv)→∀ o,ek r.po v o=none:=fun v hv o=>ie.2 fun p nB e=>hv (e.1 ▸ Re p nB)
 refine ⟨vh h1,kQ,hlen,fun x hx=>jr.1 (hs x hx),hdm,VC,?_,Re,?_,?_,?_,?_,?_⟩
 ·refine Gg (R:=fun a b=>pK r a b=true) (fun a b c h h'=>yq h h') fun k hk=>?_
  have:=(hp (k+1) hk).2
  rw [if_neg (by omega),Zas,Zc (by omega)] at this
  have:=oP.1 this
  unfold pK
  simp only [ZO,Zm,decide_eq_true_eq]
  exact this
 ·exact fun p nB=>It (fun x hx=>(hdm x hx).1) (fun x hx=>(VC x hx).1.1) (mY (Js p nB)).2.1
 ·exact fun p nB=>IV (mY (Js p nB)).2.2.1
 ·exact fun p nB=>(mY (Js p nB)).2.2.2
 ·rintro v ⟨t,Gt,hc⟩
  rw [hti] at hc
  by_cases hv:0≤v∧v<r.lv
  ·obtain ⟨x,hx,rfl⟩:=Zt.1 Gt
   have:=Z9.1 (Uu v hv.1 hv.2) x hx
   exact this (eV.2 hc)
  ·rw [rL (Gx v hv t)] at hc
   cases hc
 ·intro v t Gt
  by_cases hv:0≤v∧v<r.lv
  ·obtain ⟨x,hx,rfl⟩:=Zt.1 Gt
   have:=Z9.1 (Xl v hv.1 hv.2) x hx
   unfold Ir at this
   cases h1:gV r.po v x.nm <;> cases h2:nH r.po v x.nm <;> rw [h1,h2] at this <;> simp at this <;> simp
  ·have e1:gV r.po v t=false:=by unfold gV;rw [Gx v hv t];rfl
   have e2:nH r.po v t=false:=by
    unfold nH
    rw [Z9]
    intro p nB e
    unfold zX at e
    simp only [Zm,decide_eq_true_eq] at e
    exact hv (e.1 ▸ Re p nB)
   rw [e1,e2]
theorem sO {r:Ro} (hn:pR r) (h:iJ r r.po) (v:Int) (o:ByteArray):jG r v o=rJ r.po v (cF r) o:=by
 have hti:(cM r).length=r.ti.length:=by unfold cM;rw [Zd]
 have:=GN hn h v o
 rw [hti] at this
 unfold jG rJ
 rw [this]
 by_cases hm:gS r.po v 7 o∈cF r
 ·have h0:=eG hm
  obtain ⟨x,hx,e⟩:=Zt.1 hm
  rw [if_pos (ZM.2 ⟨x,hx,by simpa using e⟩),if_neg (by omega)]
 ·have h0:=cm.2 hm
  rw [if_neg (fun e=>by
   obtain ⟨x,hx,e⟩:=ZM.1 e
   exact hm (Zt.2 ⟨x,hx,by simpa using e⟩)),if_pos h0]
end Go.Proofs.A1
namespace Go.SL
open Go
def kI (E:TypeId) (sz:Nat) (v:Value) (n:Nat) (xs:List Value):bd where
 sat h fp:=xs.length=n*sz∧((fp=[]∧v=.slice none 0 0∧n=0) ∨
  ∃ g off cap cur,fp=[g]∧v=.slice (some ⟨g,off,none⟩) n cap∧h g=some (.cells cur E (0,0))∧n≤cap∧cap≤maxLen∧off+cap*sz≤cur.size∧(cur.toList.drop off).take (n*sz)=xs)
 loc:=by
  rintro h h' fp ⟨hl,h1⟩ hb
  refine ⟨hl,h1.imp id ?_⟩
  rintro ⟨g,off,cap,cur,rfl,rfl,hg,r⟩
  exact ⟨g,off,cap,cur,rfl,rfl,by rw [hb g (by simp)];exact hg,r⟩
 own:=by
  rintro h fp ⟨hl,h1⟩ b hb
  rcases h1 with ⟨rfl,_⟩ | ⟨g,off,cap,cur,rfl,rfl,hg,_⟩
  ·cases hb
  ·rw [ZB] at hb;subst hb;exact ⟨_,hg⟩
theorem og {h:Nat→Option Obj} {E:TypeId} {sz:Nat} {v:Value} {n:Nat} {xs:List Value} {fp:List Nat} (hr:(row E sz v n xs).sat h fp):(kI E sz v n xs).sat h fp:=by
 obtain ⟨e,hl,h1⟩:=hr
 rcases h1 with ⟨rfl,h0⟩ | ⟨g,cap,cur,rfl,hg,h2,h3,h4,h5⟩
 ·exact ⟨hl,.inl ⟨by simpa [Value.ownBlock] using e,rfl,h0⟩⟩
 ·exact ⟨hl,.inr ⟨g,0,cap,cur,by simpa [Value.ownBlock] using e,rfl,hg,h2,h3,by omega,by simpa using h5⟩⟩
section
variable {c:Cx} {D:List Nat} {sl:aH} {hs hs':List bd} {X:Act→World→Prop} {E:TypeId} {sz:Nat} {v:Value} {n:Nat} {xs:List Value}
theorem tU {A B:bd} (ht:Take hs A hs') (hc:∀ h fp,A.sat h fp→B.sat h fp) (k:Tr c D sl (B::hs') X):Tr c D sl hs X:=fun a w bh=>
 k a w (bh.heap (by
  obtain ⟨kk,fp,lj,⟨f1,f2,rfl,h1,h2⟩,hb⟩:=bh.mem.take (ht.append _)
  exact ⟨kk,f1++f2,lj,⟨f1,f2,rfl,hc _ _ h1,h2⟩,hb⟩))
theorem FY (ht:Take hs (row E sz v n xs) hs') (k:Tr c D sl (kI E sz v n xs::hs') X):Tr c D sl hs X:=tU ht (fun _ _ h=>og h) k
theorem xJ (ht:Take hs (kI E sz v n xs) hs') (k:∀ a cap,v=.slice a n cap→n≤cap→cap≤maxLen→Tr c D sl hs X):Tr c D sl hs X:=fun a w bh=>by
 obtain ⟨kk,fp,lj,⟨f1,f2,rfl,⟨_,h1⟩,h2⟩,hb⟩:=bh.mem.take (ht.append _)
 rcases h1 with ⟨_,e,h0⟩ | ⟨g,off,cap,cur,_,e,_,hc,hm,_⟩
 ·subst h0;exact k none 0 e (Zz _) (by unfold maxLen;omega) a w bh
 ·exact k _ cap e hc hm a w bh
theorem A6 (ht:Take hs (kI E sz v n xs) hs') (hn:0<n)
  (k:∀ g off cap pre cur,v=.slice (some ⟨g,off,none⟩) n cap→pre.length=off→n≤cap→cap≤maxLen→off+cap*sz≤(pre++xs++cur).length→xs.length=n*sz→Tr c D sl (bH g (.cells (pre++xs++cur).toArray E (0,0))::hs') X):Tr c D sl hs X:=fun a w bh=>by
 obtain ⟨kk,fp,lj,⟨f1,f2,rfl,⟨hl,h1⟩,h2⟩,hb⟩:=bh.mem.take (ht.append _)
 rcases h1 with ⟨_,_,h0⟩ | ⟨g,off,cap,cur,rfl,e,hg,hc,hm,hfit,htk⟩
 ·omega
 ·have hsz:n*sz≤cap*sz:=Z7 _ hc
  have O2:cur.size=cur.toList.length:=by simp
  have np:cur=(cur.toList.take off++xs++cur.toList.drop (off+n*sz)).toArray:=by
   apply Array.ext'
   show cur.toList=_
   rw [← htk]
   conv=>lhs;rw [← ZZ off cur.toList]
   rw [Zh]
   congr 1
   conv=>lhs;rw [← ZZ (n*sz) (cur.toList.drop off)]
   rw [Zbe]
  refine k g off cap (cur.toList.take off) (cur.toList.drop (off+n*sz)) e ?_ hc hm ?_ hl a w (bh.heap ⟨kk,[g]++f2,lj,⟨[g],f2,rfl,⟨rfl,by rw [← np];exact hg⟩,h2⟩,hb⟩)
  ·rw [Zr];omega
  ·have:=congrArg (fun x:Array Value=>x.toList.length) np
   simp only [ZaO] at this
   rw [← this];exact hfit
theorem xX {h:Nat→Option Obj} {g off cap:Nat} {pre cur:List Value} {fp:List Nat} (hb:(bH g (.cells (pre++xs++cur).toArray E (0,0))).sat h fp) (hp:pre.length=off) (hc:n≤cap) (hm:cap≤maxLen) (hfit:off+cap*sz≤(pre++xs++cur).length) (hl:xs.length=n*sz):(kI E sz (.slice (some ⟨g,off,none⟩) n cap) n xs).sat h fp:=by
 obtain ⟨e,hg⟩:=hb
 refine ⟨hl,.inr ⟨g,off,cap,_,e,rfl,hg,hc,hm,by rw [Zbm];exact hfit,?_⟩⟩
 show ((pre++xs++cur).drop off).take (n*sz)=xs
 rw [Zh,← hp,List.drop_left,← hl,List.take_left]
theorem A5 {g off cap:Nat} {pre cur:List Value} (ht:Take hs (bH g (.cells (pre++xs++cur).toArray E (0,0))) hs') (hp:pre.length=off) (hc:n≤cap) (hm:cap≤maxLen) (hfit:off+cap*sz≤(pre++xs++cur).length) (hl:xs.length=n*sz)
  (k:Tr c D sl (kI E sz (.slice (some ⟨g,off,none⟩) n cap) n xs::hs') X):Tr c D sl hs X:=tU ht (fun _ _ h=>xX h hp hc hm hfit hl) k
theorem A4 {a:Option Addr} {cap:Nat} (ht:Take hs (kI E sz (.slice a (n+1) cap) (n+1) xs) hs') (k:Tr c D sl (kI E sz (Go.sliced a 1 (n+1) cap sz) n (xs.drop sz)::hs') X):Tr c D sl hs X:=
 tU ht (fun h fp hr=>by
  obtain ⟨hl,h1⟩:=hr
  rcases h1 with ⟨_,_,h0⟩ | ⟨g,off,gL,cur,rfl,e,hg,hc,hm,hfit,htk⟩
  ·omega
  ·obtain ⟨rfl,-,rfl⟩:=Value.slice.inj e
   have Fe:(xs.drop sz).length=n*sz:=by rw [Zbd,hl,Zaf];omega
   refine ⟨Fe,.inr ?_⟩
   have TL:(cur.toList.drop (off+sz)).take (n*sz)=xs.drop sz:=by
    rw [← htk,List.drop_take,Zbe,show (n+1)*sz-sz=n*sz by rw [Zaf];omega]
   by_cases VZ:cap=1
   ·subst VZ
    have JX:n=0:=by omega
    subst JX
    refine ⟨g,off,0,cur,rfl,?_,hg,Zz _,by omega,by omega,?_⟩
    ·simp [Go.sliced]
    ·rw [← TL];simp
   ·refine ⟨g,off+sz,cap-1,cur,rfl,?_,hg,by omega,by omega,?_,TL⟩
    ·simp only [Go.sliced,if_neg VZ,Zbl,Addr.add,Nat.one_mul,Zas]
     by_cases h0:sz=0
     ·rw [if_pos h0,h0];rfl
     ·rw [if_neg h0]
    ·have:cap*sz=(cap-1)*sz+sz:=by
      rw [← Zaf];congr 1;omega
     omega) k
end
end Go.SL
namespace Go.SL
open Go Go.Shelf Go.RowKit Go.Proofs Go.Lib Go.Sort
theorem aJ.grown {w w':World} (h:aJ [] w w'):∃ q os',w'=Go.Sort.grow (w.drewN q) os':=by
 refine ⟨w'.drawn-w.drawn,w'.heap.extract w.heap.size w'.heap.size,?_⟩
 have hd:=h.dr
 have hh:w'.heap=w.heap++w'.heap.extract w.heap.size w'.heap.size:=by
  apply Array.ext_getElem?
  intro k
  by_cases hk:k<w.heap.size
  ·rw [Array.getElem?_append_left hk]
   exact h.block k hk (by simp)
  ·rw [Array.getElem?_append_right (by omega),Array.getElem?_extract]
   have hs:=h.size
   by_cases eF:k<w'.heap.size
   ·rw [if_pos (by omega)]
    congr 1;omega
   ·rw [if_neg (by omega),Zbt (by omega)]
 cases w'
 cases w
 have h1:=h.os
 have h2:=h.tape
 have h3:=h.output
 simp only at h1 h2 h3 hh hd
 subst h1;subst h2;subst h3
 simp only [Go.Sort.grow,World.drewN]
 congr 1
 omega
section
variable {P:Program} {α:Type} [Inhabited α]
theorem vL {enc:α→List Value} {k:Nat} (hk:∀ x,(enc x).length=k) (l:List α):(Go.Sort.flatK enc k l.toArray).toList=(l.map enc).flatten:=by
 have sy:=iU hk l
 apply Zap
 intro t
 by_cases ht:t<l.length*k
 ·have Ly:0<k:=by
   rcases Nat.eq_zero_or_pos k with e | e
   ·rw [e] at ht;omega
   ·exact e
  have h1:t / k<l.length:=by rw [Nat.div_lt_iff_lt_mul Ly];exact ht
  have h2:t % k<k:=Nat.mod_lt _ Ly
  have e3:=Kq hk h1 h2 []
  rw [ZU,Nat.div_add_mod' t k] at e3
  rw [e3,ZaD]
  have hsz:t<(Go.Sort.flatK enc k l.toArray).size:=by rw [Go.Sort.size_flatK];simpa using ht
  have e4:(Go.Sort.flatK enc k l.toArray)[t]? = some ((Go.Sort.flatK enc k l.toArray)[t]!):=by
   rw [getElem!_pos _ t hsz]
   exact getElem?_pos _ t hsz
  rw [e4,Go.Sort.get_flatK _ _ _ _ (by simpa using ht),getElem!_pos l.toArray (t / k) (by simpa using h1)]
  have h5:t % k<(enc l[t / k]).length:=by rw [hk];exact h2
  rw [Zc h5]
  congr 1
  show (enc (l.toArray[t / k]'_))[t % k]! = _
  rw [show l.toArray[t / k]'(by simpa using h1)=l[t / k] from rfl,getElem!_pos _ (t % k) h5]
 ·rw [Zah (by rw [ZaO,Go.Sort.size_flatK];simpa using ht),Zah (by rw [sy];omega)]
theorem BC (pre cur vs ws:List Value) (h:ws.length=vs.length):Go.Sort.putCells id pre.length ws.toArray (pre++vs++cur).toArray=(pre++ws++cur).toArray:=by
 apply Array.ext_getElem?
 intro j
 unfold Go.Sort.putCells
 rw [Array.getElem?_mapIdx]
 simp only [List.getElem?_toArray,Zbm]
 by_cases h1:j<pre.length
 ·rw [Zh,Zh,ZD h1,ZD h1]
  rw [Zc h1]
  simp only [Zbl]
  rw [if_neg (by omega)]
 ·by_cases h2:j<pre.length+ws.length
  ·have e1:(pre++vs++cur)[j]? = some ((pre++vs++cur)[j]'(by simp;omega)):=Zc _
   rw [e1,Zbl,if_pos (by omega)]
   rw [Zh,ZK (by omega),ZD (by omega),Zc (by omega)]
   congr 1
   show ws.toArray[j-pre.length]! = _
   rw [getElem!_pos ws.toArray (j-pre.length) (by simp;omega)]
   rfl
  ·rw [ZK (by simp;omega),ZK (by simp;omega)]
   simp only [Zg,h]
   cases cur[j-(pre.length+vs.length)]? with
   | none=>rfl
   | some x =>
    rw [Zbl,if_neg (by omega)]
theorem Bf {ρ:Ren} (L:SlLaysF0.n6 P ρ) {k:Nat} (aE:∀ w,(isAgg (ρ.t 24)).run P w=.ok true w) (zE:∀ w,(Go.sizeOf (ρ.t 24)).run P w=.ok k w) {enc:α→List Value} (hk:∀ x,(enc x).length=k) (h1:∀ x,∀ v∈enc x,v.oneCell'=true) {cf:α→α→Int} (hO:Go.Sort.SWO (ltOf cf))
  {g b cap:Nat} {cb:Array Value} {l:List α} {pre cur:List Value} {E:TypeId} {w:World} (eg:∀ args w,(callFunc g args).run P w=.ok (.enter g args) w) (hb:w.heap[b]? = some (.cells (pre++(l.map enc).flatten++cur).toArray E (0,0))) (hsz:l.length<4611686018427387904)
  (X5:∀ w',aJ [b] w w'→∀ x y:α,Calls P g (#[.agg (enc x).toArray,.agg (enc y).toArray]++cb) w' fun e wG=>e=.returned (.int .i64 (cf x y))∧aJ [] w' wG) :
  Calls P (ρ.f 6) #[.slice (some ⟨b,pre.length,none⟩) l.length cap,.func (.func g) #[] cb] w fun e w'=>
   e=.returned (.tuple #[])∧∃ l':List α,l'.Perm l∧l'.Pairwise (fun x y=>ltOf cf y x=false)∧aJ [b] w w'∧w'.heap[b]? = some (.cells (pre++(l'.map enc).flatten++cur).toArray E (0,0)):=by
 have O6:b<w.heap.size:=(ZY.1 hb).1
 have T0:∀ (m:Nat) (d:Array α) (os:Array Obj),aJ [b] w (sortWorldK enc k w b pre.length m d os):=by
  intro m d os
  unfold sortWorldK putRowK
  refine ⟨rfl,rfl,rfl,Nat.le_add_right _ _,by simp,fun q hq hne=>?_⟩
  rw [Go.Sort.heap_grow_old _ _ (by simpa using hq)]
  have:b≠q:=fun e=>hne (by rw [e];simp)
  simp [Go.Sort.putRow,Go.Sort.mapBlock,Go.Sort.ahead,Zbi,this]
 have hC:CmpLays P g cb enc k cf b pre.length l.toArray.size w:=fun m os dk _ x y=>(X5 _ (T0 m dk os) x y).mono fun e w' ⟨he,rQ⟩=>⟨he,rQ.grown⟩
 have sy:=iU hk l
 have hH:HoldsK enc k w b pre.length l.toArray:=by
  intro j hj
  rw [Go.Sort.size_flatK] at hj
  have mm:j<l.length*k:=by simpa using hj
  refine ⟨?_,by simp [World.frozen?,hb]⟩
  have h0:=vL hk l
  simp only [World.cell?,hb,Option.isSome_none,ZaT,if_false,List.getElem?_toArray]
  rw [Zh,ZK (by omega),Nat.add_sub_cancel_left,ZD (by omega),← h0,ZaD]
  have hs:j<(Go.Sort.flatK enc k l.toArray).size:=by rw [Go.Sort.size_flatK];exact hj
  rw [getElem!_pos _ j hs]
  exact getElem?_pos _ j hs
 have key:=AnyQ.slices_SortFunc L k aE zE enc hk h1 cf hO g cb b pre.length cap l.toArray w eg hC hH O6 (by simpa using hsz)
 refine Calls.mono key ?_
 rintro e w' ⟨he,d',m,os,hp,wW,hw⟩
 subst hw
 obtain ⟨AM,_,hp3⟩:=hp
 have hd:List.Perm d'.toList l:=by
  rw [show (l.toArray.extract 0 l.toArray.size)=l.toArray by simp,show d'.extract 0 l.toArray.size=d' by rw [← AM];simp] at hp3
  exact hp3
 refine ⟨he,d'.toList,hd,?_,T0 m d' os,?_⟩
 ·rw [Z4]
  intro i j hi hj wY
  rw [ZaO] at hi hj
  have Ut:d'.size=l.length:=by rw [AM];simp
  have:=wW i j (Zi _) wY (by simp;omega)
  rw [getElem!_pos d' i hi,getElem!_pos d' j hj] at this
  simpa using this
 ·unfold sortWorldK putRowK
  rw [Go.Sort.heap_grow_old _ _ (by simpa using O6)]
  have Xi:=BC pre cur (l.map enc).flatten (Go.Sort.flatK enc k d').toList (by
   rw [ZaO,Go.Sort.size_flatK,sy,AM];simp)
  have Rn:=vL hk d'.toList
  rw [ZaW] at Rn Xi
  rw [Rn] at Xi
  simp [Go.Sort.putRow,Go.Sort.mapBlock,Go.Sort.ahead,Zbi,hb,Go.Sort.onCells]
  simpa using Xi
end
end Go.SL
namespace Go.Proofs
open Go.Shelf
def Tryz.Dh:Go.Shelf.Ren:=⟨fun | 6=>260 | 15=>245 | 14=>320 | 28=>312 | 29=>313 | 20=>349 | 21=>350 | 22=>351 | 23=>352 | 24=>353 | 25=>354 | 26=>355 | 27=>356 | 46=>376 | 47=>344 | 48=>345 | 49=>377 | 50=>378 | 57=>392 | n=>n,fun | 22=>329 | 24=>244 | 25=>332 | 3=>3 | 39=>318 | 0=>0 | 53=>381 | 55=>383 | 4=>4 | 46=>374 | 45=>373 | 50=>272 | 5=>5 | 9=>9 | 66=>409 | 70=>413 | 76=>428 | 77=>359 | n=>n,fun | n=>n⟩
theorem Tryz.Di:Go.Proofs.SlLaysF0.n6 Tryz.prog Tryz.Dh:={
 mixed:=by kernel_rfl
 f6:=⟨Tryz.f260.name,by decide,Tryz.func260.trans (congrArg some (by kernel_rfl))⟩
 f14:=⟨Tryz.f320.name,by decide,Tryz.func320.trans (congrArg some (by kernel_rfl))⟩
 f15:=Tryz.func245.trans (congrArg some (by kernel_rfl))
 f20:=⟨Tryz.f349.name,by decide,Tryz.func349.trans (congrArg some (by kernel_rfl))⟩
 f21:=⟨Tryz.f350.name,by decide,Tryz.func350.trans (congrArg some (by kernel_rfl))⟩
 f22:=⟨Tryz.f351.name,by decide,Tryz.func351.trans (congrArg some (by kernel_rfl))⟩
 f23:=⟨Tryz.f352.name,by decide,Tryz.func352.trans (congrArg some (by kernel_rfl))⟩
 f24:=⟨Tryz.f353.name,by decide,Tryz.func353.trans (congrArg some (by kernel_rfl))⟩
 f25:=⟨Tryz.f354.name,by decide,Tryz.func354.trans (congrArg some (by kernel_rfl))⟩
 f26:=⟨Tryz.f355.name,by decide,Tryz.func355.trans (congrArg some (by kernel_rfl))⟩
 f27:=⟨Tryz.f356.name,by decide,Tryz.func356.trans (congrArg some (by kernel_rfl))⟩
 f28:=Tryz.func312.trans (congrArg some (by kernel_rfl))
 f29:=Tryz.func313.trans (congrArg some (by kernel_rfl))
 f46:=⟨Tryz.f376.name,by decide,Tryz.func376.trans (congrArg some (by kernel_rfl))⟩
 f47:=Tryz.func344.trans (congrArg some (by kernel_rfl))
 f48:=Tryz.func345.trans (congrArg some (by kernel_rfl))
 f49:=⟨Tryz.f377.name,by decide,Tryz.func377.trans (congrArg some (by kernel_rfl))⟩
 f50:=⟨Tryz.f378.name,by decide,Tryz.func378.trans (congrArg some (by kernel_rfl))⟩
 f57:=⟨Tryz.f392.name,by decide,Tryz.func392.trans (congrArg some (by kernel_rfl))⟩
 t0:=Tryz.underlying0
 a0:=Tryz.isAgg0
 z0:=Tryz.sizeOf0
 v0:=Tryz.zeroValue0
 t3:=Tryz.underlying3
 a3:=Tryz.isAgg3
 z3:=Tryz.sizeOf3
 v3:=Tryz.zeroValue3
 t4:=Tryz.underlying4
 a4:=Tryz.isAgg4
 z4:=Tryz.sizeOf4
 v4:=Tryz.zeroValue4
 t5:=Tryz.underlying5
 a5:=Tryz.isAgg5
 z5:=Tryz.sizeOf5
 v5:=Tryz.zeroValue5
 t9:=Tryz.underlying9
 a9:=Tryz.isAgg9
 z9:=Tryz.sizeOf9
 v9:=Tryz.zeroValue9
 t22:=Tryz.underlying329
 a22:=Tryz.isAgg329
 z22:=Tryz.sizeOf329
 v22:=Tryz.zeroValue329
 t25:=Tryz.underlying332
 a25:=Tryz.isAgg332
 z25:=Tryz.sizeOf332
 v25:=Tryz.zeroValue332
 t39:=Tryz.underlying318
 a39:=Tryz.isAgg318
 z39:=Tryz.sizeOf318
 v39:=Tryz.zeroValue318
 t45:=Tryz.underlying373
 a45:=Tryz.isAgg373
 z45:=Tryz.sizeOf373
 v45:=Tryz.zeroValue373
 t46:=Tryz.underlying374
 a46:=Tryz.isAgg374
 z46:=Tryz.sizeOf374
 v46:=Tryz.zeroValue374
 t50:=Tryz.underlying272
 a50:=Tryz.isAgg272
 z50:=Tryz.sizeOf272
 v50:=Tryz.zeroValue272
 t53:=Tryz.underlying381
 a53:=Tryz.isAgg381
 z53:=Tryz.sizeOf381
 v53:=Tryz.zeroValue381
 t55:=Tryz.underlying383
 a55:=Tryz.isAgg383
 z55:=Tryz.sizeOf383
 v55:=Tryz.zeroValue383
 t66:=Tryz.underlying409
 a66:=Tryz.isAgg409
 z66:=Tryz.sizeOf409
 v66:=Tryz.zeroValue409
 t70:=Tryz.underlying413
 a70:=Tryz.isAgg413
 z70:=Tryz.sizeOf413
 v70:=Tryz.zeroValue413
 t76:=Tryz.underlying428
 a76:=Tryz.isAgg428
 z76:=Tryz.sizeOf428
 v76:=Tryz.zeroValue428
 t77:=Tryz.underlying359
 a77:=Tryz.isAgg359
 z77:=Tryz.sizeOf359
 v77:=Tryz.zeroValue359 }
def Tryz.Dj:Go.Shelf.Ren:=⟨fun | 6=>317 | 15=>245 | 14=>348 | 28=>312 | 29=>313 | 20=>368 | 21=>369 | 22=>370 | 23=>371 | 24=>372 | 25=>373 | 26=>374 | 27=>375 | 46=>389 | 47=>344 | 48=>345 | 49=>390 | 50=>391 | 57=>399 | n=>n,fun | 22=>39 | 24=>188 | 25=>388 | 3=>3 | 39=>318 | 0=>0 | 53=>381 | 55=>383 | 4=>4 | 46=>374 | 45=>373 | 50=>272 | 5=>5 | 9=>9 | 66=>409 | 70=>413 | 76=>428 | 77=>359 | n=>n,fun | n=>n⟩
theorem Tryz.Dk:Go.Proofs.SlLaysF0.n6 Tryz.prog Tryz.Dj:={
 mixed:=by kernel_rfl
 f6:=⟨Tryz.f317.name,by decide,Tryz.func317.trans (congrArg some (by kernel_rfl))⟩
 f14:=⟨Tryz.f348.name,by decide,Tryz.func348.trans (congrArg some (by kernel_rfl))⟩
 f15:=Tryz.func245.trans (congrArg some (by kernel_rfl))
 f20:=⟨Tryz.f368.name,by decide,Tryz.func368.trans (congrArg some (by kernel_rfl))⟩
 f21:=⟨Tryz.f369.name,by decide,Tryz.func369.trans (congrArg some (by kernel_rfl))⟩
 f22:=⟨Tryz.f370.name,by decide,Tryz.func370.trans (congrArg some (by kernel_rfl))⟩
 f23:=⟨Tryz.f371.name,by decide,Tryz.func371.trans (congrArg some (by kernel_rfl))⟩
 f24:=⟨Tryz.f372.name,by decide,Tryz.func372.trans (congrArg some (by kernel_rfl))⟩
 f25:=⟨Tryz.f373.name,by decide,Tryz.func373.trans (congrArg some (by kernel_rfl))⟩
 f26:=⟨Tryz.f374.name,by decide,Tryz.func374.trans (congrArg some (by kernel_rfl))⟩
 f27:=⟨Tryz.f375.name,by decide,Tryz.func375.trans (congrArg some (by kernel_rfl))⟩
 f28:=Tryz.func312.trans (congrArg some (by kernel_rfl))
 f29:=Tryz.func313.trans (congrArg some (by kernel_rfl))
 f46:=⟨Tryz.f389.name,by decide,Tryz.func389.trans (congrArg some (by kernel_rfl))⟩
 f47:=Tryz.func344.trans (congrArg some (by kernel_rfl))
 f48:=Tryz.func345.trans (congrArg some (by kernel_rfl))
 f49:=⟨Tryz.f390.name,by decide,Tryz.func390.trans (congrArg some (by kernel_rfl))⟩
 f50:=⟨Tryz.f391.name,by decide,Tryz.func391.trans (congrArg some (by kernel_rfl))⟩
 f57:=⟨Tryz.f399.name,by decide,Tryz.func399.trans (congrArg some (by kernel_rfl))⟩
 t0:=Tryz.underlying0
 a0:=Tryz.isAgg0
 z0:=Tryz.sizeOf0
 v0:=Tryz.zeroValue0
 t3:=Tryz.underlying3
 a3:=Tryz.isAgg3
 z3:=Tryz.sizeOf3
 v3:=Tryz.zeroValue3
 t4:=Tryz.underlying4
 a4:=Tryz.isAgg4
 z4:=Tryz.sizeOf4
 v4:=Tryz.zeroValue4
 t5:=Tryz.underlying5
 a5:=Tryz.isAgg5
 z5:=Tryz.sizeOf5
 v5:=Tryz.zeroValue5
 t9:=Tryz.underlying9
 a9:=Tryz.isAgg9
 z9:=Tryz.sizeOf9
 v9:=Tryz.zeroValue9
 t22:=Tryz.underlying39
 a22:=Tryz.isAgg39
 z22:=Tryz.sizeOf39
 v22:=Tryz.zeroValue39
 t25:=Tryz.underlying388
 a25:=Tryz.isAgg388
 z25:=Tryz.sizeOf388
 v25:=Tryz.zeroValue388
 t39:=Tryz.underlying318
 a39:=Tryz.isAgg318
 z39:=Tryz.sizeOf318
 v39:=Tryz.zeroValue318
 t45:=Tryz.underlying373
 a45:=Tryz.isAgg373
 z45:=Tryz.sizeOf373
 v45:=Tryz.zeroValue373
 t46:=Tryz.underlying374
 a46:=Tryz.isAgg374
 z46:=Tryz.sizeOf374
 v46:=Tryz.zeroValue374
 t50:=Tryz.underlying272
 a50:=Tryz.isAgg272
 z50:=Tryz.sizeOf272
 v50:=Tryz.zeroValue272
 t53:=Tryz.underlying381
 a53:=Tryz.isAgg381
 z53:=Tryz.sizeOf381
 v53:=Tryz.zeroValue381
 t55:=Tryz.underlying383
 a55:=Tryz.isAgg383
 z55:=Tryz.sizeOf383
 v55:=Tryz.zeroValue383
 t66:=Tryz.underlying409
 a66:=Tryz.isAgg409
 z66:=Tryz.sizeOf409
 v66:=Tryz.zeroValue409
 t70:=Tryz.underlying413
 a70:=Tryz.isAgg413
 z70:=Tryz.sizeOf413
 v70:=Tryz.zeroValue413
 t76:=Tryz.underlying428
 a76:=Tryz.isAgg428
 z76:=Tryz.sizeOf428
 v76:=Tryz.zeroValue428
 t77:=Tryz.underlying359
 a77:=Tryz.isAgg359
 z77:=Tryz.sizeOf359
 v77:=Tryz.zeroValue359 }
end Go.Proofs
namespace Go.Proofs.A1
open Go Go.SL Go.Shelf Go.Proofs
structure Wy where
 v:Value
 p:List Nat
 f:Nat
def Wy.cells (x:Wy):List Value:=[x.v,.int .i64 (x.f:Nat)]
def nz (p:List Nat):List Int:=p.map fun i:Nat=>(i:Int)
def fS (p:List Nat):List Value:=p.map fun i=>.int .i64 (i:Nat)
def SU (l:List Wy):List (List Value):=l.map Wy.cells
def mR (l:List Wy):List Value:=(SU l).flatten
theorem yp (p:List Nat):(fS p).map (fun u=>[u])=ints (nz p):=by simp [fS,ints,nz]
theorem sn (p:List Nat):(nz p).length=p.length:=by simp [nz]
def SX (a b:Nat×List Nat):Int:=aX [kr a.1 b.1,kr (a.2.length:Nat) (b.2.length:Nat),lI (nz a.2) (nz b.2)]
def wl (a b:Nat×List Nat):Bool:=decide (a.1<b.1)||(decide (a.1=b.1)&&(decide (a.2.length<b.2.length)||(decide (a.2.length=b.2.length)&&lexB a.2 b.2)))
theorem vT {x y:Int}:kr x y<0↔x<y:=by
 unfold kr
 split
 ·constructor <;> intro _ <;> omega
 ·split <;> constructor <;> intro _ <;> omega
theorem Cr:∀ {a b:List Nat},a.length=b.length→(lI (nz a) (nz b)<0↔lexB a b=true)
 | [],[],_=>by simp [nz,lI,lexB]
 | [],_::_,h=>by simp at h
 | _::_,[],h=>by simp at h
 | x :: a, y :: b, h => by
  have ih:=Cr (a:=a) (b:=b) (by simpa using h)
  show (if kr x y≠0 then kr x y else lI (nz a) (nz b))<0↔_
  unfold lexB
  by_cases e:(x:Int)=y
  ·rw [if_neg (not_not_intro (iB.2 e)),ih]
   have e':x=y:=by exact_mod_cast e
   simp [e']
  ·rw [if_pos (fun q=>e (iB.1 q)),vT]
   have e':¬ x=y:=fun q=>e (by rw [q])
   simp [e']
theorem Ev (a b:Nat×List Nat):SX a b<0↔wl a b=true:=by
 unfold SX wl aX
 by_cases h1:(a.1:Int)=b.1
 ·rw [if_neg (not_not_intro (iB.2 h1))]
  have CR:a.1=b.1:=by exact_mod_cast h1
  unfold aX
  by_cases h2:((a.2.length:Nat):Int)=(b.2.length:Nat)
  ·rw [if_neg (not_not_intro (iB.2 h2))]
   have GJ:a.2.length=b.2.length:=by exact_mod_cast h2
   have h3:=Cr GJ
   unfold aX
   by_cases h4:lI (nz a.2) (nz b.2)=0
   ·rw [if_neg (not_not_intro h4)]
    rw [h4] at h3
    simp [aX,CR,GJ]
    have:=h3.symm
    simpa using this
   ·rw [if_pos h4,h3]
    simp [CR,GJ]
  ·rw [if_pos (fun q=>h2 (iB.1 q)),vT]
   have GJ:¬ a.2.length=b.2.length:=fun q=>h2 (by rw [q])
   simp [CR,GJ]
 ·rw [if_pos (fun q=>h1 (iB.1 q)),vT]
  have CR:¬ a.1=b.1:=fun q=>h1 (by rw [q])
  simp [CR]
theorem xB (a:Nat×List Nat):wl a a=false:=by unfold wl;rw [oz];simp
theorem AY {a b c:Nat×List Nat} (h1:wl a b=true) (h2:wl b c=true):wl a c=true:=by
 unfold wl at *
 simp only [ZO,Zm,decide_eq_true_eq] at *
 rcases h1 with h1 | ⟨e1,h1 | ⟨e2,h1⟩⟩ <;> rcases h2 with h2 | ⟨g1,h2 | ⟨g2,h2⟩⟩
 ·exact .inl (by omega)
 ·exact .inl (by omega)
 ·exact .inl (by omega)
 ·exact .inl (by omega)
 ·exact .inr ⟨by omega,.inl (by omega)⟩
 ·exact .inr ⟨by omega,.inl (by omega)⟩
 ·exact .inl (by omega)
 ·exact .inr ⟨by omega,.inl (by omega)⟩
 ·exact .inr ⟨by omega,.inr ⟨by omega,qf h1 h2⟩⟩
theorem Hc {a b:Nat×List Nat} (h:a≠b):wl a b=true∨wl b a=true:=by
 unfold wl
 simp only [ZO,Zm,decide_eq_true_eq]
 rcases Zam a.1 b.1 with h1 | h1 | h1
 ·exact .inl (.inl h1)
 ·rcases Zam a.2.length b.2.length with h2 | h2 | h2
  ·exact .inl (.inr ⟨h1,.inl h2⟩)
  ·have hne:a.2≠b.2:=fun e=>h (Prod.ext h1 e)
   rcases qg h2 hne with h3 | h3
   ·exact .inl (.inr ⟨h1,.inr ⟨h2,h3⟩⟩)
   ·exact .inr (.inr ⟨h1.symm,.inr ⟨h2.symm,h3⟩⟩)
  ·exact .inr (.inr ⟨h1.symm,.inl h2⟩)
 ·exact .inr (.inl h1)
theorem PK {α:Type} (g:α→Nat×List Nat):Go.Sort.SWO (ltOf fun x y:α=>SX (g x) (g y)):=by
 have e:∀ x y:α,ltOf (fun x y:α=>SX (g x) (g y)) x y=wl (g x) (g y):=fun x y=>by
  unfold ltOf
  rw [Zba,decide_eq_true_eq]
  exact Ev _ _
 constructor
 ·intro x;rw [e];exact xB _
 ·intro x y z h1 h2;rw [e] at *;exact AY h1 h2
 ·intro x y z h1 h2
  rw [e] at *
  by_cases h:wl (g x) (g z)=true
  ·by_cases e1:g x=g y
   ·rw [e1,h2] at h;cases h
   ·rcases Hc e1 with h3 | h3
    ·rw [h1] at h3;cases h3
    ·rw [AY h3 h] at h2;cases h2
  ·simpa using h
theorem Tq {v:Value} {cs:List Value} {es:List Int} {w:World} (h:Rd w v 1 (cs.map fun v=>[v])) (hl:bY cs es):aj Tryz.prog 319 [v] w (.int .i64 (aX es)):=
 Ts (by rw [← hl.eq];exact h)
theorem PN {v1 v2:Value} {p q:List Nat} {f1 f2:Nat} {w:World} (h1:Rd w v1 1 (ints (nz p))) (h2:Rd w v2 1 (ints (nz q))) :
  aj Tryz.prog 261 [.agg #[v1,.int .i64 (f1:Nat)],.agg #[v2,.int .i64 (f2:Nat)]] w (.int .i64 (SX (f1,p) (f2,q))):=by
 have X6:∀ w',aJ [] w w'→aj Tryz.prog 236 [v1,v2] w' (.int .i64 (lI (nz p) (nz q))):=fun w' hk=>yL (h1.keeps hk) (h2.keeps hk)
 obtain ⟨a,cp,b,o,rfl,dj,bV,ha,hc⟩:=h1
 rw [c8,sn] at *
 obtain ⟨a',SQ,b',o',rfl,oJ,OW,cG,VT⟩:=h2
 rw [c8,sn] at *
 have iT:=X6
 refine ah Tryz.func261 rfl rfl ?_
 refine Jr<|Jy rfl rfl fun _ _=>Jy rfl rfl fun _ _=>Ja rfl<|Jn<|Jq ?_
 with_reducible refine cZ 18 (by kernel_rfl) ?_
 (refine ao kZ rfl<|ao (gT (.there .here)) rfl<|ao kZ rfl<|ao (gT .here) rfl<|aY bj rfl (fun w' aA=>(Cq _ _ w'))<|ao kZ rfl<|ao (gT (.there .here)) rfl<|ao (bJ (.of rfl)) rfl<|ao kZ rfl<|ao (gT .here) rfl<|ao (bJ (.of rfl)) rfl<|aY bj rfl (fun w' aA=>(Cq _ _ w'))<|ao kZ rfl<|ao (gT (.there .here)) rfl<|ao kZ rfl<|ao (gT .here) rfl<|aY bj rfl (fun w' aA=>(iT w' (Mem.keeps aA)))<|eB (aC (.cons (.of rfl) (.cons (.of rfl) (.cons (.of rfl) .nil))) rfl rfl rfl rfl) rfl rfl ?_)
 with_reducible refine dB rfl fun bq nq=>?_
 (refine ai bN rfl (fun w' aA=>(Tq (Mem.dw aA .here rfl rfl) (bY.cons (bY.cons (bY.cons bY.nil)))))<|Ja rfl<|Jn<|Je<|JT ?_)
 rfl
theorem PH (l:List Wy):∀ r∈SU l,r.length=2:=fun r hr=>by obtain ⟨x,_,rfl⟩:=Zt.1 hr;rfl
theorem oV (l:List Wy):(mR l).length=l.length*2:=by unfold mR;rw [fG (PH l)];unfold SU;rw [Zd]
theorem LK (a b:List Wy):mR (a++b)=mR a++mR b:=by unfold mR SU;rw [Zs,Zac]
def iD (kz:List Wy):bd:=mB 3 (kz.map Wy.v) (kz.map fun x=>fS x.p)
theorem FH {w:World} {kz:List Wy} {fp:List Nat} (hn:fp.Nodup) (hs:ct (hp w) [iD kz] fp) {x:Wy} (hx:x∈kz):Rd w x.v 1 (ints (nz x.p)):=by
 obtain ⟨j,hj,rfl⟩:=Zu hx
 have hm:Mem ⟨w,fp,0⟩ [iD kz] w:=⟨.refl _ _,fp,hn,hs,fun b hb=>.inr hb⟩
 have:=hm.Dt (j:=j) (v:=(kz[j]).v) (x:=fS (kz[j]).p) .here (by simp [hj]) (by simp [hj])
 rwa [yp] at this
theorem Ei {c:Cx} {hs hs':List bd} {w:World} (hm:Mem c hs w) {kz:List Wy} (ht:Take hs (iD kz) hs') {x:Wy} (hx:x∈kz):Rd w x.v 1 (ints (nz x.p)):=by
 obtain ⟨j,hj,rfl⟩:=Zu hx
 have:=hm.Dt (j:=j) (v:=(kz[j]).v) (x:=fS (kz[j]).p) ht (by simp [hj]) (by simp [hj])
 rwa [yp] at this
theorem HJ {v:Value} {n:Nat} {l kz:List Wy} {w:World} {fp:List Nat} (lj:fp.Nodup) (hs:ct (hp w) [kI 244 2 v n (mR l),iD kz] fp) (hn:n=l.length) (iR:∀ x∈l,x∈kz) (cT:n≤1000000) (VZ:∀ x∈kz,x.v.oneCell'=true) :
  bu Tryz.prog 260 [v,.func (.func 261) #[] #[]] w fp (fun l':List Wy=>l'.Perm l∧l'.Pairwise (fun x y=>wl (y.f,y.p) (x.f,x.p)=false)) (fun _=>.tuple #[]) (fun l'=>[kI 244 2 v n (mR l'),iD kz]):=by
 obtain ⟨f1,f2,rfl,h1,h2⟩:=hs
 obtain ⟨hlen,h1⟩:=h1
 have Q8:=(ZH.1 lj).2.1
 have kQ:=(ZH.1 lj).2.2
 rcases h1 with ⟨rfl,rfl,h0⟩ | ⟨g,off,cap,cur,rfl,rfl,hg,kF,jS,hfit,htk⟩
 ·have qk:l=[]:=Z0 (by omega)
  subst qk
  refine (AnyF.slices_SortFunc_none Tryz.Di none 0 (.func (.func 261) #[] #[]) w).mono fun e w' ⟨he,hw⟩=>?_
  subst hw
  exact ⟨[],he,⟨.refl _,.nil⟩,.refl _ _,[]++f2,by simpa using Q8,⟨[],f2,rfl,⟨hlen,.inl ⟨rfl,rfl,h0⟩⟩,h2⟩,fun b hb=>.inl hb⟩
 ·subst hn
  have Rw:g<w.heap.size:=(ZY.1 hg).1
  by_cases qk:l=[]
  ·subst qk
   refine (AnyF.slices_SortFunc_none Tryz.Di (some ⟨g,off,none⟩) cap (.func (.func 261) #[] #[]) w).mono fun e w' ⟨he,hw⟩=>?_
   subst hw
   exact ⟨[],he,⟨.refl _,.nil⟩,.refl _ _,[g]++f2,lj,⟨[g],f2,rfl,⟨hlen,.inr ⟨g,off,cap,cur,rfl,rfl,hg,kF,jS,hfit,htk⟩⟩,h2⟩,fun b hb=>.inl hb⟩
  obtain ⟨x0,QE⟩:=List.exists_mem_of_ne_nil l qk
  let α:={x:Wy // x∈kz}
  let _:Inhabited α:=⟨⟨x0,iR x0 QE⟩⟩
  let enc:α→List Value:=fun x=>x.1.cells
  have hle:l.length*2≤cap*2:=Z7 _ kF
  have O2:cur.size=cur.toList.length:=by simp
  have np:cur=(cur.toList.take off++mR l++cur.toList.drop (off+l.length*2)).toArray:=by
   apply Array.ext'
   show cur.toList=_
   rw [← htk]
   conv=>lhs;rw [← ZZ off cur.toList]
   rw [Zh]
   congr 1
   conv=>lhs;rw [← ZZ (l.length*2) (cur.toList.drop off)]
   rw [Zbe]
  have AL:(cur.toList.take off).length=off:=by rw [Zr];omega
  generalize kP:cur.toList.take off=pre at np AL
  generalize T1:cur.toList.drop (off+l.length*2)=post at np
  let la:List α:=l.attach.map fun x=>⟨x.1,iR x.1 x.2⟩
  have Rf:la.map (fun x:α=>x.1)=l:=by
   show (l.attach.map fun x=>(⟨x.1,iR x.1 x.2⟩:α)).map (fun x:α=>x.1)=l
   rw [ZaH]
   exact List.attach_map_subtype_val l
  have B3:∀ m:List α,(m.map enc).flatten=mR (m.map fun x:α=>x.1):=fun m=>by
   unfold mR SU
   rw [ZaH];rfl
  have DT:la.length=l.length:=by
   show (l.attach.map fun x=>(⟨x.1,iR x.1 x.2⟩:α)).length=_
   rw [Zd,List.length_attach]
  have tL:w.heap[g]? = some (.cells (pre++(la.map enc).flatten++post).toArray 244 (0,0)):=by rw [B3,Rf,← np];exact hg
  have key:=Bf Tryz.Di (k:=2) Tryz.isAgg244 Tryz.sizeOf244 (enc:=enc) (fun _=>rfl)
   (fun x u hu=>by
    have hx:=VZ x.1 x.2
    simp only [enc,Wy.cells,ZS,Zp,or_false] at hu
    rcases hu with rfl | rfl
    ·exact hx
    ·rfl)
   (PK (fun x:α=>(x.1.f,x.1.p))) (g:=261) (b:=g) (cap:=cap) (cb:=#[]) (l:=la) (pre:=pre) (cur:=post) (E:=244) (w:=w)
   (enters_of Tryz.func261 (by kernel_rfl) rfl) tL (by rw [DT];omega)
   (fun w' hk x y=>by
    have hp:ct (hp w') [iD kz] f2:=ct.loc h2 fun b hb=>by
     have O6:b<w.heap.size:=by
      obtain ⟨o,ho⟩:=ct.own h2 b hb
      exact j8 ho
     exact hk.block b O6 (fun e=>kQ g (by simp) b hb (ZB.1 e).symm)
    exact PN (FH Q8 hp x.2) (FH Q8 hp y.2))
  rw [DT,AL] at key
  refine Calls.mono key ?_
  rintro e w' ⟨he,l',ig,Xg,hk,dz⟩
  have yA:(l'.map fun x:α=>x.1).length=l.length:=by rw [Zd,ig.length_eq,DT]
  rw [B3] at dz
  refine ⟨l'.map fun x:α=>x.1,he,⟨?_,?_⟩,hk.mono (by simp),[g]++f2,lj,⟨[g],f2,rfl,?_,ct.loc h2 fun b hb=>?_⟩,fun b hb=>.inl hb⟩
  ·have:=ig.map (fun x:α=>x.1)
   rwa [Rf] at this
  ·rw [ZbA]
   refine Xg.imp fun {x y} h=>?_
   unfold ltOf at h
   rw [decide_eq_false_iff_not,Ev] at h
   simpa using h
  ·have hr:=xX (n:=l.length) (sz:=2) (cap:=cap) (fp:=[g]) (h:=hp w') ⟨rfl,dz⟩ AL kF jS (by
    have:=congrArg (fun x:Array Value=>x.toList.length) np
    simp only [ZaO,Zg,oV] at this
    rw [Zg,Zg,oV,yA,← this];exact hfit) (by rw [oV,yA])
   exact hr
  ·have O6:b<w.heap.size:=by
    obtain ⟨o,ho⟩:=ct.own h2 b hb
    exact j8 ho
   exact hk.block b O6 (fun e=>kQ g (by simp) b hb (ZB.1 e).symm)
end Go.Proofs.A1
namespace Go.Proofs.A1
open Go Go.SL
theorem Kr {α:Type} {q:α→Bool} {l:List α} {k:Nat} (h:k<l.length) (hq:q l[k]=true):(l.filter q)[((l.take k).filter q).length]? = some l[k]:=by
 have e:l=l.take k++l[k]::l.drop (k+1):=by rw [← Zw h,ZZ]
 have:l.filter q=(l.take k).filter q++l[k]::(l.drop (k+1)).filter q:=by
  conv=>lhs;rw [e]
  rw [Zbg,Zbr hq]
 rw [this,ZK (Zz _),Nat.sub_self];rfl
def Cf (r:Ro) (v m:Int) (i:Nat):Bool:=decide ((iK r i).fr=m)&&!gV r.po v (gP r i)
def fv (r:Ro) (v m:Int) (k:Nat):List Nat:=(List.range k).filter (Cf r v m)
def Lr (r:Ro) (v m:Int):List (List Value):=(fv r v m r.ti.length).map fun i=>[.int .i64 (i:Nat),.agg (iK r i).cells.toArray]
theorem uk (r:Ro) (v m:Int):(Lr r v m).length=(fv r v m r.ti.length).length:=by simp [Lr]
theorem sB (r:Ro) (v m:Int) (k:Nat):fv r v m (k+1)=fv r v m k++if Cf r v m k then [k] else []:=by
 unfold fv
 rw [Zby,Zbg]
 congr 1
 by_cases h:Cf r v m k=true
 ·rw [Zbr h,if_pos h];rfl
 ·rw [List.filter_cons_of_neg h,if_neg h];rfl
theorem M4 {r:Ro} {v m:Int} {k:Nat} (h:k<r.ti.length) (hq:Cf r v m k=true):(Lr r v m)[(fv r v m k).length]? = some [.int .i64 (k:Nat),.agg (iK r k).cells.toArray]:=by
 have h1:=Kr (l:=List.range r.ti.length) (q:=Cf r v m) (k:=k) (by rw [ZaN];exact h) (by rw [Zbw];exact hq)
 rw [List.take_range,Zbk (by omega),Zbw] at h1
 unfold Lr fv
 rw [ZF,h1];rfl
theorem DG {r:Ro} {v m:Int} {k:Nat} {vs:List Value} (h:(Lr r v m)[k]? = some vs):∃ i,(fv r v m r.ti.length)[k]? = some i∧vs=[.int .i64 (i:Nat),.agg (iK r i).cells.toArray]∧i<r.ti.length∧Cf r v m i=true:=by
 unfold Lr at h
 rw [ZF,Zak] at h
 obtain ⟨i,hi,rfl⟩:=h
 have hm:=ZV hi
 unfold fv at hm
 rw [Zv,ZQ] at hm
 exact ⟨i,hi,rfl,hm.1,hm.2⟩
theorem mW {r:Ro} {i:Nat} (h:i<r.ti.length):iK r i=r.ti[i]:=by
 unfold iK;rw [Zk,Zc h];rfl
theorem EP {P:Program} {c:Cx} {sl:aH} {hs:List bd} {dst:Option Tmp} {ty:TypeId} {pos:String} {af:Array Edge} {g:Option (Nat×Bool)} {k:IntKind} {t u:TypeId} {x y:Operand} {a b:Int} (hx:Is sl x (.int k a)) (hy:Is sl y (.int k b)) (e:a=b) :
  cY P c sl hs ⟨dst,.binOp .eql t x y u,ty,pos,af,g⟩ (.bool true):=by
 have:=mX (P:=P) (c:=c) (hs:=hs) (dst:=dst) (ty:=ty) (pos:=pos) (af:=af) (g:=g) (t:=t) (u:=u) hx hy
 rwa [decide_eq_true e] at this
theorem MC {P:Program} {c:Cx} {sl:aH} {hs:List bd} {dst:Option Tmp} {ty:TypeId} {pos:String} {af:Array Edge} {g:Option (Nat×Bool)} {k:IntKind} {t u:TypeId} {x y:Operand} {a b:Int} (hx:Is sl x (.int k a)) (hy:Is sl y (.int k b)) (e:a≠b) :
  cY P c sl hs ⟨dst,.binOp .eql t x y u,ty,pos,af,g⟩ (.bool false):=by
 have:=mX (P:=P) (c:=c) (hs:=hs) (dst:=dst) (ty:=ty) (pos:=pos) (af:=af) (g:=g) (t:=t) (u:=u) hx hy
 rwa [decide_eq_false e] at this
theorem cX {P:Program} {c:Cx} {sl:aH} {hs:List bd} {dst:Option Tmp} {ty:TypeId} {pos:String} {af:Array Edge} {g:Option (Nat×Bool)} {x y z:Operand} {q:Bool} {v u:Value} (hx:Is sl x (.bool q)) (hy:Is sl y v) (hz:Is sl z u) (e:(bif q then v else u)=Value.bool false):cY P c sl hs ⟨dst,.pick x y z,ty,pos,af,g⟩ (.bool false):=e ▸ ub hx hy hz
theorem eN {P:Program} {c:Cx} {sl:aH} {hs:List bd} {dst:Option Tmp} {ty:TypeId} {pos:String} {af:Array Edge} {g:Option (Nat×Bool)} {x y z:Operand} {q:Bool} {v u:Value} (hx:Is sl x (.bool q)) (hy:Is sl y v) (hz:Is sl z u) (e:(bif q then v else u)=Value.bool true):cY P c sl hs ⟨dst,.pick x y z,ty,pos,af,g⟩ (.bool true):=e ▸ ub hx hy hz
theorem su {r:Ro} {s d t p:Value} (v m:Int) {w w1:World} (h:RR w1 r s d t p) :
  bu Tryz.prog 153 [RA r s d t p,.int .i64 v,.int .i64 m] w [] (fun _:Nat×Nat×Nat=>True) (fun x=>.func (.func 240) #[] #[.pointer (some ⟨x.1,0,none⟩),.pointer (some ⟨x.2.1,0,none⟩),.pointer (some ⟨x.2.2,0,none⟩)])
   (fun x=>[JP x.1 r s d t p,bH x.2.1 (.cells #[.int .i64 m] 3 (0,0)),bH x.2.2 (.cells #[.int .i64 v] 3 (0,0))]):=by
 have h1:=Rd.one h.sr
 have h2:=Rd.one h.de
 have h3:=Rd.one h.ti
 have h4:=Rd.one h.po
 unfold RA
 refine aS Tryz.func153 rfl rfl ?_
 (refine Jr<|Jy rfl rfl fun _ _=>Jy rfl rfl fun _ _=>Jy rfl rfl fun _ _=>Ja rfl<|Ji<|ab (bC .nil (.cons (.of rfl) (.cons (.of rfl) (.cons (.of rfl) .nil)))) rfl<|Ja rfl<|Jn<|Je ?_)
 rename_i b3 vI b4 wA b5 ND
 first | with_reducible apply aO | with_reducible apply aP
 case he=>exact dH rfl rfl
 case hR=>
  intro w' aA
  exact aG (b3,b5,b4) trivial (by exact .cons bL (.cons .here (.cons .here .nil))) aA rfl
set_option maxHeartbeats 1000000 in
theorem IB {r:Ro} {s d t p:Value} {b1 b2 b3:Nat} (v m:Int) {w0 w:World} {md:List Nat} (h:RR w0 r s d t p) (hn:RO md r s d t p) (cT:r.ti.length≤1000000) :
  Iter Tryz.prog 240 [] [.pointer (some ⟨b1,0,none⟩),.pointer (some ⟨b2,0,none⟩),.pointer (some ⟨b3,0,none⟩)] [JP b1 r s d t p,bH b2 (.cells #[.int .i64 m] 3 (0,0)),bH b3 (.cells #[.int .i64 v] 3 (0,0))] (Lr r v m) w0 md w:=by
 intro l fp J E hB hF lj hs hy
 have hR:=h.jB hn hB
 have hO:=h.out hn hF
 rw [uk]
 have h1:=Rd.one hR.sr
 have h2:=Rd.one hR.de
 have h4:=Rd.one hR.po
 have hti:=hR.ti
 have oti:=hO.ti
 obtain ⟨a,cp,b,o',rfl,dj,bV,ha,hc⟩:=hti
 rw [cd] at *
 unfold maxLen at bV
 refine eb Tryz.func240 rfl rfl lj hs ?_
 (refine Jr<|bS rfl rfl ae<|JL rfl (.there .here) rfl<|JI rfl<|Jv rfl<|Jn<|J0 ?_)
 refine aW (fun k:Nat=>k≤r.ti.length) (fun k=>[(10,.int .i64 (k:Nat)),(9,.int .i64 (r.ti.length:Nat)),(8,.slice a r.ti.length cp),(0,.func (.yield l) #[] #[]),(1,.pointer (some ⟨b1,0,none⟩)),(2,.pointer (some ⟨b2,0,none⟩)),(3,.pointer (some ⟨b3,0,none⟩))])
  (fun k=>[J (fv r v m k).length,JP b1 r s d (.slice a r.ti.length cp) p,bH b2 (.cells #[.int .i64 m] 3 (0,0)),bH b3 (.cells #[.int .i64 v] 3 (0,0))]) (fun k=>r.ti.length-k) ?_ ?_
 ·apply aI 0 (by omega)
  case hs1=>exact cg
  case ht=>
   exact .cons .here (.cons .here (.cons .here (.cons .here .nil)))
 intro k hk
 by_cases aM:k<r.ti.length
 ·have cG:=ha (fw aM)
  have aB:=(hc k _ (eE aM)).2
  have Xs:b ∉ fp:=oti (fw aM) b (by rw [cG];rfl)
  unfold Ti.cells at aB
  have B7:∀ w',aJ fp w w'→aj Tryz.prog 121 [.agg #[.int .i64 r.lv,.int .i64 r.ma,s,d,.slice a r.ti.length cp,p],.int .i64 v,.string (r.ti[k]).nm] w' (.bool (gV r.po v (r.ti[k]).nm)):=fun w' hk=>qC v _ (hR.jB hO hk)
  have zZ:=mW aM
  have yx:gP r k=(r.ti[k]).nm:=by unfold gP;rw [zZ]
  by_cases w7:(r.ti[k]).fr=m
  ·cases AR:gV r.po v (r.ti[k]).nm with
   | true =>
    have B8:∀ w',aJ fp w w'→aj Tryz.prog 121 [.agg #[.int .i64 r.lv,.int .i64 r.ma,s,d,.slice a r.ti.length cp,p],.int .i64 v,.string (r.ti[k]).nm] w' (.bool true):=fun w' hk=>AR ▸ B7 w' hk
    have hq:Cf r v m k=false:=by unfold Cf;rw [yx,AR];simp
    have I5:fv r v m (k+1)=fv r v m k:=by rw [sB,if_neg (by rw [hq];decide),ZU]
    (refine Jr<|JA rfl<|Jn<|Jq<|Jd rfl fun az=>Jk<|Jq<|J0<|Jr<|Jv rfl<|ab (fM cG az) rfl<|ab (jc (.of rfl) (ew.CB aB Xs) rfl) rfl<|Jz rfl rfl fun _ _=>Ja rfl<|aq (.of rfl) (.of rfl) .here rfl rfl (fo rfl rfl rfl) (bG rfl) ak<|Ji<|bS rfl rfl ae<|JL rfl .here rfl<|JL rfl cW rfl<|ab (EP (.of rfl) (.of rfl) w7) rfl<|Jv rfl<|JK rfl rfl<|ab (cR bL) rfl<|JK rfl rfl<|JL rfl dT rfl<|JK rfl rfl<|bS rfl rfl ae<|JK rfl rfl<|JL rfl .here rfl<|JK rfl rfl<|ai eM rfl (fun w' aA=>(B8 w' (Mem.keeps aA)))<|JK rfl rfl<|JH rfl<|ab (cX (.of rfl) (.of rfl) (.of rfl) rfl) rfl<|Jv rfl<|il rfl rfl rfl rfl<|il rfl rfl rfl rfl<|aD rfl rfl inferInstance (fun hg bA=>(bT (.of rfl) .here ak (by rfl))) rfl<|dC rfl rfl rfl rfl<|aD rfl rfl inferInstance (fun hg bA=>(dU (.bI bA rfl))) rfl<|ab (cX (.of rfl) (.of rfl) (.of rfl) rfl) rfl<|Jn<|bK (.of rfl)<|Jw<|Jj<|Jt<|Jg<|JB rfl (by omega)<|Jv rfl<|Jn ?_)
    apply aK (k+1) (by omega) (by omega)
    case hs1=>exact cg
    case ht=>
     rw [I5]
     exact .cons (.there .here) (.cons (.there .here) (.cons (.there .here) (.cons (.there .here) .nil)))
   | false =>
    have B8:∀ w',aJ fp w w'→aj Tryz.prog 121 [.agg #[.int .i64 r.lv,.int .i64 r.ma,s,d,.slice a r.ti.length cp,p],.int .i64 v,.string (r.ti[k]).nm] w' (.bool false):=fun w' hk=>AR ▸ B7 w' hk
    have hq:Cf r v m k=true:=by unfold Cf;rw [yx,AR,zZ,decide_eq_true w7];rfl
    have I5:fv r v m (k+1)=fv r v m k++[k]:=by rw [sB,if_pos hq]
    have Ui:(fv r v m (k+1)).length=(fv r v m k).length+1:=by rw [I5];simp
    have TB:=hy _ _ (M4 aM hq)
    rw [zZ] at TB
    (refine Jr<|JA rfl<|Jn<|Jq<|Jd rfl fun az=>Jk<|Jq<|J0<|Jr<|Jv rfl<|ab (fM cG az) rfl<|ab (jc (.of rfl) (ew.CB aB Xs) rfl) rfl<|Jz rfl rfl fun _ _=>Ja rfl<|aq (.of rfl) (.of rfl) .here rfl rfl (fo rfl rfl rfl) (bG rfl) ak<|Ji<|bS rfl rfl ae<|JL rfl .here rfl<|JL rfl cW rfl<|ab (EP (.of rfl) (.of rfl) w7) rfl<|Jv rfl<|JK rfl rfl<|ab (cR bL) rfl<|JK rfl rfl<|JL rfl dT rfl<|JK rfl rfl<|bS rfl rfl ae<|JK rfl rfl<|JL rfl .here rfl<|JK rfl rfl<|ai eM rfl (fun w' aA=>(B8 w' (Mem.keeps aA)))<|JK rfl rfl<|JH rfl<|ab (eN (.of rfl) (.of rfl) (.of rfl) rfl) rfl<|Jv rfl<|JK rfl rfl<|Jv rfl<|JK rfl rfl<|Jv rfl<|JK rfl rfl<|ab (cR .here) rfl<|JK rfl rfl ?_)
    unfold Ti.cells at TB
    with_reducible apply xG hB hF TB
    case hx=>exact Is.of rfl
    case ha=>exact .cons (.of rfl) (.cons (.of rfl) .nil)
    case hd=>rfl
    case ht=>exact Take.there .here
    intro q
    cases q with
    | false =>
     simp only [cond_false]
     (refine JK rfl rfl<|JH rfl<|ab (eN (.of rfl) (.of rfl) (.of rfl) rfl) rfl<|Jn<|cP (.of rfl)<|Je<|Jm<|Jh<|Jh<|Jm ?_)
     first | with_reducible apply aO | with_reducible apply aP
     case he=>exact pO rfl
     case hR=>
      intro w' aA
      exact aG false trivial (by exact .cons .here (.cons (.there .here) (.cons (.there .here) (.cons (.there .here) .nil)))) aA rfl
    | true =>
     simp only [cond_true]
     (refine JK rfl rfl<|JH rfl<|ab (cX (.of rfl) (.of rfl) (.of rfl) rfl) rfl<|Jn<|bK (.of rfl)<|Jw<|Jj<|Jt<|Jg<|JB rfl (by omega)<|Jv rfl<|Jn ?_)
     apply aK (k+1) (by omega) (by omega)
     case hs1=>exact cg
     case ht=>
      rw [Ui]
      exact .cons .here (.cons (.there .here) (.cons (.there .here) (.cons (.there .here) .nil)))
  ·have hq:Cf r v m k=false:=by unfold Cf;rw [zZ,decide_eq_false w7];rfl
   have I5:fv r v m (k+1)=fv r v m k:=by rw [sB,if_neg (by rw [hq];decide),ZU]
   (refine Jr<|JA rfl<|Jn<|Jq<|Jd rfl fun az=>Jk<|Jq<|J0<|Jr<|Jv rfl<|ab (fM cG az) rfl<|ab (jc (.of rfl) (ew.CB aB Xs) rfl) rfl<|Jz rfl rfl fun _ _=>Ja rfl<|aq (.of rfl) (.of rfl) .here rfl rfl (fo rfl rfl rfl) (bG rfl) ak<|Ji<|bS rfl rfl ae<|JL rfl .here rfl<|JL rfl cW rfl<|ab (MC (.of rfl) (.of rfl) w7) rfl<|Jv rfl<|aD rfl rfl inferInstance (fun hg bA=>(bT (.of rfl) bL ak (by rfl))) rfl<|aD rfl rfl inferInstance (fun hg bA=>(ag (.of rfl) (At.lit dT rfl))) rfl<|aD rfl rfl inferInstance (fun hg bA=>(au (.of rfl) ae)) rfl<|aD rfl rfl inferInstance (fun hg bA=>(ag (.bI bA rfl) (At.lit .here rfl))) rfl<|dC rfl rfl rfl rfl<|aD rfl rfl inferInstance (fun hg bA=>(dU (.bI bA rfl))) rfl<|ab (cX (.of rfl) (.of rfl) (.of rfl) rfl) rfl<|Jv rfl<|il rfl rfl rfl rfl<|il rfl rfl rfl rfl<|aD rfl rfl inferInstance (fun hg bA=>(bT (.of rfl) .here ak (by rfl))) rfl<|dC rfl rfl rfl rfl<|aD rfl rfl inferInstance (fun hg bA=>(dU (.bI bA rfl))) rfl<|ab (cX (.of rfl) (.of rfl) (.of rfl) rfl) rfl<|Jn<|bK (.of rfl)<|Jw<|Jj<|Jt<|Jg<|JB rfl (by omega)<|Jv rfl<|Jn ?_)
   apply aK (k+1) (by omega) (by omega)
   case hs1=>exact cg
   case ht=>
    rw [I5]
    exact .cons (.there .here) (.cons (.there .here) (.cons (.there .here) (.cons (.there .here) .nil)))
 ·obtain rfl:k=r.ti.length:=by omega
  refine Jr<|JA rfl<|Jn<|Jq<|Jc rfl fun az=>Jp<|Jl<|Jo ?_
  first | with_reducible apply aO | with_reducible apply aP
  case he=>exact pO rfl
  case hR=>
   intro w' aA
   exact aG true trivial (by exact .cons .here (.cons .here (.cons .here (.cons .here .nil)))) aA rfl
theorem IT (l:List Int):∀ r∈ints l,∀ u∈r,u.oneCell'=true:=fun r hr=>by obtain ⟨x,_,rfl⟩:=Zt.1 hr;exact bM rfl gq
theorem yu (l:List Int):l.map (Value.int .i64)=(ints l).flatten:=by
 induction l with
 | nil=>rfl
 | cons x l ih=>show [Value.int .i64 x]++l.map (Value.int .i64)=_;rw [ih];rfl
theorem N7 {lv:Value} {l:List Int} {w:World} (h:Rd w lv 1 (ints l)) (hl:l.length≤1000) :
  bu Tryz.prog 262 [lv] w [] (fun _:Value=>True) id (fun v=>[row 3 1 v l.length (l.map (.int .i64))]):=by
 have h':=h
 obtain ⟨a,cp,b,o,rfl,dj,bV,ha,hc⟩:=h
 refine aS Tryz.func262 rfl rfl ?_
 cases a with
 | none =>
  have qk:l=[]:=by
   cases l with
   | nil=>rfl
   | cons x r=>exact absurd (ha (by simp [ints])) (by simp)
  subst qk
  (refine Jr<|Ja rfl<|Jn<|Jq<|Jr<|Jv rfl<|ab (gD (.of rfl) (.of rfl)) rfl<|Jn<|cP (.of rfl)<|Jr<|Ja rfl<|Jn<|Ju ?_)
  refine aQ 3 1 ?_
  first | with_reducible apply aO | with_reducible apply aP
  case he=>exact dH rfl rfl
  case hR=>
   intro w' aA
   exact aG (.slice none 0 0) trivial (by exact .cons .here .nil) aA rfl
 | some ad =>
  (refine Jr<|Ja rfl<|Jn<|Jq<|Jr<|Jv rfl<|ab (gD (.of rfl) (.of rfl)) rfl<|Jn<|bK (.of rfl)<|Jk<|Jr<|br (aC .nil rfl rfl rfl rfl) rfl fun _ _=>Jv rfl ?_)
  rename_i bq nq
  refine bZ (g:=bq) (E:=3) (ys:=[]) 0 1 (by exact .here) rfl rfl rfl ?_
  with_reducible apply gY
  case hx=>exact Is.of rfl
  case hy=>exact Is.of rfl
  case ht=>exact .here
  case hsrc=>exact fun w' aA=>h'.keeps aA.keeps
  case h1=>exact IT l
  case hz=>exact rfl
  case hsz=>exact rfl
  case hb0=>exact rfl
  case hb=>rw [c8];omega
  case hd=>rfl
  intro v'
  rw [c8,← yu,ZC,Za]
  refine Ja rfl<|Jn<|Je ?_
  first | with_reducible apply aO | with_reducible apply aP
  case he=>exact dH rfl rfl
  case hR=>
   intro w' aA
   exact aG v' trivial (by exact .cons .here .nil) aA rfl
theorem uV {P:Program} {c:Cx} {sl:aH} {hs:List bd} {dst:Option Tmp} {ty:TypeId} {pos:String} {af:Array Edge} {g:Option (Nat×Bool)} {t u:TypeId} {x y:Operand} {a b:ByteArray} (hx:Is sl x (.string a)) (hy:Is sl y (.string b)) (e:a=b) :
  cY P c sl hs ⟨dst,.binOp .eql t x y u,ty,pos,af,g⟩ (.bool true):=by
 have:=dG (P:=P) (c:=c) (hs:=hs) (dst:=dst) (ty:=ty) (pos:=pos) (af:=af) (g:=g) (t:=t) (u:=u) hx hy
 rwa [decide_eq_true e] at this
theorem Bz {P:Program} {c:Cx} {sl:aH} {hs:List bd} {dst:Option Tmp} {ty:TypeId} {pos:String} {af:Array Edge} {g:Option (Nat×Bool)} {t u:TypeId} {x y:Operand} {a b:ByteArray} (hx:Is sl x (.string a)) (hy:Is sl y (.string b)) (e:a≠b) :
  cY P c sl hs ⟨dst,.binOp .eql t x y u,ty,pos,af,g⟩ (.bool false):=by
 have:=dG (P:=P) (c:=c) (hs:=hs) (dst:=dst) (ty:=ty) (pos:=pos) (af:=af) (g:=g) (t:=t) (u:=u) hx hy
 rwa [decide_eq_false e] at this
def xq (r:Ro) (v:Int) (so:ByteArray) (i:Nat):Bool:=gV r.po v (gP r i)&&decide (jG r v (gP r i)=so)
def AU (r:Ro) (v:Int) (so:ByteArray) (k:Nat):List Nat:=(List.range k).filter (xq r v so)
theorem vX (r:Ro) (v:Int) (so:ByteArray) (k:Nat):AU r v so (k+1)=AU r v so k++if xq r v so k then [k] else []:=by
 unfold AU
 rw [Zby,Zbg]
 congr 1
 by_cases h:xq r v so k=true
 ·rw [Zbr h,if_pos h];rfl
 ·rw [List.filter_cons_of_neg h,if_neg h];rfl
def qU (r:Ro) (so:ByteArray):Int:=(r.sr.getD (bE (cF r) so).toNat ⟨⟨#[]⟩,0⟩).mx
def wk (x:Wy):Nat×List Nat:=(x.f,x.p)
def PC (L:List (Nat×List Nat)) (W:List Wy):Prop:=W.map wk=L∧∀ y∈W,y.v.oneCell'=true
theorem PC.add {L:List (Nat×List Nat)} {W:List Wy} (h:PC L W) (y:Wy) (hy:y.v.oneCell'=true):PC (L++[wk y]) (W++[y]):=by
 refine ⟨by rw [Zs,h.1];rfl,fun z hz=>?_⟩
 rcases Zx.1 hz with hz | hz
 ·exact h.2 z hz
 ·rw [ZB.1 hz];exact hy
theorem KX (W:List Wy) (y:Wy):iD (W++[y])=mB 3 (W.map Wy.v++[y.v]) ((W.map fun x=>fS x.p)++[fS y.p]):=by unfold iD;rw [Zs,Zs];rfl
theorem yU (W:List Wy) (y:Wy):mR (W++[y])=mR W++[y.v,.int .i64 (y.f:Nat)]:=by rw [LK];rfl
theorem oX {c:Cx} {D:List Nat} {sl:aH} {hs h1 h2:List bd} {X:Act→World→Prop} {W:List Wy} (y:Wy) {n:Nat} {x:List Value} (ht:Take hs (iD W) h1) (ht2:Take h1 (row 3 1 y.v n x) h2) (hn:n=y.p.length) (hx:x=fS y.p)
  (k:Tr c D sl (iD (W++[y])::h2) X):Tr c D sl hs X:=by
 subst hx
 refine k8 (vs:=W.map Wy.v) (xs:=W.map fun x=>fS x.p) (v:=y.v) (show Take hs (mB 3 (W.map Wy.v) (W.map fun x=>fS x.p)) h1 from ht) ht2 (by rw [hn];unfold fS;rw [Zd]) (by rw [Zd,Zd]) ?_
 rw [← KX];exact k
theorem xL {c:Cx} {D:List Nat} {sl:aH} {hs:List bd} {X:Act→World→Prop} (k:Tr c D sl (iD []::hs) X):Tr c D sl hs X:=jP 3 k
set_option maxHeartbeats 1000000 in
theorem KV {r:Ro} {s d t p:Value} (v:Int) (so:ByteArray) {w:World} (h:RR w r s d t p) (cT:r.ti.length≤1000) (QP:so∈cF r) :
  bu Tryz.prog 259 [RA r s d t p,.int .i64 v,.string so] w [] (fun x:Value×List Wy=>PC ((AU r v so r.ti.length).map (fun i=>(0,[i]))++(fv r v (qU r so) r.ti.length).map (fun i=>(1,[i]))) x.2) (fun x=>x.1)
   (fun x=>[row 244 2 x.1 x.2.length (mR x.2),iD x.2]):=by
 have h1:=Rd.one h.sr
 have h2:=Rd.one h.de
 have h3:=Rd.one h.ti
 have h4:=Rd.one h.po
 have hti:=h.ti
 obtain ⟨a,cp,b,o',rfl,dj,bV,ha,hc⟩:=hti
 have QM:=h.sr
 obtain ⟨a2,nR,b2,o2,rfl,kE,fk,jD,jS⟩:=QM
 rw [cd] at *
 rw [cO] at *
 unfold maxLen at bV fk
 obtain ⟨i0,wZ⟩:∃ i:Nat,bE (cF r) so=(i:Nat):=⟨(bE (cF r) so).toNat,by have:=eG QP;omega⟩
 have J6:i0<r.sr.length:=by
  obtain ⟨hl,_⟩:=fq (l:=cF r) (s:=so) (by omega)
  rw [wZ,ZI] at hl
  unfold cF at hl;rwa [Zd] at hl
 have z6:qU r so=(r.sr[i0]).mx:=by unfold qU;rw [wZ,ZI,Zk,Zc J6];rfl
 have TN:∀ w',aJ [] w w'→aj Tryz.prog 180 [.agg #[.int .i64 r.lv,.int .i64 r.ma,.slice a2 r.sr.length nR,d,.slice a r.ti.length cp,p],.string so] w' (.int .i64 (i0:Nat)):=fun w' hk=>wZ ▸ n9 so (h.keeps hk)
 have hsrc:=TN
 unfold RA
 refine aS Tryz.func259 rfl rfl ?_
 (refine Jr<|Jy rfl rfl fun _ _=>Ja rfl<|Ji<|Jz rfl rfl fun _ _=>Jn<|Jq<|Jr<|bS rfl rfl ae<|JL rfl (.there .here) rfl<|JI rfl<|Jv rfl<|Jn<|J0 ?_)
 rename_i b3 vI b7 Ux
 refine aQ 244 2 ?_
 refine xL ?_
 refine aW (ι:=Nat×Value×List Wy) (fun x=>x.1≤r.ti.length∧PC ((AU r v so x.1).map (fun i=>(0,[i]))) x.2.2)
  (fun x=>[(14,.int .i64 (x.1:Nat)),(13,.int .i64 (r.ti.length:Nat)),(12,.slice a r.ti.length cp),(7,.pointer (some ⟨b7,0,none⟩)),(3,.pointer (some ⟨b3,0,none⟩)),(1,.int .i64 v),(2,.string so)])
  (fun x=>[bH b7 (.cells #[x.2.1] 329 (0,0)),row 244 2 x.2.1 x.2.2.length (mR x.2.2),iD x.2.2,JP b3 r (.slice a2 r.sr.length nR) d (.slice a r.ti.length cp) p]) (fun x=>r.ti.length-x.1) ?_ ?_
 ·apply aI (0,.slice none 0 0,[]) ⟨Zi _,rfl,fun y hy=>by cases hy⟩
  case hs1=>exact cg
  case ht=>
   exact .cons bL (.cons (.there .here) (.cons .here (.cons .here .nil)))
 rintro ⟨k,wv,W⟩ ⟨hk,hW⟩
 dsimp only at hk hW ⊢
 have RD:(mR W).length=W.length*2:=oV W
 by_cases aM:k<r.ti.length
 ·have cG:=ha (fw aM)
  have aB:=(hc k _ (eE aM)).2
  unfold Ti.cells at aB
  have zZ:=mW aM
  have yx:gP r k=(r.ti[k]).nm:=by unfold gP;rw [zZ]
  have hWk:W.length≤k:=by
   have:=congrArg List.length hW.1
   rw [Zd,Zd] at this
   rw [this]
   have:=Z6 (xq r v so) (List.range k)
   rw [ZaN] at this
   exact this
  have B7:∀ w',aJ [] w w'→aj Tryz.prog 121 [.agg #[.int .i64 r.lv,.int .i64 r.ma,.slice a2 r.sr.length nR,d,.slice a r.ti.length cp,p],.int .i64 v,.string (r.ti[k]).nm] w' (.bool (gV r.po v (r.ti[k]).nm)):=fun w' hk=>qC v _ (h.keeps hk)
  have AQ:∀ w',aJ [] w w'→aj Tryz.prog 126 [.agg #[.int .i64 r.lv,.int .i64 r.ma,.slice a2 r.sr.length nR,d,.slice a r.ti.length cp,p],.int .i64 v,.string (r.ti[k]).nm] w' (.string (jG r v (r.ti[k]).nm)):=fun w' hk=>pq v _ (h.keeps hk) (by omega)
  cases AR:gV r.po v (r.ti[k]).nm with
  | false =>
   have B8:∀ w',aJ [] w w'→aj Tryz.prog 121 [.agg #[.int .i64 r.lv,.int .i64 r.ma,.slice a2 r.sr.length nR,d,.slice a r.ti.length cp,p],.int .i64 v,.string (r.ti[k]).nm] w' (.bool false):=fun w' hk=>AR ▸ B7 w' hk
   have hq:xq r v so k=false:=by unfold xq;rw [yx,AR];rfl
   have I5:AU r v so (k+1)=AU r v so k:=by rw [vX,if_neg (by rw [hq];decide),ZU]
   (refine Jr<|JA rfl<|Jn<|Jq<|Jd rfl fun az=>Jk<|Jq<|J0<|Jr<|Jv rfl<|ab (fM cG az) rfl<|ab (gW (ew.base aB rfl)) rfl<|Jz rfl rfl fun _ _=>Ja rfl<|aq (.of rfl) (.of rfl) .here rfl rfl (fo rfl rfl rfl) (bG rfl) ak<|Ji<|ab (cR dT) rfl<|Jv rfl<|bS rfl rfl ae<|JL rfl .here rfl<|ai eM rfl (fun w' aA=>(B8 w' (Mem.keeps aA)))<|Jv rfl<|aD rfl rfl inferInstance (fun hg bA=>(bT (.of rfl) dT ak (by rfl))) rfl<|il rfl rfl rfl rfl<|aD rfl rfl inferInstance (fun hg bA=>(au (.of rfl) ae)) rfl<|aD rfl rfl inferInstance (fun hg bA=>(ag (.bI bA rfl) (At.lit .here rfl))) rfl<|dC rfl rfl rfl rfl<|il rfl rfl rfl rfl<|dC rfl rfl rfl rfl<|ab (cX (.of rfl) (.of rfl) (.of rfl) rfl) rfl<|Jn<|bK (.of rfl)<|Jw<|Jj<|Jt<|Jg<|JB rfl (by omega)<|Jv rfl<|Jn ?_)
   apply aK (k+1,wv,W) ⟨show k+1≤r.ti.length by omega,by rw [I5];exact hW⟩ (show r.ti.length-(k+1)<r.ti.length-k by omega)
   case hs1=>exact cg
   case ht=>(try simp only [Ze,Zf,Za]);exact .cons (.there .here) (.cons (.there .here) (.cons (.there .here) (.cons (.there .here) .nil)))
  | true =>
   have B8:∀ w',aJ [] w w'→aj Tryz.prog 121 [.agg #[.int .i64 r.lv,.int .i64 r.ma,.slice a2 r.sr.length nR,d,.slice a r.ti.length cp,p],.int .i64 v,.string (r.ti[k]).nm] w' (.bool true):=fun w' hk=>AR ▸ B7 w' hk
   by_cases wW:jG r v (r.ti[k]).nm=so
   ·have hq:xq r v so k=true:=by unfold xq;rw [yx,AR,decide_eq_true wW];rfl
    have I5:AU r v so (k+1)=AU r v so k++[k]:=by rw [vX,if_pos hq]
    (refine Jr<|JA rfl<|Jn<|Jq<|Jd rfl fun az=>Jk<|Jq<|J0<|Jr<|Jv rfl<|ab (fM cG az) rfl<|ab (gW (ew.base aB rfl)) rfl<|Jz rfl rfl fun _ _=>Ja rfl<|aq (.of rfl) (.of rfl) .here rfl rfl (fo rfl rfl rfl) (bG rfl) ak<|Ji<|ab (cR dT) rfl<|Jv rfl<|bS rfl rfl ae<|JL rfl .here rfl<|ai eM rfl (fun w' aA=>(B8 w' (Mem.keeps aA)))<|Jv rfl<|JK rfl rfl<|ab (cR dT) rfl<|JK rfl rfl<|Jv rfl<|JK rfl rfl<|bS rfl rfl ae<|JK rfl rfl<|JL rfl .here rfl<|JK rfl rfl<|ai eM rfl (fun w' aA=>(AQ w' (Mem.keeps aA)))<|JK rfl rfl<|Jv rfl<|JK rfl rfl<|ab (uV (.of rfl) (.of rfl) wW) rfl<|ab (eN (.of rfl) (.of rfl) (.of rfl) rfl) rfl<|Jn<|cP (.of rfl)<|Jg<|JL rfl (.there .here) rfl<|Jv rfl<|br (aC (.cons (.of rfl) .nil) rfl rfl rfl rfl) rfl fun _ _=>ab (aU (.cons (.of rfl) (.cons (.of rfl) .nil)) ak) rfl<|br (bB (.cons (.of rfl) .nil) rfl rfl bQ bQ ak) rfl fun _ _=>?_)
    rename_i b9 hb9 bq nq bl O6
    have Kk:=hW.add ⟨.slice (some ⟨bq,0,none⟩) 1 1,[k],0⟩ rfl
    have TG:mR (W++[⟨.slice (some ⟨bq,0,none⟩) 1 1,[k],0⟩])=mR W++[.slice (some ⟨bq,0,none⟩) 1 1,.int .i64 0]:=yU W _
    have TF:(W++[(⟨.slice (some ⟨bq,0,none⟩) 1 1,[k],0⟩:Wy)]).length=W.length+1:=by simp
    refine bF (.of rfl) (.of rfl) dT .here ak (by rfl) (fY rfl rfl) (by rfl) (by rfl) (by rfl) eC (by rfl) ?_
    intro v'
    refine aT (by exact .here) fun a' gL e=>?_
    subst e
    (refine aq (.of rfl) (.of rfl) dT rfl rfl (en rfl) (bG rfl) ak<|Jx<|Jj<|Jt<|Jg<|JB rfl (by omega)<|Jv rfl<|Jn ?_)
    refine bZ (g:=bq) (E:=3) (ys:=[.int .i64 (k:Nat)]) 1 1 cW rfl rfl rfl ?_
    refine oX (W:=W) ⟨.slice (some ⟨bq,0,none⟩) 1 1,[k],0⟩ (n:=1) (x:=[.int .i64 (k:Nat)]) eX (by exact .here) rfl rfl ?_
    apply aK (k+1,.slice a' (W.length+1) gL,W++[⟨.slice (some ⟨bq,0,none⟩) 1 1,[k],0⟩]) ⟨show k+1≤r.ti.length by omega,by rw [I5,Zs];exact Kk⟩ (show r.ti.length-(k+1)<r.ti.length-k by omega)
    case hs1=>exact cg
    case ht=>
     show bD _ [bH b7 (.cells #[.slice a' (W.length+1) gL] 329 (0,0)),row 244 2 (.slice a' (W.length+1) gL) (W++[(⟨.slice (some ⟨bq,0,none⟩) 1 1,[k],0⟩:Wy)]).length (mR (W++[⟨.slice (some ⟨bq,0,none⟩) 1 1,[k],0⟩])),iD (W++[⟨.slice (some ⟨bq,0,none⟩) 1 1,[k],0⟩]),JP b3 r (.slice a2 r.sr.length nR) d (.slice a r.ti.length cp) p] _
     rw [TF,TG]
     exact .cons (.there .here) (.cons (.there .here) (.cons .here (.cons bL .nil)))
   ·have hq:xq r v so k=false:=by unfold xq;rw [yx,AR,decide_eq_false wW];rfl
    have I5:AU r v so (k+1)=AU r v so k:=by rw [vX,if_neg (by rw [hq];decide),ZU]
    (refine Jr<|JA rfl<|Jn<|Jq<|Jd rfl fun az=>Jk<|Jq<|J0<|Jr<|Jv rfl<|ab (fM cG az) rfl<|ab (gW (ew.base aB rfl)) rfl<|Jz rfl rfl fun _ _=>Ja rfl<|aq (.of rfl) (.of rfl) .here rfl rfl (fo rfl rfl rfl) (bG rfl) ak<|Ji<|ab (cR dT) rfl<|Jv rfl<|bS rfl rfl ae<|JL rfl .here rfl<|ai eM rfl (fun w' aA=>(B8 w' (Mem.keeps aA)))<|Jv rfl<|JK rfl rfl<|ab (cR dT) rfl<|JK rfl rfl<|Jv rfl<|JK rfl rfl<|bS rfl rfl ae<|JK rfl rfl<|JL rfl .here rfl<|JK rfl rfl<|ai eM rfl (fun w' aA=>(AQ w' (Mem.keeps aA)))<|JK rfl rfl<|Jv rfl<|JK rfl rfl<|ab (Bz (.of rfl) (.of rfl) wW) rfl<|ab (cX (.of rfl) (.of rfl) (.of rfl) rfl) rfl<|Jn<|bK (.of rfl)<|Jw<|Jj<|Jt<|Jg<|JB rfl (by omega)<|Jv rfl<|Jn ?_)
    apply aK (k+1,wv,W) ⟨show k+1≤r.ti.length by omega,by rw [I5];exact hW⟩ (show r.ti.length-(k+1)<r.ti.length-k by omega)
    case hs1=>exact cg
    case ht=>(try simp only [Ze,Zf,Za]);exact .cons (.there .here) (.cons (.there .here) (.cons (.there .here) (.cons (.there .here) .nil)))
 ·obtain rfl:k=r.ti.length:=by omega
  refine Jr<|JA rfl<|Jn<|Jq<|Jc rfl fun az=>Jp<|Jl<|Jo<|Jt<|Jq<|Jq ?_
  have tN:=jD (iM J6)
  have eT:=(jS i0 _ (fN J6)).2
  unfold Sr.cells at eT
  have SG:=eT 1 _ rfl
  with_reducible refine dE 10 (by kernel_rfl) ?_
  (refine aF (cR cW) rfl<|ju rfl rfl<|nF rfl rfl ae<|aF (gT cW) rfl<|aF (cR cW) rfl<|ju rfl rfl<|fI bj rfl (fun w' aA=>(hsrc w' (Mem.keeps aA)))<|aF (ar (.of rfl) (.of rfl) tN (by omega) (by omega) bb) rfl<|nF rfl rfl ae<|aF (ag (.of rfl) (At.base SG rfl)) rfl ?_)
  with_reducible refine dI ?_
  rw [← z6]
  with_reducible apply jw
  case hr=>exact eM
  case hd=>rfl
  case ht=>exact bD.nil
  case hc=>
   intro w1 fp aR _ hs1
   obtain rfl:fp=[]:=hs1
   exact su (s:=.slice a2 r.sr.length nR) (d:=d) (t:=.slice a r.ti.length cp) (p:=p) v (qU r so) (h.keeps aR.keeps)
  intro y _
  dsimp only [id_eq,Zb,Za]
  refine Jn<|J0 ?_
  have sy:(fv r v (qU r so) r.ti.length).length≤r.ti.length:=by
   have:=Z6 (Cf r v (qU r so)) (List.range r.ti.length)
   rw [ZaN] at this
   exact this
  have iT:(AU r v so r.ti.length).length≤r.ti.length:=by
   have:=Z6 (xq r v so) (List.range r.ti.length)
   rw [ZaN] at this
   exact this
  refine jn (ps:=[51,52]) (f:=240) (first:=[]) (cap:=[.pointer (some ⟨y.1,0,none⟩),.pointer (some ⟨y.2.1,0,none⟩),.pointer (some ⟨y.2.2,0,none⟩)]) (ι:=Value×List Wy) (κ:=Empty) (rst:=[JP b3 r (.slice a2 r.sr.length nR) d (.slice a r.ti.length cp) p]) ?hg
   [JP y.1 r (.slice a2 r.sr.length nR) d (.slice a r.ti.length cp) p,bH y.2.1 (.cells #[.int .i64 (qU r so)] 3 (0,0)),bH y.2.2 (.cells #[.int .i64 v] 3 (0,0))] (Lr r v (qU r so)) ?hit
   (fun k x=>PC ((AU r v so r.ti.length).map (fun i=>(0,[i]))++((fv r v (qU r so) r.ti.length).take k).map (fun i=>(1,[i]))) x.2)
   (fun x=>[bH b7 (.cells #[x.1] 329 (0,0)),row 244 2 x.1 x.2.length (mR x.2),iD x.2])
   (fun _=>False) (fun _=>[]) (fun _=>.ret) (wv,W) (by rw [Ze,Zf,ZU];exact hW) ?ht ?hlen ?hps ?round ?kn ?kj
  case hg=>exact Is.of rfl
  case hit=>intro w' aA;exact IB v (qU r so) h RO.nil (by omega)
  case ht=>
   dsimp only [Zb,Za]
   exact .cons cW (.cons cW (.cons cW (.cons .here (.cons .here (.cons .here .nil)))))
  case hlen=>intro vs oF;obtain ⟨x,_,rfl⟩:=Zt.1 oF;rfl
  case hps=>intro t ht;simp only [ZS,Zp,or_false] at ht;rcases ht with rfl | rfl <;> exact Zav rfl
  case kj=>intro y;cases y
  case kn=>
   rintro ⟨wv,W⟩ D hq
   dsimp only [Zb,Za] at hq ⊢
   rw [uk,ZN] at hq
   refine aT (E:=244) (sz:=2) (by exact Take.there .here) fun va vc e=>?_
   subst e
   refine Jj<|Jt<|Jr<|JL rfl .here rfl<|Ja rfl<|Jn<|Je ?_
   first | with_reducible apply aO | with_reducible apply aP
   case he=>exact dH rfl rfl
   case hR=>
    intro w' aA
    exact aG (.slice va W.length vc,W) hq (by exact .cons (.there .here) (.cons (.there .here) .nil)) aA rfl
  case round=>
   rintro l2 rc W2 US k ⟨wv,W⟩ vs hsz hk hq hB hF
   dsimp only at hq
   obtain ⟨i,hi,rfl,gU,VQ⟩:=DG hk
   obtain ⟨tu,J8⟩:=Zl.1 hi
   have htk:(fv r v (qU r so) r.ti.length).take (k+1)=(fv r v (qU r so) r.ti.length).take k++[i]:=by rw [Zn tu,J8]
   have RD:(mR W).length=W.length*2:=oV W
   have hWk:W.length≤2000:=by
    have:=congrArg List.length hq.1
    rw [Zd,Zg,Zd,Zd,Zr] at this
    omega
   dsimp only [Ti.cells,List.zip_cons_cons,List.zip_nil_right,mh,Zb,Za]
   refine Jg<|Ja rfl<|Jn ?_
   with_reducible apply mw
   case ht=>exact .here
   refine aT (E:=244) (sz:=2) bL fun v1 v2 e=>?_
   subst e
   (refine J0<|Jg<|JL rfl (.there .here) rfl<|Jv rfl<|br (aC (.cons (.of rfl) .nil) rfl rfl rfl rfl) rfl fun _ _=>ab (aU (.cons (.of rfl) (.cons (.of rfl) .nil)) ak) rfl<|br (bB (.cons (.of rfl) .nil) rfl rfl bQ bQ ak) rfl fun _ _=>?_)
   rename_i bq nq bl O6
   have Kk:=hq.add ⟨.slice (some ⟨bq,0,none⟩) 1 1,[i],1⟩ rfl
   have TG:mR (W++[⟨.slice (some ⟨bq,0,none⟩) 1 1,[i],1⟩])=mR W++[.slice (some ⟨bq,0,none⟩) 1 1,.int .i64 1]:=yU W _
   have TF:(W++[(⟨.slice (some ⟨bq,0,none⟩) 1 1,[i],1⟩:Wy)]).length=W.length+1:=by simp
   refine bF (.of rfl) (.of rfl) dT .here ak (by rfl) (fY rfl rfl) (by rfl) (by rfl) (by rfl) eC (by rfl) ?_
   intro v'
   refine aT (by exact .here) fun a' gL e=>?_
   subst e
   (refine aq (.of rfl) (.of rfl) dT rfl rfl (en rfl) (bG rfl) ak<|Jx<|Jj ?_)
   refine bZ (g:=bq) (E:=3) (ys:=[.int .i64 (i:Nat)]) 1 1 cW rfl rfl rfl ?_
   refine oX (W:=W) ⟨.slice (some ⟨bq,0,none⟩) 1 1,[i],1⟩ (n:=1) (x:=[.int .i64 (i:Nat)]) eX (by exact .here) rfl rfl ?_
   apply lM (.slice a' (W.length+1) gL,W++[⟨.slice (some ⟨bq,0,none⟩) 1 1,[i],1⟩])
   case ht=>exact dT
   case hx=>
    show PC _ _
    rw [htk,Zs,← Zh]
    exact Kk
   case h2=>
    show bD _ [bH b7 (.cells #[.slice a' (W.length+1) gL] 329 (0,0)),row 244 2 (.slice a' (W.length+1) gL) (W++[(⟨.slice (some ⟨bq,0,none⟩) 1 1,[i],1⟩:Wy)]).length (mR (W++[⟨.slice (some ⟨bq,0,none⟩) 1 1,[i],1⟩])),iD (W++[⟨.slice (some ⟨bq,0,none⟩) 1 1,[i],1⟩])] _
    rw [TF,TG]
    exact .cons (.there .here) (.cons (.there .here) (.cons .here .nil))
def xr (r:Ro) (v:Int) (so:ByteArray):List (Nat×List Nat):=(AU r v so r.ti.length).map (fun i=>(0,[i]))++(fv r v (qU r so) r.ti.length).map (fun i=>(1,[i]))
theorem rZ {r:Ro} {so:ByteArray} (h:so∈cF r):j7 r so=qU r so:=by
 unfold j7 qU;rw [if_pos (eG h)]
theorem vY {r:Ro} (hn:pR r) (h:iJ r r.po) (v:Int) (so:ByteArray) (i:Nat):xq r v so i=(fB r r.po v so).ca i:=by
 unfold xq fB
 rw [sO hn h]
theorem qp {r:Ro} (v:Int) (so:ByteArray) (m:Int) (i:Nat):Cf r v m i=(decide ((fB r r.po v so).fr i=m)&&(fB r r.po v so).fe i):=rfl
theorem KP {r:Ro} {v:Int} {so:ByteArray} {i:Nat} (h:(fB r r.po v so).ca i=true):(fB r r.po v so).fe i=false:=by
 unfold fB at h ⊢
 simp only [Zm] at h
 simp [h.1]
theorem Fl (N:Wn) (i:Nat):N.tP [i]=if N.fe i then 1 else 0:=by
 unfold Wn.tP
 cases h:N.fe i <;> simp [h]
theorem Kn (N:Wn) (p:List Nat) {i:Nat} (h:N.fe i=true):N.tP (p++[i])=N.tP p+1:=by
 unfold Wn.tP
 rw [List.countP_append]
 simp [h]
theorem HD (N:Wn) (j:Nat):N.step [] j=(decide (j<N.n)&&(N.ca j||(N.fe j&&decide (N.fr j=N.Ek)))):=by
 unfold Wn.step;simp [Wn.NR];rfl
theorem step_cons (N:Wn) {x:List Nat} (h:x≠[]) (j:Nat):N.step x j=(decide (j<N.n)&&(!x.contains j&&(N.fe j&&decide (N.fr j=N.fin x)))):=by
 unfold Wn.step
 cases x with
 | nil=>exact absurd rfl h
 | cons a l=>simp
theorem KW {r:Ro} (hn:pR r) (h:iJ r r.po) (v:Int) {so:ByteArray} (hs:so∈cF r) (q:List Nat):q∈(xr r v so).map Prod.snd↔q∈(fB r r.po v so).exts []:=by
 unfold xr Wn.exts Wn.Sz
 rw [Zs,Zx,ZaH,ZaH]
 simp only [Zt,Za,Function.comp,Zv,ZQ,AU,fv]
 have bh:∀ j,(fB r r.po v so).step [] j=true↔j<r.ti.length∧(xq r v so j=true∨Cf r v (qU r so) j=true):=fun j=>by
  rw [HD,vY hn h,qp v so]
  have e0:(fB r r.po v so).Ek=qU r so:=rZ hs
  rw [e0]
  simp only [Zm,ZO,decide_eq_true_eq]
  constructor
  ·rintro ⟨h1,h2 | ⟨h3,h4⟩⟩
   ·exact ⟨h1,.inl h2⟩
   ·exact ⟨h1,.inr ⟨h4,h3⟩⟩
  ·rintro ⟨h1,h2 | ⟨h3,h4⟩⟩
   ·exact ⟨h1,.inl h2⟩
   ·exact ⟨h1,.inr ⟨h4,h3⟩⟩
 constructor
 ·rintro (⟨j,⟨h1,h2⟩,rfl⟩ | ⟨j,⟨h1,h2⟩,rfl⟩)
  ·exact ⟨j,⟨h1,(bh j).2 ⟨h1,.inl h2⟩⟩,rfl⟩
  ·exact ⟨j,⟨h1,(bh j).2 ⟨h1,.inr h2⟩⟩,rfl⟩
 ·rintro ⟨j,⟨h1,h2⟩,rfl⟩
  rcases ((bh j).1 h2).2 with h3 | h3
  ·exact .inl ⟨j,⟨h1,h3⟩,rfl⟩
  ·exact .inr ⟨j,⟨h1,h3⟩,rfl⟩
theorem R8 {r:Ro} (hn:pR r) (h:iJ r r.po) (v:Int) {so:ByteArray} {x:Nat×List Nat} (hx:x∈xr r v so):x.1=(fB r r.po v so).tP x.2:=by
 unfold xr at hx
 rcases Zx.1 hx with hx | hx
 ·obtain ⟨i,hi,rfl⟩:=Zt.1 hx
  have:=(Zv.1 hi).2
  rw [vY hn h] at this
  rw [Fl,KP this];rfl
 ·obtain ⟨i,hi,rfl⟩:=Zt.1 hx
  have:=(Zv.1 hi).2
  rw [qp v so,Zm] at this
  rw [Fl,this.2];rfl
theorem Oi {r:Ro} (hn:pR r) (h:iJ r r.po) (v:Int) {so:ByteArray} (h6:r.ti.length≤6):(fB r r.po v so).wt ((xr r v so).map Prod.snd)≤1957:=by
 have e:(xr r v so).map Prod.snd=(AU r v so r.ti.length++fv r v (qU r so) r.ti.length).map (fun i=>([]:List Nat)++[i]):=by
  unfold xr
  rw [Zs,ZaH,ZaH,Zs];rfl
 rw [e,Wn.CV]
 have hl:(AU r v so r.ti.length++fv r v (qU r so) r.ti.length).length≤r.ti.length:=by
  refine kX _ _ ?_ ?_
  ·rw [ZH]
   refine ⟨List.nodup_range.filter _,List.nodup_range.filter _,?_⟩
   intro a ha b hb e
   subst e
   have h1:=(Zv.1 ha).2
   have h2:=(Zv.1 hb).2
   rw [vY hn h] at h1
   rw [qp v so,Zm] at h2
   rw [KP h1] at h2
   cases h2.2
  ·intro x hx
   rcases Zx.1 hx with hx | hx <;> exact ZQ.1 (Zv.1 hx).1
 have hN:(fB r r.po v so).n=r.ti.length:=rfl
 rw [hN]
 generalize (AU r v so r.ti.length++fv r v (qU r so) r.ti.length).length=k at hl
 generalize r.ti.length=n at hl h6
 have:∀ n,n≤6→n*pF (n-1)≤1957:=by decide
 exact ZX (Z7 _ hl) (by simpa using this n h6)
theorem GM {r:Ro} {v:Int} {so:ByteArray} {x:List Nat} (hx:x≠[]):(fB r r.po v so).exts x=((fv r v ((fB r r.po v so).fin x) r.ti.length).filter fun i=>!x.contains i).map fun i=>x++[i]:=by
 unfold Wn.exts Wn.Sz fv
 rw [Zbx]
 congr 1
 apply ZaZ
 intro j hj
 have mm:=ZQ.1 hj
 rw [step_cons _ hx,qp v so]
 have:decide (j<(fB r r.po v so).n)=true:=decide_eq_true mm
 rw [this,ZaA]
 congr 1
 exact Bool.and_comm _ _
theorem Tw {r:Ro} {v:Int} {so:ByteArray} (p q:List Nat):(fB r r.po v so).lt p q=wl ((fB r r.po v so).tP p,p) ((fB r r.po v so).tP q,q):=rfl
def nQ (r:Ro) (de:ByteArray):Int:=(r.de.getD (bE (cq r) de).toNat ⟨⟨#[]⟩,0,false⟩).mx
theorem Kv {r:Ro} {de:ByteArray} (h:de∈cq r):kC r de=nQ r de:=by
 unfold kC nQ;rw [if_pos (eG h)]
structure pD (N:Wn) (dm:Int) (Q kz:List Wy):Prop where
 sub:∀ x∈Q,x∈kz
 one:∀ x∈kz,x.v.oneCell'=true
 tP:∀ x∈Q,x.f=N.tP x.p
 inv:N.Inv dm (Q.map Wy.p)
 D8:N.wt (Q.map Wy.p)≤1957
theorem pD.len {N:Wn} {dm:Int} {Q kz:List Wy} (h:pD N dm Q kz):Q.length≤1957:=by
 have:=N.Ha (Q.map Wy.p)
 rw [Zd] at this
 exact ZX this h.D8
theorem pD.begin {r:Ro} (hn:pR r) (hv:iJ r r.po) (v:Int) {so de:ByteArray} (hs:so∈cF r) (h6:r.ti.length≤6) (hne:qU r so≠nQ r de) {W:List Wy} (hW:PC (xr r v so) W):pD (fB r r.po v so) (nQ r de) W W:=by
 have hp:W.map Wy.p=(xr r v so).map Prod.snd:=by rw [← hW.1,ZaH];rfl
 refine ⟨fun _ h=>h,hW.2,fun x hx=>?_,?_,?_⟩
 ·have:wk x∈xr r v so:=by rw [← hW.1];exact Z3 hx
  exact R8 hn hv v this
 ·refine Wn.Gs (by rw [show (fB r r.po v so).Ek=j7 r so from rfl,rZ hs];exact hne) fun q=>?_
  rw [hp];exact KW hn hv v hs q
 ·rw [hp];exact Oi hn hv v h6
theorem pD.perm {N:Wn} {dm:Int} {Q Q' kz:List Wy} (h:pD N dm Q kz) (hp:Q'.Perm Q):pD N dm Q' kz:=by
 have hm:=hp.map Wy.p
 refine ⟨fun x hx=>h.sub x (hp.mem_iff.1 hx),h.one,fun x hx=>h.tP x (hp.mem_iff.1 hx),⟨fun q hq=>h.inv.ok q (hm.mem_iff.1 hq),fun p h1 h2=>?_⟩,by rw [Wn.Et hm];exact h.D8⟩
 obtain ⟨q,hq,h3⟩:=h.inv.cover p h1 h2
 exact ⟨q,hm.mem_iff.2 hq,h3⟩
theorem pD.found {r:Ro} {v:Int} {so:ByteArray} {dm:Int} {x:Wy} {R kz:List Wy} (h:pD (fB r r.po v so) dm (x::R) kz) (hs:(x::R).Pairwise (fun x y=>wl (y.f,y.p) (x.f,x.p)=false)) (hf:(fB r r.po v so).fin x.p=dm):(fB r r.po v so).least dm x.p:=by
 refine Wn.Gr h.inv (by simp) (fun q hq=>?_) hf
 obtain ⟨y,hy,rfl⟩:=Zt.1 hq
 rw [Tw,← h.tP x (by simp),← h.tP y hy]
 rcases ZS.1 hy with rfl | hy
 ·exact xB _
 ·exact (ZaU.1 hs).1 y hy
theorem pD.next {r:Ro} {v:Int} {so:ByteArray} {dm:Int} {x:Wy} {R W kz nL:List Wy} (h:pD (fB r r.po v so) dm (x::R) kz) (hf:(fB r r.po v so).fin x.p≠dm) (iR:∀ y∈R++W,y∈nL) (gR:∀ y∈nL,y.v.oneCell'=true)
  (hW:W.map wk=((fv r v ((fB r r.po v so).fin x.p) r.ti.length).filter fun i=>!x.p.contains i).map fun i=>(x.f+1,x.p++[i])):pD (fB r r.po v so) dm (R++W) nL∧(fB r r.po v so).wt ((R++W).map Wy.p)<(fB r r.po v so).wt ((x::R).map Wy.p):=by
 have hx:=h.inv.ok x.p (by simp)
 have hWp:W.map Wy.p=(fB r r.po v so).exts x.p:=by
  rw [GM hx.2]
  have:=congrArg (fun l=>l.map Prod.snd) hW
  simp only [ZaH] at this
  exact this
 have aM:(fB r r.po v so).wt ((R++W).map Wy.p)<(fB r r.po v so).wt ((x::R).map Wy.p):=by
  rw [Zs,hWp,Wn.xy,Z8,Wn.wt]
  have:=Wn.LL hx.1
  omega
 refine ⟨⟨iR,gR,fun y hy=>?_,?_,ZX (Nat.le_of_lt aM) h.D8⟩,aM⟩
 ·rcases Zx.1 hy with hy | hy
  ·exact h.tP y (ZW _ hy)
  ·have h1:wk y∈W.map wk:=Z3 hy
   rw [hW] at h1
   obtain ⟨i,hi,e⟩:=Zt.1 h1
   have e1:x.f+1=y.f:=congrArg Prod.fst e
   have e2:x.p++[i]=y.p:=congrArg Prod.snd e
   have h2:=(Zv.1 (Zv.1 hi).1).2
   rw [qp v so,Zm] at h2
   rw [← e1,← e2,Kn _ _ h2.2,h.tP x (by simp)]
 ·rw [Zs,hWp]
  refine Wn.IS h.inv (fun q=>?_) hf
  rw [Z8,ZS]
end Go.Proofs.A1
