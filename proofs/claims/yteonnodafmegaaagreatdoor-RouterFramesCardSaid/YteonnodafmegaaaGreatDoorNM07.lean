/- Parts of the proof: KE KF KV GkOff GkSortK TryzSortF KG KH KI KJq. -/
import Derived.Test.YteonnodafmegaaaGreatDoorNM06
import Derived.Test.YteonnodafmegaaaGreatDoorNM04
import Derived.Test.YteonnodafmegaaaGreatDoorNM03
import Derived.Test.YteonnodafmegaaaGreatDoorNM02
import Derived.ArgAppend
import Derived.Shelf.SlSortCmp.WholeK
import Derived.Shelf.SlSortCmp.NoneTotal
import Derived.Shelf.SlicesG.Cmp
import Derived.Ground.SlsfProg
import Derived.Ground.SlgcProg
import Derived.Ground.NamesProg
import Derived.Ground.Names2Prog
import Derived.Test.YteonnodafmegaaaGreatDoorProg
set_option linter.unusedSectionVars false
set_option linter.unusedVariables false
set_option linter.unusedSimpArgs false
namespace Go.Proofs.A1
open Go Go.SL
theorem ei {w w':World} {a:Addr} {v:Value} {md:List Nat} (h:w.cell? a=some v) (hs:a.spot=none) (hn:a.block ∉ md) (hk:aH md w w'):w'.cell? a=some v:=by
 have hb:=World.block_lt_of_cell? w a h
 obtain ⟨b,o,s⟩:=a
 subst hs
 have:=hk.block b hb hn
 rw [← h]
 simp [World.cell?,this]
theorem KY {q:Bool} {o:ByteArray} {f:FuncId} {first cap:List Value} [bM Tryz.prog f] {b5:Nat} {w:World} (f5:w.cell? ⟨b5,0,none⟩=some (.func (.func f) first.toArray cap.toArray))
  (cr:∀ w',aH [] w w'→aj Tryz.prog f (first++[.string o]++cap) w' (.bool q)) :
  aj Tryz.prog 225 [.string o,.pointer (some ⟨b5,0,none⟩)] w (.bool (!q)):=by
 refine ah Tryz.func225 rfl rfl ?_
 (refine Jr<|Ja rfl<|Ji<|ab (ag (.of rfl) (At.base f5 rfl)) rfl<|Jv rfl ?_)
 refine ai bL rfl (fun w' aB=>cr w' aB.keeps) ?_
 refine JH rfl<|Ja rfl<|Jn<|Je<|JT ?_
 rfl
theorem D8 {lv:Value} {l:List Ti} {q:ByteArray→Bool} {f:FuncId} {first cap:List Value} [bM Tryz.prog f] {w:World} (h:Rd w lv 3 (tK l)) (hn:l.length≤1000000)
  (cr:∀ o w',aH [] w w'→aj Tryz.prog f (first++[.string o]++cap) w' (.bool (q o))) :
  bh Tryz.prog 118 [lv,.func (.func 119) #[] #[],.func (.func f) first.toArray cap.toArray] w [] (fun _:Value=>True) id (fun v=>[row 9 1 v ((l.map Ti.nm).filter q).length (aM ((l.map Ti.nm).filter q))]):=by
 have zR:=Rd.one h
 refine aQ Tryz.func118 rfl rfl ?_
 refine Jr<|Jy rfl rfl fun _ _=>Ja rfl<|Ji<|Jv rfl<|Jv rfl ?_
 rename_i b5 NQ
 refine JN bd rfl (fun w1 aR=>Nf (f:=119) (first:=[]) (cap:=[]) (g:=Ti.nm) (h.keeps aR.keeps) hn (fun x _ w2 _=>IN x w2)) ?_
 intro nv _
 dsimp only [id_eq,Zb,Za]
 refine ab (bA .nil (.cons (.of rfl) .nil)) rfl ?_
 with_reducible apply fS (As:=[row 9 1 nv l.length (aM (l.map Ti.nm))])
 case hr=>exact bd
 case hd=>rfl
 case ht=>exact lU
 case hc=>
  intro w1 AO aR vh hs1 CK kM
  have h5:b5 ∉ AO:=kM b5 _ _ (by exact .here)
  have f5:w1.cell? ⟨b5,0,none⟩=some (.func (.func f) first.toArray cap.toArray):=At.lit (by exact Take.there .here) rfl w1 aR
  exact KN (f:=225) (p:=fun o=>!q o) (first:=[]) (cap:=[.pointer (some ⟨b5,0,none⟩)]) vh hs1 (by rw [Zd]) hn
   (fun o _ w2 eH=>KY (ei f5 rfl h5 eH) (fun w3 X9=>cr o w3 ((aR.keeps.over (fun b hb=>CK b hb) eH).trans X9)))
 intro v' _
 dsimp only [id_eq,Zb,Za]
 simp only [Bool.not_not]
 refine Ja rfl<|Jn<|Je ?_
 first | with_reducible apply aN | with_reducible apply aO
 case he=>exact dD rfl rfl
 case hR=>
  intro w' aB
  exact aF v' trivial (by exact .cons .here .nil) aB rfl
theorem KZ {q:Bool} {o:ByteArray} {f:FuncId} {first cap:List Value} [bM Tryz.prog f] {b5:Nat} {w:World} (f5:w.cell? ⟨b5,0,none⟩=some (.func (.func f) first.toArray cap.toArray))
  (cr:∀ w',aH [] w w'→aj Tryz.prog f (first++[.string o]++cap) w' (.bool q)) :
  aj Tryz.prog 226 [.string o,.pointer (some ⟨b5,0,none⟩)] w (.bool (!q)):=by
 refine ah Tryz.func226 rfl rfl ?_
 (refine Jr<|Ja rfl<|Ji<|ab (ag (.of rfl) (At.base f5 rfl)) rfl<|Jv rfl ?_)
 refine ai bL rfl (fun w' aB=>cr w' aB.keeps) ?_
 refine JH rfl<|Ja rfl<|Jn<|Je<|JT ?_
 rfl
theorem D9 {lv:Value} {l:List De} {q:ByteArray→Bool} {f:FuncId} {first cap:List Value} [bM Tryz.prog f] {w:World} (h:Rd w lv 3 (ue l)) (hn:l.length≤1000000)
  (cr:∀ o w',aH [] w w'→aj Tryz.prog f (first++[.string o]++cap) w' (.bool (q o))) :
  bh Tryz.prog 123 [lv,.func (.func 124) #[] #[],.func (.func f) first.toArray cap.toArray] w [] (fun _:Value=>True) id (fun v=>[row 9 1 v ((l.map De.nm).filter q).length (aM ((l.map De.nm).filter q))]):=by
 have zR:=Rd.one h
 refine aQ Tryz.func123 rfl rfl ?_
 refine Jr<|Jy rfl rfl fun _ _=>Ja rfl<|Ji<|Jv rfl<|Jv rfl ?_
 rename_i b5 NQ
 refine JN bd rfl (fun w1 aR=>EV (f:=124) (first:=[]) (cap:=[]) (g:=De.nm) (h.keeps aR.keeps) hn (fun x _ w2 _=>Dz x w2)) ?_
 intro nv _
 dsimp only [id_eq,Zb,Za]
 refine ab (bA .nil (.cons (.of rfl) .nil)) rfl ?_
 with_reducible apply fS (As:=[row 9 1 nv l.length (aM (l.map De.nm))])
 case hr=>exact bd
 case hd=>rfl
 case ht=>exact lU
 case hc=>
  intro w1 AO aR vh hs1 CK kM
  have h5:b5 ∉ AO:=kM b5 _ _ (by exact .here)
  have f5:w1.cell? ⟨b5,0,none⟩=some (.func (.func f) first.toArray cap.toArray):=At.lit (by exact Take.there .here) rfl w1 aR
  exact KN (f:=226) (p:=fun o=>!q o) (first:=[]) (cap:=[.pointer (some ⟨b5,0,none⟩)]) vh hs1 (by rw [Zd]) hn
   (fun o _ w2 eH=>KZ (ei f5 rfl h5 eH) (fun w3 X9=>cr o w3 ((aR.keeps.over (fun b hb=>CK b hb) eH).trans X9)))
 intro v' _
 dsimp only [id_eq,Zb,Za]
 simp only [Bool.not_not]
 refine Ja rfl<|Jn<|Je ?_
 first | with_reducible apply aN | with_reducible apply aO
 case he=>exact dD rfl rfl
 case hR=>
  intro w' aB
  exact aF v' trivial (by exact .cons .here .nil) aB rfl
theorem Ox {r:Ro} {s d t p:Value} (v:Int) (o:ByteArray) {b1 b2:Nat} {w:World} (h:RR w r s d t p) (hA:BR w b1 (RC r s d t p)) (f2:w.cell? ⟨b2,0,none⟩=some (.int .i64 v)) :
  aj Tryz.prog 120 [.string o,.pointer (some ⟨b1,0,none⟩),.pointer (some ⟨b2,0,none⟩)] w (.bool (jq r.po v o)):=by
 have h1:=Rd.one h.sr
 have h2:=Rd.one h.de
 have h3:=Rd.one h.ti
 have h4:=Rd.one h.po
 have j7:∀ (j:Nat) (u:Value),[Value.int .i64 r.lv,.int .i64 r.ma,s,d,t,p][j]? = some u→w.cell? ⟨b1,0+j,none⟩=some u:=hA
 refine ah Tryz.func120 rfl rfl ?_
 (refine Jr<|Ja rfl<|Ji<|ab (gS (eF.base j7 rfl)) rfl<|ab (ag (.of rfl) (At.base f2 rfl)) rfl<|Jv rfl ?_)
 refine ai eK rfl (fun w' aB=>qx v o (h.keeps aB.keeps)) ?_
 refine Ja rfl<|Jn<|Je<|JT ?_
 rfl
theorem Hn {r:Ro} {s d t p:Value} (v:Int) (o so:ByteArray) {b1 b2 b3:Nat} {w:World} (h:RR w r s d t p) (cI:r.ti.length≤1000000) (hA:BR w b1 (RC r s d t p)) (f2:w.cell? ⟨b2,0,none⟩=some (.int .i64 v)) (f3:w.cell? ⟨b3,0,none⟩=some (.string so)) :
  aj Tryz.prog 125 [.string o,.pointer (some ⟨b1,0,none⟩),.pointer (some ⟨b2,0,none⟩),.pointer (some ⟨b3,0,none⟩)] w (.bool (decide (jM r v o=so))):=by
 have h1:=Rd.one h.sr
 have h2:=Rd.one h.de
 have h3:=Rd.one h.ti
 have h4:=Rd.one h.po
 have j7:∀ (j:Nat) (u:Value),[Value.int .i64 r.lv,.int .i64 r.ma,s,d,t,p][j]? = some u→w.cell? ⟨b1,0+j,none⟩=some u:=hA
 refine ah Tryz.func125 rfl rfl ?_
 refine Jr<|Ja rfl<|Jn<|Jq ?_
 with_reducible refine en 6 (by kernel_rfl) ?_
 (refine aL (gS (eF.base j7 rfl)) rfl<|aL (ag (.of rfl) (At.base f2 rfl)) rfl<|ly rfl rfl<|gD eK rfl (fun w' aB=>(ph v o (RR.keeps h (Mem.keeps aB)) cI))<|aL (ag (.of rfl) (At.base f3 rfl)) rfl<|aL (dS (.of rfl) (.of rfl)) rfl ?_)
 with_reducible refine eo ?_
 refine Ja rfl<|Jn<|Je<|JT ?_
 rfl
def K7 (r:Ro) (v:Int):Int:=aV [gC r,EX r v]
def G2 (r:Ro) (v:Int):List ByteArray:=if K7 r v≠0 then [] else (cU r).filter (jq r.po v)
theorem SK {r:Ro} {s d t p:Value} (v:Int) {w:World} (h:RR w r s d t p) (cI:lz r):bh Tryz.prog 23 [RA r s d t p,.int .i64 v] w [] (fun _:Value=>True) (fun x=>.tuple #[x,.int .i64 (K7 r v)]) (fun x=>[row 9 1 x (G2 r v).length (aM (G2 r v))]):=by
 have h1:=Rd.one h.sr
 have h2:=Rd.one h.de
 have h3:=Rd.one h.ti
 have h4:=Rd.one h.po
 have fK:∀ w',aH [] w w'→aj Tryz.prog 34 [.agg #[.int .i64 r.lv,.int .i64 r.ma,s,d,t,p]] w' (.int .i64 (gC r)):=fun w' hk=>eD (h.keeps hk) cI
 have hle:∀ w',aH [] w w'→aj Tryz.prog 114 [.agg #[.int .i64 r.lv,.int .i64 r.ma,s,d,t,p],.int .i64 v] w' (.int .i64 (EX r v)):=fun w' hk=>kP v (h.keeps hk)
 unfold RA
 refine aQ Tryz.func23 rfl rfl ?_
 refine Jr<|Jy rfl rfl fun _ _=>Jy rfl rfl fun _ _=>Ja rfl<|Ja rfl<|Jn<|Jq<|Jq ?_
 rename_i b2 sW b3 vo
 with_reducible refine cQ 6 (by kernel_rfl) ?_
 (refine an (cL (.there .here)) rfl<|aT bL rfl (fun w' aB=>(fK w' (Mem.keeps aB)))<|an (cL (.there .here)) rfl<|an (gT .here) rfl<|aT bd rfl (fun w' aB=>(hle w' (Mem.keeps aB)))<|ek (aD (.cons (.of rfl) (.cons (.of rfl) .nil)) rfl rfl rfl rfl) rfl rfl ?_)
 with_reducible refine dp rfl fun bq mN=>?_
 (refine ai bL rfl (fun w' aB=>(dN (Mem.dh aB .here rfl rfl) (bU.cons (bU.cons bU.nil))))<|Ja rfl<|Ji<|Jv rfl<|JD rfl<|Jn<|fP rfl (fun ar=>?_) fun ar=>?_;refine Jr<|Jv rfl<|Ja rfl<|Ja rfl<|Jn<|Ju ?_;rotate_left;refine Jk<|Jr<|bP rfl rfl ae<|JL rfl bT rfl<|ab (bA .nil (.cons (.of rfl) (.cons (.of rfl) .nil))) rfl ?_;rotate_right)
 ·have e1:G2 r v=[]:=if_pos ar
  rw [e1]
  refine aP 9 1 ?_
  first | with_reducible apply aN | with_reducible apply aO
  case he=>exact fY rfl rfl rfl
  case hR=>
   intro w' aB
   exact aF (.slice none 0 0) trivial (by exact .cons .here .nil) aB rfl
 have e1:G2 r v=(r.ti.map Ti.nm).filter (jq r.po v):=if_neg ar
 have e0:aV [gC r,EX r v]=0:=Zo.1 ar
 have e2:K7 r v=0:=e0
 rw [e1,e2]
 with_reducible apply jr
 case hr=>exact eK
 case hd=>rfl
 case ht=>exact bz.nil
 case hc=>
  intro w1 fp aR _ hs1
  obtain rfl:fp=[]:=hs1
  have hA:BR w1 b2 [.int .i64 r.lv,.int .i64 r.ma,s,d,t,p]:=BR.of aR bT
  have f2:w1.cell? ⟨b3,0,none⟩=some (.int .i64 v):=At.lit (by exact Take.there .here) rfl w1 aR
  have hR:=h.keeps aR.keeps
  exact D8 (f:=120) (q:=jq r.po v) (first:=[]) (cap:=[.pointer (some ⟨b2,0,none⟩),.pointer (some ⟨b3,0,none⟩)]) hR.ti (by have:=cI.2.2;omega)
   (fun o w2 eH=>Ox v o (hR.keeps eH) (hA.keeps eH) (cn f2 rfl eH))
 intro x _
 dsimp only [id_eq,Zb,Za]
 refine Ja rfl<|Ja rfl<|Jn<|Je ?_
 first | with_reducible apply aN | with_reducible apply aO
 case he=>exact fY rfl rfl rfl
 case hR=>
  intro w' aB
  exact aF x trivial (by exact .cons .here .nil) aB rfl
def Hp (r:Ro) (v:Int) (so:ByteArray):Int:=aV [gC r,EX r v,Qf r so]
def FJ (r:Ro) (v:Int) (so:ByteArray):List ByteArray:=if Hp r v so≠0 then [] else (cy r).filter fun o=>decide (jM r v o=so)
theorem OB {r:Ro} {s d t p:Value} (v:Int) (so:ByteArray) {w:World} (h:RR w r s d t p) (cI:lz r):bh Tryz.prog 24 [RA r s d t p,.int .i64 v,.string so] w [] (fun _:Value=>True) (fun x=>.tuple #[x,.int .i64 (Hp r v so)]) (fun x=>[row 9 1 x (FJ r v so).length (aM (FJ r v so))]):=by
 have h1:=Rd.one h.sr
 have h2:=Rd.one h.de
 have h3:=Rd.one h.ti
 have h4:=Rd.one h.po
 have fK:∀ w',aH [] w w'→aj Tryz.prog 34 [.agg #[.int .i64 r.lv,.int .i64 r.ma,s,d,t,p]] w' (.int .i64 (gC r)):=fun w' hk=>eD (h.keeps hk) cI
 have hle:∀ w',aH [] w w'→aj Tryz.prog 114 [.agg #[.int .i64 r.lv,.int .i64 r.ma,s,d,t,p],.int .i64 v] w' (.int .i64 (EX r v)):=fun w' hk=>kP v (h.keeps hk)
 have zN:∀ w',aH [] w w'→aj Tryz.prog 122 [.agg #[.int .i64 r.lv,.int .i64 r.ma,s,d,t,p],.string so] w' (.int .i64 (Qf r so)):=fun w' hk=>pM so (h.keeps hk)
 unfold RA
 refine aQ Tryz.func24 rfl rfl ?_
 refine Jr<|Jy rfl rfl fun _ _=>Jy rfl rfl fun _ _=>Jy rfl rfl fun _ _=>Ja rfl<|Ja rfl<|Jn<|Jq<|Jq ?_
 rename_i b2 sW b3 vo b4 wb
 with_reducible refine cQ 9 (by kernel_rfl) ?_
 (refine an (cL bT) rfl<|aT bL rfl (fun w' aB=>(fK w' (Mem.keeps aB)))<|an (cL bT) rfl<|an (gT (.there .here)) rfl<|aT bd rfl (fun w' aB=>(hle w' (Mem.keeps aB)))<|an (cL bT) rfl<|an (gT .here) rfl<|aT bd rfl (fun w' aB=>(zN w' (Mem.keeps aB)))<|ek (aD (.cons (.of rfl) (.cons (.of rfl) (.cons (.of rfl) .nil))) rfl rfl rfl rfl) rfl rfl ?_)
 with_reducible refine dp rfl fun bq mN=>?_
 (refine ai bL rfl (fun w' aB=>(dN (Mem.dh aB .here rfl rfl) (bU.cons (bU.cons (bU.cons bU.nil)))))<|Ja rfl<|Ji<|Jv rfl<|JD rfl<|Jn<|fP rfl (fun ar=>?_) fun ar=>?_;refine Jr<|Jv rfl<|Ja rfl<|Ja rfl<|Jn<|Ju ?_;rotate_left;refine Jk<|Jr<|bP rfl rfl ae<|JL rfl c6 rfl<|ab (bA .nil (.cons (.of rfl) (.cons (.of rfl) (.cons (.of rfl) .nil)))) rfl ?_;rotate_right)
 ·have e1:FJ r v so=[]:=if_pos ar
  rw [e1]
  refine aP 9 1 ?_
  first | with_reducible apply aN | with_reducible apply aO
  case he=>exact fY rfl rfl rfl
  case hR=>
   intro w' aB
   exact aF (.slice none 0 0) trivial (by exact .cons .here .nil) aB rfl
 have e1:FJ r v so=(r.de.map De.nm).filter (fun o=>decide (jM r v o=so)):=if_neg ar
 have e0:aV [gC r,EX r v,Qf r so]=0:=Zo.1 ar
 have e2:Hp r v so=0:=e0
 rw [e1,e2]
 with_reducible apply jr
 case hr=>exact eK
 case hd=>rfl
 case ht=>exact bz.nil
 case hc=>
  intro w1 fp aR _ hs1
  obtain rfl:fp=[]:=hs1
  have hA:BR w1 b2 [.int .i64 r.lv,.int .i64 r.ma,s,d,t,p]:=BR.of aR c6
  have f2:w1.cell? ⟨b3,0,none⟩=some (.int .i64 v):=At.lit bT rfl w1 aR
  have f3:w1.cell? ⟨b4,0,none⟩=some (.string so):=At.lit (by exact Take.there .here) rfl w1 aR
  have hR:=h.keeps aR.keeps
  exact D9 (f:=125) (q:=fun o=>decide (jM r v o=so)) (first:=[]) (cap:=[.pointer (some ⟨b2,0,none⟩),.pointer (some ⟨b3,0,none⟩),.pointer (some ⟨b4,0,none⟩)]) hR.de (by have:=cI.2.1;omega)
   (fun o w2 eH=>Hn v o so (hR.keeps eH) (by have:=cI.2.2;omega) (hA.keeps eH) (cn f2 rfl eH) (cn f3 rfl eH))
 intro x _
 dsimp only [id_eq,Zb,Za]
 refine Ja rfl<|Ja rfl<|Jn<|Je ?_
 first | with_reducible apply aN | with_reducible apply aO
 case he=>exact fY rfl rfl rfl
 case hR=>
  intro w' aB
  exact aF x trivial (by exact .cons .here .nil) aB rfl
theorem y6 {vs:List Value}:∀ {cs cur:List Value} {o:Nat},o+vs.length≤cs.length→setCells (cs++cur) o vs=setCells cs o vs++cur:=by
 induction vs with
 | nil=>intro cs cur o _;rfl
 | cons v vs ih =>
  intro cs cur o h
  simp only [ZJ] at h
  rw [setCells,setCells,List.set_append_left _ _ (by omega),ih (by simp;omega)]
theorem wy {cs vs:List Value} (h:vs.length=cs.length):setCells cs 0 vs=vs:=by
 apply Zap
 intro k
 rw [ij _ _ _ _ (by omega)]
 by_cases hk:k<vs.length
 ·rw [if_pos (by omega),Nat.sub_zero]
 ·rw [if_neg (by omega),Zaf (by omega),Zaf (by omega)]
theorem Mo {n sz i:Nat} {f:Nat→List Value} {vs:List Value} (hf:∀ i,i<n→(f i).length=sz) (hi:i<n) (hv:vs.length=sz):setCells (sD n f) (i*sz) vs=sD n (fun k=>if k=i then vs else f k):=by
 have:=Mn (o:=0) hf hi (by omega:0+vs.length≤sz)
 rw [Zaw] at this
 rw [this]
 apply mn
 intro k _
 show (if k=i then _ else _)=(if k=i then _ else _)
 split
 ·exact wy (by rw [hf i hi,hv])
 ·rfl
def swp (B:Nat→ByteArray) (m k:Nat):Nat→ByteArray:=fun x=>if x<k∨m-k≤x then B (m-1-x) else B x
def s1 (B:Nat→ByteArray):Nat→List Value:=fun i=>[.string (B i)]
theorem nV (B:Nat→ByteArray) (m:Nat):∀ i,i<m→(s1 B i).length=1:=fun _ _=>rfl
theorem H0 {B:Nat→ByteArray} {m i:Nat} (cur:List Value) (h:i<m):(sD m (s1 B)++cur)[i*1]? = some (.string (B i)):=by
 have hl:=gX (nV B m)
 rw [ZI (by rw [hl];omega)]
 exact yU (j:=0) (nV B m) h (by omega)
theorem HZ {B C:Nat→ByteArray} {m i:Nat} {v:ByteArray} (cur:List Value) (h:i<m) (hC:∀ k,k<m→C k=if k=i then v else B k):setCells (sD m (s1 B)++cur) (i*1) [.string v]=sD m (s1 C)++cur:=by
 have hl:=gX (nV B m)
 rw [y6 (by rw [hl];simp;omega),Mo (nV B m) h rfl]
 congr 1
 apply mn
 intro k hk
 unfold s1
 rw [hC k hk]
 split <;> rfl
set_option maxHeartbeats 4000000 in
theorem H9 {w:World} {fp:List Nat} {v:Value} {m:Nat} {B:Nat→ByteArray} (hm:0<m) (aeL:m≤1000000) (hn:fp.Nodup) (hs:ch (hp w) [row 9 1 v m (sD m (s1 B))] fp) :
  bh Tryz.prog 117 [v] w fp (fun _:Unit=>True) (fun _=>.tuple #[]) (fun _=>[row 9 1 v m (sD m (s1 fun i=>B (m-1-i)))]):=by
 refine eb Tryz.func117 rfl rfl hn hs ?_
 refine dd (by exact .here) hm ?_
 rintro g cap cur rfl c7 zQ hsz OZ
 have hlen:=gX (nV B m)
 refine Jr<|Jv rfl<|JI rfl<|JS rfl (by omega)<|Ja rfl<|Ja rfl<|Jn<|J0 ?_
 refine aX (fun k:Nat=>2*k≤m) (fun k=>[(2,.int .i64 k),(3,.int .i64 ((m-1-k:Nat):Int)),(0,.slice (some ⟨g,0,none⟩) m cap)]) (fun k=>[bG g (.cells (sD m (s1 (swp B m k))++cur).toArray 9 (0,0))]) (fun k=>m-2*k) ?_ ?_
 ·apply aI 0 (by omega)
  case hs1=>exact .cons rfl (.KV rfl (by congr 1;omega) (.cons rfl .nil))
  case ht=>
   rw [show sD m (s1 (swp B m 0))=sD m (s1 B) from mn fun i hi=>by unfold s1 swp;rw [if_neg (by omega)]]
   exact .cons .here .nil
 intro k hk
 have v8:=gX (nV (swp B m k) m)
 by_cases aK:k<m-1-k
 ·have hj:m-1-k<m:=by omega
  have RD:k<m:=by omega
  have c1:=H0 (B:=swp B m k) cur RD
  have c2:=H0 (B:=swp B m k) cur hj
  have Km:=HZ (C:=fun i=>if i=k then swp B m k (m-1-k) else swp B m k i) cur RD (v:=swp B m k (m-1-k)) (B:=swp B m k) fun i _=>rfl
  have RM:=HZ (C:=swp B m (k+1)) cur hj (v:=swp B m k k) (B:=fun i=>if i=k then swp B m k (m-1-k) else swp B m k i) fun i hi=>by
   symm
   unfold swp
   by_cases e1:i=m-1-k
   ·subst e1
    rw [if_pos rfl,if_neg (by omega),if_pos (by omega)]
    congr 1;omega
   ·rw [if_neg e1]
    by_cases e2:i=k
    ·subst e2
     rw [if_pos rfl,if_neg (by omega),if_pos (by omega)]
    ·rw [if_neg e2]
     by_cases e3:i<k∨m-k≤i
     ·rw [if_pos e3,if_pos (by omega)]
     ·rw [if_neg e3,if_neg (by omega)]
  have sX:k*1+1≤(sD m (s1 (swp B m k))++cur).length:=by rw [Zg,v8];omega
  have sW:(m-1-k)*1+1≤(sD m (s1 (fun i=>if i=k then swp B m k (m-1-k) else swp B m k i))++cur).length:=by rw [Zg,gX (nV _ m)];omega
  refine Jq<|Jr<|Jv rfl<|Jv rfl<|JA rfl<|Jn<|Jd rfl fun ar=>Jk<|Jq<|J0 ?_
  with_reducible refine Mh 16 rfl ?_
  (refine eO 0 rfl mf mf mf (fun w ρ=>rfl) (fun w=>(a7 (.of rfl))) rfl<|eO 1 rfl mf mf mf (fun w ρ=>rfl) (fun w=>(a7 (.of rfl))) rfl<|eO 2 rfl mf mf mf (fun w ρ=>rfl) (fun w=>(a7 (.of rfl))) rfl<|eO 3 rfl mf mf mf (fun w ρ=>rfl) (fun w=>(a7 (.of rfl))) rfl<|eO 4 rfl mf mf mf (fun w ρ=>rfl) (fun w=>(a7 (.of rfl))) rfl<|eO 5 rfl mf mf mf (fun w ρ=>rfl) (fun w=>(a7 (.of rfl))) rfl<|eO 6 rfl mf mf mf (fun w ρ=>rfl) (fun w=>(az (.of rfl) (.of rfl) rfl (by omega) (by omega) bj)) rfl<|eO 8 rfl mf mf mf (fun w ρ=>rfl) (fun w=>(a7 (.of rfl))) rfl<|eO 9 rfl mf mf mf (fun w ρ=>rfl) (fun w=>(a7 (.of rfl))) rfl<|eO 10 rfl mf mf mf (fun w ρ=>rfl) (fun w=>(az (.of rfl) (.of rfl) rfl (by omega) (by omega) bj)) rfl ?_)
  refine cu (rs:=[7,11]) (by kernel_rfl) (by simp) (ZA.2 ⟨?_,ZA.2 ⟨?_,fun _ h=>absurd h Zq⟩⟩)
  ·refine cG rfl ?_
   (refine ab (ag (.of rfl) (At.mF .here c2)) rfl<|Jn ?_)
   ·refine cu (rs:=[11]) (by kernel_rfl) (by simp) (ZA.2 ⟨?_,fun _ h=>absurd h Zq⟩)
    refine cG rfl ?_
    (refine ab (ag (.of rfl) (At.mF .here c1)) rfl<|Jn ?_)
    refine eO 12 rfl mf mf mf (fun w ρ=>rfl) (fun w=>(az (.of rfl) (.of rfl) rfl (by omega) (by omega) bj)) rfl ?_
    refine cu (rs:=[13]) (by kernel_rfl) (by simp) (ZA.2 ⟨?_,fun _ h=>absurd h Zq⟩)
    refine cG rfl ?_
    with_reducible apply aq
    case hx=>exact Is.of rfl
    case hy=>exact Is.of rfl
    case ht=>exact .here
    case hv=>exact rfl
    case hl=>rfl
    case h1=>exact bJ rfl gm
    case h2=>exact sX
    case he=>exact Km
    refine Jn ?_
    refine eO 14 rfl mf mf mf (fun w ρ=>rfl) (fun w=>(az (.of rfl) (.of rfl) rfl (by omega) (by omega) bj)) rfl ?_
    refine cu (rs:=[15]) (by kernel_rfl) (by simp) (ZA.2 ⟨?_,fun _ h=>absurd h Zq⟩)
    refine cG rfl ?_
    with_reducible apply aq
    case hx=>exact Is.of rfl
    case hy=>exact Is.of rfl
    case ht=>exact .here
    case hv=>exact rfl
    case hl=>rfl
    case h1=>exact bJ rfl gm
    case h2=>exact sW
    case he=>exact RM
    refine Jn ?_
    with_reducible refine cH (by kernel_rfl) ?_
    refine Jj<|Jt<|Jg<|Jv rfl<|JB rfl (by omega)<|Jv rfl<|JS rfl (by omega)<|Ja rfl<|Ja rfl<|Jn ?_
    apply aJ (k+1) (by omega) (by omega)
    case hs1=>exact .cons rfl (.KV rfl (by congr 1;omega) (.cons rfl .nil))
    case ht=>exact lU
  ·refine cG rfl ?_
   (refine ab (ag (.of rfl) (At.mF .here c1)) rfl<|Jn ?_)
   ·refine cu (rs:=[7]) (by kernel_rfl) (by simp) (ZA.2 ⟨?_,fun _ h=>absurd h Zq⟩)
    refine cG rfl ?_
    (refine ab (ag (.of rfl) (At.mF .here c2)) rfl<|Jn ?_)
    refine eO 12 rfl mf mf mf (fun w ρ=>rfl) (fun w=>(az (.of rfl) (.of rfl) rfl (by omega) (by omega) bj)) rfl ?_
    refine cu (rs:=[13]) (by kernel_rfl) (by simp) (ZA.2 ⟨?_,fun _ h=>absurd h Zq⟩)
    refine cG rfl ?_
    with_reducible apply aq
    case hx=>exact Is.of rfl
    case hy=>exact Is.of rfl
    case ht=>exact .here
    case hv=>exact rfl
    case hl=>rfl
    case h1=>exact bJ rfl gm
    case h2=>exact sX
    case he=>exact Km
    refine Jn ?_
    refine eO 14 rfl mf mf mf (fun w ρ=>rfl) (fun w=>(az (.of rfl) (.of rfl) rfl (by omega) (by omega) bj)) rfl ?_
    refine cu (rs:=[15]) (by kernel_rfl) (by simp) (ZA.2 ⟨?_,fun _ h=>absurd h Zq⟩)
    refine cG rfl ?_
    with_reducible apply aq
    case hx=>exact Is.of rfl
    case hy=>exact Is.of rfl
    case ht=>exact .here
    case hv=>exact rfl
    case hl=>rfl
    case h1=>exact bJ rfl gm
    case h2=>exact sW
    case he=>exact RM
    refine Jn ?_
    with_reducible refine cH (by kernel_rfl) ?_
    refine Jj<|Jt<|Jg<|Jv rfl<|JB rfl (by omega)<|Jv rfl<|JS rfl (by omega)<|Ja rfl<|Ja rfl<|Jn ?_
    apply aJ (k+1) (by omega) (by omega)
    case hs1=>exact .cons rfl (.KV rfl (by congr 1;omega) (.cons rfl .nil))
    case ht=>exact lU
 ·have XC:sD m (s1 (swp B m k))=sD m (s1 fun i=>B (m-1-i)):=mn fun i hi=>by
   unfold s1 swp
   by_cases e:i<k∨m-k≤i
   ·rw [if_pos e]
   ·rw [if_neg e];show [Value.string (B i)]=[Value.string (B (m-1-i))];rw [show m-1-i=i by omega]
  rw [XC]
  have E8:=gX (nV (fun i=>B (m-1-i)) m)
  refine cN (n:=m) (cap:=cap) (sz:=1) (show Take _ (bG g (.cells ((sD m (s1 fun i=>B (m-1-i)))++cur).toArray 9 (0,0))) _ by exact .here) c7 zQ (by rw [Zg,E8];rw [Zg,OZ] at hsz;omega) E8 ?_
  refine Jq<|Jr<|Jv rfl<|Jv rfl<|JA rfl<|Jn<|Jc rfl fun ar=>Jp<|Jl<|Jo ?_
  first | with_reducible apply aN | with_reducible apply aO
  case he=>exact pL rfl
  case hR=>
   intro w' aB
   exact aF () trivial (by exact .cons .here .nil) aB rfl
theorem EC (l:List ByteArray):aM l=sD l.length (s1 fun i=>l.getD i ⟨#[]⟩):=by
 rw [C6]
 apply Zap
 intro k
 have h1:((List.range l.length).map (s1 fun i=>l.getD i ⟨#[]⟩)).flatten=(List.range l.length).map fun i=>Value.string (l.getD i ⟨#[]⟩):=by
  have:=lk ((List.range l.length).map fun i=>Value.string (l.getD i ⟨#[]⟩))
  rw [ZaF] at this
  exact this
 rw [h1]
 unfold aM
 by_cases h:k<l.length
 ·simp [h,Zk]
 ·simp [h]
theorem Mq (l:List ByteArray):aM l.reverse=sD l.length (s1 fun i=>l.getD (l.length-1-i) ⟨#[]⟩):=by
 rw [EC,List.length_reverse]
 apply mn
 intro i hi
 show [Value.string (l.reverse.getD i ⟨#[]⟩)]=[Value.string (l.getD (l.length-1-i) ⟨#[]⟩)]
 rw [Zk,Zk,List.getElem?_reverse hi]
theorem Dn {w:World} {fp:List Nat} {v:Value} {l:List ByteArray} {n:Nat} (hl:n=l.length) (hm:n≤1000000) (hn:fp.Nodup) (hs:ch (hp w) [row 9 1 v n (aM l)] fp) :
  bh Tryz.prog 117 [v] w fp (fun _:Unit=>True) (fun _=>.tuple #[]) (fun _=>[row 9 1 v n (aM l.reverse)]):=by
 subst hl
 by_cases h0:0<l.length
 ·rw [EC] at hs
  rw [Mq]
  exact H9 h0 hm hn hs
 ·obtain rfl:l=[]:=Z2 (by omega)
  show bh Tryz.prog 117 [v] w fp (fun _:Unit=>True) (fun _=>.tuple #[]) (fun _=>[row 9 1 v 0 []])
  replace hs:ch (hp w) [row 9 1 v 0 []] fp:=hs
  refine eb Tryz.func117 rfl rfl hn hs ?_
  refine aW (E:=9) (sz:=1) (by exact .here) fun a cp e=>?_
  subst e
  refine Jr<|Jv rfl<|JI rfl<|JS rfl (by omega)<|Ja rfl<|Ja rfl<|Jn<|J0 ?_
  refine aX (fun _:Nat=>True) (fun k=>[(2,.int .i64 0),(3,.int .i64 (-1)),(0,.slice a 0 cp)]) (fun k=>[row 9 1 (.slice a 0 cp) 0 []]) (fun k=>k) ?_ ?_
  ·apply aI 0 trivial
   case hs1=>exact cd
   case ht=>exact lU
  intro k _
  refine Jq<|Jr<|Jv rfl<|Jv rfl<|JA rfl<|Jn<|Jc rfl fun ar=>Jp<|Jl<|Jo ?_
  first | with_reducible apply aN | with_reducible apply aO
  case he=>exact pL rfl
  case hR=>
   intro w' aB
   exact aF () trivial (by exact .cons .here .nil) aB rfl
theorem Lh {r:Ro} {s d t p:Value} (v:Int) (o:ByteArray) {y:Nat×Nat×Nat} {w:World} {fp:List Nat} (kU:fp.Nodup) (hs:ch (hp w) [bG y.1 (.cells #[.string o] 9 (0,0)),JP y.2.1 r s d t p,bG y.2.2 (.cells #[.int .i64 v] 3 (0,0))] fp)
  (h:RR w r s d t p) (hO:RO fp r s d t p) (cI:r.ti.length≤1000000) :
  bh Tryz.prog 221 [.slice none 0 0,.func (.func 222) #[] #[.pointer (some ⟨y.1,0,none⟩),.pointer (some ⟨y.2.1,0,none⟩),.pointer (some ⟨y.2.2,0,none⟩)]] w fp (fun _:Value=>True) id (fun v1=>[row 9 1 v1 (eW r.po v (r.ti.length+1) o).length (aM (eW r.po v (r.ti.length+1) o))]):=by
 have hlen:=jU r.po v (r.ti.length+1) o
 refine eb Tryz.func221 rfl rfl kU hs ?_
 refine Jr<|Jy rfl rfl fun _ _=>Ja rfl<|Jn<|Jq<|Jr<|Jv rfl<|Jn<|J0 ?_
 rename_i b2 sW
 refine aP 9 1 ?_
 refine jh (ps:=[7]) (f:=222) (first:=[]) (cap:=[.pointer (some ⟨y.1,0,none⟩),.pointer (some ⟨y.2.1,0,none⟩),.pointer (some ⟨y.2.2,0,none⟩)]) (ι:=Nat×Value) (κ:=Empty) (rst:=[]) ?hg
  [bG y.1 (.cells #[.string o] 9 (0,0)),JP y.2.1 r s d t p,bG y.2.2 (.cells #[.int .i64 v] 3 (0,0))] (wC r.po v (r.ti.length+1) o) ?hit
  (fun k x=>x.1=k∧k≤(eW r.po v (r.ti.length+1) o).length)
  (fun x=>[bG b2 (.cells #[x.2] 32 (0,0)),row 9 1 x.2 x.1 (aM ((eW r.po v (r.ti.length+1) o).take x.1))])
  (fun _=>False) (fun _=>[]) (fun _=>.ret) (0,.slice none 0 0) ⟨rfl,Zi _⟩ ?ht ?hlen ?hps ?round ?kn ?kj
 case hg=>exact Is.of rfl
 case hit=>intro w' aB;exact Dx v o h hO cI
 case ht=>
  exact .cons (.there .here) (.cons .here (.cons .here (.cons .here (.cons .here .nil))))
 case hlen=>intro vs oB;obtain ⟨x,_,rfl⟩:=Zu.1 oB;rfl
 case hps=>intro t ht;simp only [ZR,Zq,or_false] at ht;subst ht;exact Zav rfl
 case kj=>intro y;cases y
 case kn=>
  rintro ⟨n,v1⟩ D ⟨hq,_⟩
  dsimp only [Zb,Za] at hq ⊢
  rw [q6] at hq
  subst hq
  rw [ZL]
  refine Jj<|Jt<|Jr<|JL rfl .here rfl<|Ja rfl<|Jn<|Je ?_
  refine aW (E:=9) (sz:=1) (by exact Take.there .here) fun va vc e=>?_
  subst e
  skip
  first | with_reducible apply aN | with_reducible apply aO
  case he=>exact dD rfl rfl
  case hR=>
   intro w' aB
   exact aF (.slice va (eW r.po v (r.ti.length+1) o).length vc) trivial (by exact .cons (.there .here) .nil) aB rfl
 case round=>
  rintro l2 rc W Vs k ⟨n,v1⟩ vs hsz hk ⟨hq,NH⟩ hB hF
  dsimp only at hq
  subst hq
  obtain ⟨a,hit,rfl,B0⟩:=Dw hk
  obtain ⟨aK,Kj⟩:=Zl.1 B0
  have htk:aM ((eW r.po v (r.ti.length+1) o).take (n+1))=aM ((eW r.po v (r.ti.length+1) o).take n)++[.string a]:=by rw [Zn aK,Kj,eX];rfl
  have v8:(aM ((eW r.po v (r.ti.length+1) o).take n)).length=n*1:=by rw [df,ZaI (by omega),Zar]
  dsimp only [List.zip_cons_cons,List.zip_nil_right,l5,Zb,Za]
  refine Jg<|Ja rfl<|Jn ?_
  with_reducible apply mm
  case ht=>exact .here
  refine aW (E:=9) (sz:=1) bT fun v1 v2 e=>?_
  subst e
  refine J0<|Jg<|JL rfl (.there .here) rfl<|Jv rfl<|bo (aD (.cons (.of rfl) .nil) rfl rfl rfl rfl) rfl fun _ _=>?_
  refine bH (.of rfl) (.of rfl) c6 .here ak (by rfl) (eE rfl) (by rfl) (by rfl) (by rfl) eN (by rfl) ?_
  intro v'
  refine aW (by exact .here) fun a' gQ e=>?_
  subst e
  (refine aq (.of rfl) (.of rfl) c6 rfl rfl (eE rfl) (bF rfl) ak<|Jx<|Jj ?_)
  apply lJ (n+1,.slice a' (n+1) gQ)
  case ht=>exact c6
  case hx=>exact ⟨rfl,aK⟩
  case h2=>
   show bz _ [bG b2 (.cells #[.slice a' (n+1) gQ] 32 (0,0)),row 9 1 (.slice a' (n+1) gQ) (n+1) (aM ((eW r.po v (r.ti.length+1) o).take (n+1)))] _
   rw [htk]
   exact .cons .here (.cons .here .nil)
theorem KW {r:Ro} {s d t p:Value} (v:Int) (o:ByteArray) {y:Nat×Nat×Nat} {w:World} {fp:List Nat} (kU:fp.Nodup) (hs:ch (hp w) [bG y.1 (.cells #[.string o] 9 (0,0)),JP y.2.1 r s d t p,bG y.2.2 (.cells #[.int .i64 v] 3 (0,0))] fp)
  (h:RR w r s d t p) (hO:RO fp r s d t p) (cI:r.ti.length≤1000000) :
  bh Tryz.prog 115 [.func (.func 222) #[] #[.pointer (some ⟨y.1,0,none⟩),.pointer (some ⟨y.2.1,0,none⟩),.pointer (some ⟨y.2.2,0,none⟩)]] w fp (fun _:Value=>True) id (fun v1=>[row 9 1 v1 (eW r.po v (r.ti.length+1) o).length (aM (eW r.po v (r.ti.length+1) o))]):=by
 refine eb Tryz.func115 rfl rfl kU hs ?_
 refine Jr<|Ja rfl<|Ji<|Jv rfl ?_
 with_reducible apply fS (As:=[bG y.1 (.cells #[.string o] 9 (0,0)),JP y.2.1 r s d t p,bG y.2.2 (.cells #[.int .i64 v] 3 (0,0))])
 case hr=>exact bd
 case hd=>rfl
 case ht=>exact lU
 case hc=>
  intro w1 AO aR vh hs1 CK _
  exact Lh v o vh hs1 (h.jw hO aR.keeps) (h.out hO CK) cI
 intro v1 _
 dsimp only [id_eq,Zb,Za]
 refine Ja rfl<|Jn<|Je ?_
 first | with_reducible apply aN | with_reducible apply aO
 case he=>exact dD rfl rfl
 case hR=>
  intro w' aB
  exact aF v1 trivial (by exact .cons .here .nil) aB rfl
def Hv (r:Ro) (v:Int) (o:ByteArray):Int:=aV [gC r,EX r v,pb r o]
def P4 (r:Ro) (v:Int) (o:ByteArray):List ByteArray:=if eW r.po v (r.ti.length+1) o=[] then [] else (eW r.po v (r.ti.length+1) o).reverse++[o]
def FN (r:Ro) (v:Int) (o:ByteArray):List ByteArray:=if Hv r v o≠0 then [] else P4 r v o
theorem OC {r:Ro} {s d t p:Value} (v:Int) (o:ByteArray) {w:World} (h:RR w r s d t p) (cI:lz r):bh Tryz.prog 22 [RA r s d t p,.int .i64 v,.string o] w [] (fun _:Value=>True) (fun x=>.tuple #[x,.int .i64 (Hv r v o)]) (fun x=>[row 9 1 x (FN r v o).length (aM (FN r v o))]):=by
 have h1:=Rd.one h.sr
 have h2:=Rd.one h.de
 have h3:=Rd.one h.ti
 have h4:=Rd.one h.po
 have afM:=cI.2.2
 have fK:∀ w',aH [] w w'→aj Tryz.prog 34 [.agg #[.int .i64 r.lv,.int .i64 r.ma,s,d,t,p]] w' (.int .i64 (gC r)):=fun w' hk=>eD (h.keeps hk) cI
 have hle:∀ w',aH [] w w'→aj Tryz.prog 114 [.agg #[.int .i64 r.lv,.int .i64 r.ma,s,d,t,p],.int .i64 v] w' (.int .i64 (EX r v)):=fun w' hk=>kP v (h.keeps hk)
 have mh:∀ w',aH [] w w'→aj Tryz.prog 112 [.agg #[.int .i64 r.lv,.int .i64 r.ma,s,d,t,p],.string o] w' (.int .i64 (pb r o)):=fun w' hk=>ew o (h.keeps hk)
 unfold RA
 refine aQ Tryz.func22 rfl rfl ?_
 refine Jr<|Jy rfl rfl fun _ _=>Ja rfl<|Ja rfl<|Jn<|Jq<|Jq ?_
 rename_i b3 vo
 with_reducible refine cQ 9 (by kernel_rfl) ?_
 (refine an (cL .here) rfl<|aT bL rfl (fun w' aB=>(fK w' (Mem.keeps aB)))<|an (cL .here) rfl<|an kA rfl<|aT bd rfl (fun w' aB=>(hle w' (Mem.keeps aB)))<|an (cL .here) rfl<|an kA rfl<|aT bd rfl (fun w' aB=>(mh w' (Mem.keeps aB)))<|ek (aD (.cons (.of rfl) (.cons (.of rfl) (.cons (.of rfl) .nil))) rfl rfl rfl rfl) rfl rfl ?_)
 with_reducible refine dp rfl fun bq mN=>?_
 (refine ai bL rfl (fun w' aB=>(dN (Mem.dh aB .here rfl rfl) (bU.cons (bU.cons (bU.cons bU.nil)))))<|Ja rfl<|Ji<|Jv rfl<|JD rfl<|Jn<|fP rfl (fun ar=>?_) fun ar=>?_;refine Jr<|Jv rfl<|Ja rfl<|Ja rfl<|Jn<|Ju ?_;rotate_left;refine Jk<|Jr<|ab (cL (.there .here)) rfl<|Jv rfl<|Jv rfl ?_;rotate_right)
 ·have e1:FN r v o=[]:=if_pos ar
  rw [e1]
  refine aP 9 1 ?_
  first | with_reducible apply aN | with_reducible apply aO
  case he=>exact fY rfl rfl rfl
  case hR=>
   intro w' aB
   exact aF (.slice none 0 0) trivial (by exact .cons .here .nil) aB rfl
 have e1:FN r v o=P4 r v o:=if_neg ar
 have e0:aV [gC r,EX r v,pb r o]=0:=Zo.1 ar
 have e2:Hv r v o=0:=e0
 clear ar
 rw [e1,e2]
 refine JN eK rfl (fun w1 aR=>uP v o (h.keeps aR.keeps)) ?_
 intro y _
 dsimp only [id_eq,Zb,Za]
 skip
 with_reducible apply fS (As:=[bG y.1 (.cells #[.string o] 9 (0,0)),JP y.2.1 r s d t p,bG y.2.2 (.cells #[.int .i64 v] 3 (0,0))])
 case hr=>exact bL
 case hd=>rfl
 case ht=>exact lU
 case hc=>
  intro w1 AO aR vh hs1 CK _
  exact KW v o vh hs1 (h.keeps aR.keeps) (h.out (md:=[]) RO.nil (fun b hb=>CK b hb)) (by omega)
 intro v1 _
 have hlen:=jU r.po v (r.ti.length+1) o
 dsimp only [id_eq,Zb,Za]
 refine aW (E:=9) (sz:=1) (by exact .here) fun va vc e=>?_
 subst e
 unfold P4
 generalize hL:eW r.po v (r.ti.length+1) o=L at hlen ⊢
 (refine Ja rfl<|Jn<|Jq<|Jr<|Jv rfl<|JI rfl<|JC rfl<|Jn<|fP rfl (fun ar=>?_) fun ar=>?_;refine Jr<|Ja rfl<|Ja rfl<|Jn<|Ju ?_;rotate_left;refine Jk<|Jr<|Jv rfl ?_;rotate_right)
 ·have Kb:L=[]:=Z2 (by omega)
  rw [if_pos Kb]
  refine aP 9 1 ?_
  first | with_reducible apply aN | with_reducible apply aO
  case he=>exact fY rfl rfl rfl
  case hR=>
   intro w' aB
   exact aF (.slice none 0 0) trivial (by exact .cons .here .nil) aB rfl
 have hnn:¬ L=[]:=fun e=>by rw [e] at ar;exact ar rfl
 rw [if_neg hnn]
 with_reducible apply fS (As:=[row 9 1 (.slice va L.length vc) L.length (aM L)])
 case hr=>exact bL
 case hd=>rfl
 case ht=>exact lU
 case hc=>
  intro w1 AO aR vh hs1 CK _
  exact Dn rfl (by omega) vh hs1
 intro _ _
 have bb:aM (L.reverse++[o])=aM L.reverse++[.string o]:=by rw [eX];rfl
 have hlr:(aM L.reverse).length=L.length*1:=by rw [df,List.length_reverse,Zar]
 have E8:(L.reverse++[o]).length=L.length+1:=by simp
 rw [E8,bb]
 dsimp only [id_eq,Zb,Za]
 refine Ji<|Jv rfl<|Jv rfl<|bo (aD (.cons (.of rfl) .nil) rfl rfl rfl rfl) rfl fun _ _=>?_
 refine bH (.of rfl) (.of rfl) (.there .here) .here ak (by rfl) (eE rfl) (by rfl) (by rfl) (by rfl) eN (by rfl) ?_
 intro v'
 refine Ja rfl<|Ja rfl<|Jn<|Je ?_
 first | with_reducible apply aN | with_reducible apply aO
 case he=>exact fY rfl rfl rfl
 case hR=>
  intro w' aB
  exact aF v' trivial (by exact .cons .here .nil) aB rfl
theorem Gc {α:Type} {R:α→α→Prop} (ht:∀ a b c,R a b→R b c→R a c):∀ {l:List α},(∀ k (h:k+1<l.length),R l[k] l[k+1])→l.Pairwise R:=by
 intro l h
 rw [Z5]
 intro i j hi hj wF
 obtain ⟨d,rfl⟩:∃ d,j=i+1+d:=⟨j-(i+1),by omega⟩
 clear wF
 induction d with
 | zero=>exact h i hj
 | succ d ih=>exact ht _ _ _ (ih (by omega)) (h (i+1+d) hj)
theorem oK {a b c d:Int}:¬ lE [a,b] [c,d]≤0↔c<a∨c=a∧d<b:=by
 unfold lE
 by_cases h1:km a c=0
 ·rw [if_neg (not_not_intro h1)]
  have:=iA.1 h1
  unfold lE
  by_cases h2:km b d=0
  ·rw [if_neg (not_not_intro h2)]
   have:=iA.1 h2
   unfold lE
   omega
  ·rw [if_pos h2]
   unfold km at h2 ⊢
   split at h2 <;> split <;> first | omega | (split <;> omega)
 ·rw [if_pos h1]
  have CL:a≠c:=fun e=>h1 (iA.2 e)
  unfold km
  split
  ·omega
  ·split <;> omega
theorem IS {r:Ro} (hd:CN r) (h6:r.ti.length≤6):pP r:=by
 obtain ⟨_,_,_,d1,d2,d3⟩:=hd.parts
 exact ⟨d1,d2,d3,by unfold cU;rw [Zd];exact h6⟩
structure tq (r:Ro):Prop where
 lim:1≤r.lv∧r.lv≤3∧1≤r.ma∧r.ma≤4
 PD:CN r
 len:r.sr.length≤8∧r.de.length≤8∧r.ti.length≤6
 sm:∀ x∈r.sr,0≤x.mx∧x.mx<r.ma
 dm:∀ x∈r.de,0≤x.mx∧x.mx<r.ma
 tm:∀ x∈r.ti,(0≤x.fr∧x.fr<r.ma)∧(0≤x.to∧x.to<r.ma)∧x.fr≠x.to
 val:iZ r r.po
theorem tq.CH {r:Ro} (h:tq r):pP r:=IS h.PD h.len.2.2
theorem jj {r:Ro} {m:Int}:eV r m=0↔0≤m∧m<r.ma:=by
 unfold eV
 rw [bK (by decide)]
 simp
theorem IF {r:Ro} (hd:∀ x∈r.de,0≤x.mx) (ht:∀ x∈r.ti,0≤x.fr) {s:ByteArray} (h:0≤kq r s):s∈cy r∨s∈cU r:=by
 by_cases h1:s∈cy r
 ·exact .inl h1
 ·by_cases h2:s∈cU r
  ·exact .inr h2
  ·unfold kq at h
   have f1:=cm.2 h1
   have f2:=cm.2 h2
   rw [if_neg (by omega),if_neg (by omega)] at h
   omega
theorem JM {r:Ro} {s:ByteArray} (h:0≤jZ r s):s∈cC r∨s∈cU r:=by
 by_cases h1:s∈cC r
 ·exact .inl h1
 ·by_cases h2:s∈cU r
  ·exact .inr h2
  ·unfold jZ at h
   have f1:=cm.2 h1
   have f2:=cm.2 h2
   rw [if_neg (by omega),if_neg (by omega)] at h
   omega
theorem mS {r:Ro} {x:Po} (h:l6 r x=0):(0≤x.lv∧x.lv<r.lv)∧0≤kq r x.ou∧0≤jZ r x.ip∧kq r x.ou=jZ r x.ip:=by
 unfold l6 at h
 rw [cq] at h
 have h1:=fx.1 (h _ Zt)
 have h2:=(bK (by decide)).1 (h (bW (decide (kq r x.ou<0)) 10) (by simp))
 have h3:=(bK (by decide)).1 (h (bW (decide (jZ r x.ip<0)) 10) (by simp))
 have h4:=(bK (by decide)).1 (h (bW (decide (kq r x.ou≠jZ r x.ip)) 24) (by simp))
 simp only [decide_eq_false_iff_not,ne_eq,Zo] at h2 h3 h4
 exact ⟨by omega,by omega,by omega,h4⟩
theorem lr {r:Ro} {q:Int→Bool}:jN r q=false↔∀ v:Int,0≤v→v<r.lv→q v=false:=by
 unfold jN
 rw [Zal]
 constructor
 ·intro h v h0 h1
  have:=h v.toNat (ZT.2 (by omega))
  rw [show ((v.toNat:Nat):Int)=v by omega] at this
  simpa using this
 ·intro h i hi
  have:=ZT.1 hi
  rw [h i (by omega) (by omega)];decide
theorem G9 {r:Ro} (h:gC r=0):tq r:=by
 obtain ⟨h1,h2,h3,h4⟩:=ss h
 obtain ⟨kM,hlen,hs,hd,ht⟩:=zo h2
 have hdm:∀ x∈r.de,0≤x.mx∧x.mx<r.ma:=fun x hx=>jj.1 (hd x hx)
 have Wg:∀ x∈r.ti,(0≤x.fr∧x.fr<r.ma)∧(0≤x.to∧x.to<r.ma)∧x.fr≠x.to:=fun x hx=>by
  have:=ht x hx
  unfold nA at this
  rw [cq] at this
  have g3:=(bK (by decide)).1 (this (bW (decide (x.fr=x.to)) 24) (by simp))
  exact ⟨jj.1 (this _ (by simp)),jj.1 (this _ (by simp)),by simpa using g3⟩
 have hp:∀ k (hk:k<r.po.length),l6 r r.po[k]=0∧¬ lE [(r.po[k]).lv,dW r (r.po[k]).ou] (Ec r (if k=0 then none else r.po[k-1]?))≤0:=fun k hk=>by
  have:=dj.1 h3 k hk
  rw [q5 hk] at this
  by_cases e:l6 r r.po[k]=0
  ·rw [if_neg (not_not_intro e)] at this
   by_cases e2:lE [(r.po[k]).lv,dW r (r.po[k]).ou] (Ec r (if k=0 then none else r.po[k-1]?))≤0
   ·rw [if_pos e2] at this;exact absurd this (by decide)
   ·exact ⟨e,e2⟩
  ·rw [if_pos e] at this;exact absurd this e
 have J6:∀ p∈r.po,l6 r p=0:=fun p np=>by
  obtain ⟨k,hk,rfl⟩:=Zs np
  exact (hp k hk).1
 have Ry:∀ p∈r.po,0≤p.lv∧p.lv<r.lv:=fun p np=>(mS (J6 p np)).1
 have hti:(cU r).length=r.ti.length:=by unfold cU;rw [Zd]
 unfold zC at h4
 rw [cq] at h4
 have U1:=lr.1 ((bK (by decide)).1 (h4 (bW (jN r fun v=>r.ti.any (LP r v)) 33) (by simp)))
 have XO:=lr.1 ((bK (by decide)).1 (h4 (bW (jN r fun v=>r.ti.any (IE r v)) 32) (by simp)))
 have Gx:∀ v:Int,¬ (0≤v∧v<r.lv)→∀ o,ez r.po v o=none:=fun v hv o=>ib.2 fun p np e=>hv (e.1 ▸ Ry p np)
 refine ⟨uZ h1,kM,hlen,fun x hx=>jj.1 (hs x hx),hdm,Wg,?_,Ry,?_,?_,?_,?_,?_⟩
 ·refine Gc (R:=fun a b=>pG r a b=true) (fun a b c h h'=>xU h h') fun k hk=>?_
  have:=(hp (k+1) hk).2
  rw [if_neg (by omega),ZaG,Zc (by omega)] at this
  have:=oK.1 this
  unfold pG
  simp only [ZP,Zm,decide_eq_true_eq]
  exact this
 ·exact fun p np=>IF (fun x hx=>(hdm x hx).1) (fun x hx=>(Wg x hx).1.1) (mS (J6 p np)).2.1
 ·exact fun p np=>JM (mS (J6 p np)).2.2.1
 ·exact fun p np=>(mS (J6 p np)).2.2.2
 ·rintro v ⟨t,Gs,hc⟩
  rw [hti] at hc
  by_cases hv:0≤v∧v<r.lv
  ·obtain ⟨x,hx,rfl⟩:=Zu.1 Gs
   have:=Zal.1 (U1 v hv.1 hv.2) x hx
   exact this (fc.2 hc)
  ·rw [vH (Gx v hv t)] at hc
   cases hc
 ·intro v t Gs
  by_cases hv:0≤v∧v<r.lv
  ·obtain ⟨x,hx,rfl⟩:=Zu.1 Gs
   have:=Zal.1 (XO v hv.1 hv.2) x hx
   unfold IE at this
   cases h1:jq r.po v x.nm <;> cases h2:ny r.po v x.nm <;> rw [h1,h2] at this <;> simp at this <;> simp
  ·have e1:jq r.po v t=false:=by unfold jq;rw [Gx v hv t];rfl
   have e2:ny r.po v t=false:=by
    unfold ny
    rw [Zal]
    intro p np e
    unfold zK at e
    simp only [Zm,decide_eq_true_eq] at e
    exact hv (e.1 ▸ Ry p np)
   rw [e1,e2]
theorem Am {r:Ro} (hn:pP r) (h:iZ r r.po) (v:Int) (o:ByteArray):jM r v o=rB r.po v (cC r) o:=by
 have hti:(cU r).length=r.ti.length:=by unfold cU;rw [Zd]
 have:=GQ hn h v o
 rw [hti] at this
 unfold jM rB
 rw [this]
 by_cases hm:iz r.po v 7 o∈cC r
 ·have h0:=eC hm
  obtain ⟨x,hx,e⟩:=Zu.1 hm
  rw [if_pos (ZM.2 ⟨x,hx,by simpa using e⟩),if_neg (by omega)]
 ·have h0:=cm.2 hm
  rw [if_neg (fun e=>by
   obtain ⟨x,hx,e⟩:=ZM.1 e
   exact hm (Zu.2 ⟨x,hx,by simpa using e⟩)),if_pos h0]
end Go.Proofs.A1
namespace Go.SL
open Go
def kD (E:TypeId) (sz:Nat) (v:Value) (n:Nat) (xs:List Value):a8 where
 sat h fp:=xs.length=n*sz∧((fp=[]∧v=.slice none 0 0∧n=0) ∨
  ∃ g off cap cur,fp=[g]∧v=.slice (some ⟨g,off,none⟩) n cap∧h g=some (.cells cur E (0,0))∧n≤cap∧cap≤maxLen∧off+cap*sz≤cur.size∧(cur.toList.drop off).take (n*sz)=xs)
 loc:=by
  rintro h h' fp ⟨hl,h1⟩ hb
  refine ⟨hl,h1.imp id ?_⟩
  rintro ⟨g,off,cap,cur,rfl,rfl,hg,r⟩
  exact ⟨g,off,cap,cur,rfl,rfl,by rw [hb g (by simp)];exact hg,r⟩
 own:=by
  rintro h fp ⟨hl,h1⟩ b hb
  rcases h1 with ⟨rfl,_⟩ | ⟨g,off,cap,cur,rfl,rfl,hg,_⟩
  ·cases hb
  ·rw [ZK] at hb;subst hb;exact ⟨_,hg⟩
theorem nW {h:Nat→Option Obj} {E:TypeId} {sz:Nat} {v:Value} {n:Nat} {xs:List Value} {fp:List Nat} (hr:(row E sz v n xs).sat h fp):(kD E sz v n xs).sat h fp:=by
 obtain ⟨e,hl,h1⟩:=hr
 rcases h1 with ⟨rfl,h0⟩ | ⟨g,cap,cur,rfl,hg,h2,h3,h4,h5⟩
 ·exact ⟨hl,.inl ⟨by simpa [Value.ownBlock] using e,rfl,h0⟩⟩
 ·exact ⟨hl,.inr ⟨g,0,cap,cur,by simpa [Value.ownBlock] using e,rfl,hg,h2,h3,by omega,by simpa using h5⟩⟩
section
variable {c:Cx} {D:List Nat} {sl:aG} {hs hs':List a8} {X:Act→World→Prop} {E:TypeId} {sz:Nat} {v:Value} {n:Nat} {xs:List Value}
theorem tH {A B:a8} (ht:Take hs A hs') (hc:∀ h fp,A.sat h fp→B.sat h fp) (k:Tr c D sl (B::hs') X):Tr c D sl hs X:=fun a w bb=>
 k a w (bb.heap (by
  obtain ⟨kk,fp,kU,⟨f1,f2,rfl,h1,h2⟩,hb⟩:=bb.mem.take (ht.append _)
  exact ⟨kk,f1++f2,kU,⟨f1,f2,rfl,hc _ _ h1,h2⟩,hb⟩))
theorem FO (ht:Take hs (row E sz v n xs) hs') (k:Tr c D sl (kD E sz v n xs::hs') X):Tr c D sl hs X:=tH ht (fun _ _ h=>nW h) k
theorem xo (ht:Take hs (kD E sz v n xs) hs') (k:∀ a cap,v=.slice a n cap→n≤cap→cap≤maxLen→Tr c D sl hs X):Tr c D sl hs X:=fun a w bb=>by
 obtain ⟨kk,fp,kU,⟨f1,f2,rfl,⟨_,h1⟩,h2⟩,hb⟩:=bb.mem.take (ht.append _)
 rcases h1 with ⟨_,e,h0⟩ | ⟨g,off,cap,cur,_,e,_,hc,hm,_⟩
 ·subst h0;exact k none 0 e (Zz _) (by unfold maxLen;omega) a w bb
 ·exact k _ cap e hc hm a w bb
theorem AV (ht:Take hs (kD E sz v n xs) hs') (hn:0<n)
  (k:∀ g off cap pre cur,v=.slice (some ⟨g,off,none⟩) n cap→pre.length=off→n≤cap→cap≤maxLen→off+cap*sz≤(pre++xs++cur).length→xs.length=n*sz→Tr c D sl (bG g (.cells (pre++xs++cur).toArray E (0,0))::hs') X):Tr c D sl hs X:=fun a w bb=>by
 obtain ⟨kk,fp,kU,⟨f1,f2,rfl,⟨hl,h1⟩,h2⟩,hb⟩:=bb.mem.take (ht.append _)
 rcases h1 with ⟨_,_,h0⟩ | ⟨g,off,cap,cur,rfl,e,hg,hc,hm,hfit,htk⟩
 ·omega
 ·have hsz:n*sz≤cap*sz:=Z9 _ hc
  have Pe:cur.size=cur.toList.length:=by simp
  have ng:cur=(cur.toList.take off++xs++cur.toList.drop (off+n*sz)).toArray:=by
   apply Array.ext'
   show cur.toList=_
   rw [← htk]
   conv=>lhs;rw [← ZZ off cur.toList]
   rw [Zh]
   congr 1
   conv=>lhs;rw [← ZZ (n*sz) (cur.toList.drop off)]
   rw [Zbb]
  refine k g off cap (cur.toList.take off) (cur.toList.drop (off+n*sz)) e ?_ hc hm ?_ hl a w (bb.heap ⟨kk,[g]++f2,kU,⟨[g],f2,rfl,⟨rfl,by rw [← ng];exact hg⟩,h2⟩,hb⟩)
  ·rw [Zp];omega
  ·have:=congrArg (fun x:Array Value=>x.toList.length) ng
   simp only [ZaN] at this
   rw [← this];exact hfit
theorem xF {h:Nat→Option Obj} {g off cap:Nat} {pre cur:List Value} {fp:List Nat} (hb:(bG g (.cells (pre++xs++cur).toArray E (0,0))).sat h fp) (hp:pre.length=off) (hc:n≤cap) (hm:cap≤maxLen) (hfit:off+cap*sz≤(pre++xs++cur).length) (hl:xs.length=n*sz):(kD E sz (.slice (some ⟨g,off,none⟩) n cap) n xs).sat h fp:=by
 obtain ⟨e,hg⟩:=hb
 refine ⟨hl,.inr ⟨g,off,cap,_,e,rfl,hg,hc,hm,by rw [Zbk];exact hfit,?_⟩⟩
 show ((pre++xs++cur).drop off).take (n*sz)=xs
 rw [Zh,← hp,List.drop_left,← hl,List.take_left]
theorem AU {g off cap:Nat} {pre cur:List Value} (ht:Take hs (bG g (.cells (pre++xs++cur).toArray E (0,0))) hs') (hp:pre.length=off) (hc:n≤cap) (hm:cap≤maxLen) (hfit:off+cap*sz≤(pre++xs++cur).length) (hl:xs.length=n*sz)
  (k:Tr c D sl (kD E sz (.slice (some ⟨g,off,none⟩) n cap) n xs::hs') X):Tr c D sl hs X:=tH ht (fun _ _ h=>xF h hp hc hm hfit hl) k
theorem AT {a:Option Addr} {cap:Nat} (ht:Take hs (kD E sz (.slice a (n+1) cap) (n+1) xs) hs') (k:Tr c D sl (kD E sz (Go.sliced a 1 (n+1) cap sz) n (xs.drop sz)::hs') X):Tr c D sl hs X:=
 tH ht (fun h fp hr=>by
  obtain ⟨hl,h1⟩:=hr
  rcases h1 with ⟨_,_,h0⟩ | ⟨g,off,gQ,cur,rfl,e,hg,hc,hm,hfit,htk⟩
  ·omega
  ·obtain ⟨rfl,-,rfl⟩:=Value.slice.inj e
   have E8:(xs.drop sz).length=n*sz:=by rw [Zba,hl,Zag];omega
   refine ⟨E8,.inr ?_⟩
   have Ue:(cur.toList.drop (off+sz)).take (n*sz)=xs.drop sz:=by
    rw [← htk,List.drop_take,Zbb,show (n+1)*sz-sz=n*sz by rw [Zag];omega]
   by_cases WE:cap=1
   ·subst WE
    have Kc:n=0:=by omega
    subst Kc
    refine ⟨g,off,0,cur,rfl,?_,hg,Zz _,by omega,by omega,?_⟩
    ·simp [Go.sliced]
    ·rw [← Ue];simp
   ·refine ⟨g,off+sz,cap-1,cur,rfl,?_,hg,by omega,by omega,?_,Ue⟩
    ·simp only [Go.sliced,if_neg WE,Zbj,Addr.add,Nat.one_mul,ZaG]
     by_cases h0:sz=0
     ·rw [if_pos h0,h0];rfl
     ·rw [if_neg h0]
    ·have:cap*sz=(cap-1)*sz+sz:=by
      rw [← Zag];congr 1;omega
     omega) k
end
end Go.SL
namespace Go.SL
open Go Go.Shelf Go.RowKit Go.Proofs Go.Lib Go.Sort
theorem aH.grown {w w':World} (h:aH [] w w'):∃ q os',w'=Go.Sort.grow (w.drewN q) os':=by
 refine ⟨w'.drawn-w.drawn,w'.heap.extract w.heap.size w'.heap.size,?_⟩
 have hd:=h.dr
 have hh:w'.heap=w.heap++w'.heap.extract w.heap.size w'.heap.size:=by
  apply Array.ext_getElem?
  intro k
  by_cases hk:k<w.heap.size
  ·rw [Array.getElem?_append_left hk]
   exact h.block k hk (by simp)
  ·rw [Array.getElem?_append_right (by omega),Array.getElem?_extract]
   have hs:=h.size
   by_cases eH:k<w'.heap.size
   ·rw [if_pos (by omega)]
    congr 1;omega
   ·rw [if_neg (by omega),Zbt (by omega)]
 cases w'
 cases w
 have h1:=h.os
 have h2:=h.tape
 have h3:=h.output
 simp only at h1 h2 h3 hh hd
 subst h1;subst h2;subst h3
 simp only [Go.Sort.grow,World.drewN]
 congr 1
 omega
section
variable {P:Program} {α:Type} [Inhabited α]
theorem vr {enc:α→List Value} {k:Nat} (hk:∀ x,(enc x).length=k) (l:List α):(Go.Sort.flatK enc k l.toArray).toList=(l.map enc).flatten:=by
 have rI:=iQ hk l
 apply Zap
 intro t
 by_cases ht:t<l.length*k
 ·have LN:0<k:=by
   rcases Nat.eq_zero_or_pos k with e | e
   ·rw [e] at ht;omega
   ·exact e
  have h1:t / k<l.length:=by rw [Nat.div_lt_iff_lt_mul LN];exact ht
  have h2:t % k<k:=Nat.mod_lt _ LN
  have e3:=KA hk h1 h2 []
  rw [ZU,Nat.div_add_mod' t k] at e3
  rw [e3,ZaC]
  have hsz:t<(Go.Sort.flatK enc k l.toArray).size:=by rw [Go.Sort.size_flatK];simpa using ht
  have e4:(Go.Sort.flatK enc k l.toArray)[t]? = some ((Go.Sort.flatK enc k l.toArray)[t]!):=by
   rw [getElem!_pos _ t hsz]
   exact getElem?_pos _ t hsz
  rw [e4,Go.Sort.get_flatK _ _ _ _ (by simpa using ht),getElem!_pos l.toArray (t / k) (by simpa using h1)]
  have h5:t % k<(enc l[t / k]).length:=by rw [hk];exact h2
  rw [Zc h5]
  congr 1
  show (enc (l.toArray[t / k]'_))[t % k]! = _
  rw [show l.toArray[t / k]'(by simpa using h1)=l[t / k] from rfl,getElem!_pos _ (t % k) h5]
 ·rw [Zaf (by rw [ZaN,Go.Sort.size_flatK];simpa using ht),Zaf (by rw [rI];omega)]
theorem Bw (pre cur vs ws:List Value) (h:ws.length=vs.length):Go.Sort.putCells id pre.length ws.toArray (pre++vs++cur).toArray=(pre++ws++cur).toArray:=by
 apply Array.ext_getElem?
 intro j
 unfold Go.Sort.putCells
 rw [Array.getElem?_mapIdx]
 simp only [List.getElem?_toArray,Zbk]
 by_cases h1:j<pre.length
 ·rw [Zh,Zh,ZI h1,ZI h1]
  rw [Zc h1]
  simp only [Zbj]
  rw [if_neg (by omega)]
 ·by_cases h2:j<pre.length+ws.length
  ·have e1:(pre++vs++cur)[j]? = some ((pre++vs++cur)[j]'(by simp;omega)):=Zc _
   rw [e1,Zbj,if_pos (by omega)]
   rw [Zh,ZN (by omega),ZI (by omega),Zc (by omega)]
   congr 1
   show ws.toArray[j-pre.length]! = _
   rw [getElem!_pos ws.toArray (j-pre.length) (by simp;omega)]
   rfl
  ·rw [ZN (by simp;omega),ZN (by simp;omega)]
   simp only [Zg,h]
   cases cur[j-(pre.length+vs.length)]? with
   | none=>rfl
   | some x =>
    rw [Zbj,if_neg (by omega)]
theorem A8 {ρ:Ren} (L:SlLaysF0.n6 P ρ) {k:Nat} (aE:∀ w,(isAgg (ρ.t 24)).run P w=.ok true w) (zE:∀ w,(Go.sizeOf (ρ.t 24)).run P w=.ok k w) {enc:α→List Value} (hk:∀ x,(enc x).length=k) (h1:∀ x,∀ v∈enc x,v.oneCell'=true) {cf:α→α→Int} (hO:Go.Sort.SWO (ltOf cf))
  {g b cap:Nat} {cb:Array Value} {l:List α} {pre cur:List Value} {E:TypeId} {w:World} (eg:∀ args w,(callFunc g args).run P w=.ok (.enter g args) w) (hb:w.heap[b]? = some (.cells (pre++(l.map enc).flatten++cur).toArray E (0,0))) (hsz:l.length<4611686018427387904)
  (Yx:∀ w',aH [b] w w'→∀ x y:α,Calls P g (#[.agg (enc x).toArray,.agg (enc y).toArray]++cb) w' fun e wh=>e=.returned (.int .i64 (cf x y))∧aH [] w' wh) :
  Calls P (ρ.f 6) #[.slice (some ⟨b,pre.length,none⟩) l.length cap,.func (.func g) #[] cb] w fun e w'=>
   e=.returned (.tuple #[])∧∃ l':List α,l'.Perm l∧l'.Pairwise (fun x y=>ltOf cf y x=false)∧aH [b] w w'∧w'.heap[b]? = some (.cells (pre++(l'.map enc).flatten++cur).toArray E (0,0)):=by
 have Pj:b<w.heap.size:=(ZX.1 hb).1
 have Us:∀ (m:Nat) (d:Array α) (os:Array Obj),aH [b] w (sortWorldK enc k w b pre.length m d os):=by
  intro m d os
  unfold sortWorldK putRowK
  refine ⟨rfl,rfl,rfl,Nat.le_add_right _ _,by simp,fun q hq hne=>?_⟩
  rw [Go.Sort.heap_grow_old _ _ (by simpa using hq)]
  have:b≠q:=fun e=>hne (by rw [e];simp)
  simp [Go.Sort.putRow,Go.Sort.mapBlock,Go.Sort.ahead,Zbf,this]
 have hC:CmpLays P g cb enc k cf b pre.length l.toArray.size w:=fun m os dk _ x y=>(Yx _ (Us m dk os) x y).mono fun e w' ⟨he,rH⟩=>⟨he,rH.grown⟩
 have rI:=iQ hk l
 have hH:HoldsK enc k w b pre.length l.toArray:=by
  intro j hj
  rw [Go.Sort.size_flatK] at hj
  have l8:j<l.length*k:=by simpa using hj
  refine ⟨?_,by simp [World.frozen?,hb]⟩
  have h0:=vr hk l
  simp only [World.cell?,hb,Option.isSome_none,ZaR,if_false,List.getElem?_toArray]
  rw [Zh,ZN (by omega),Nat.add_sub_cancel_left,ZI (by omega),← h0,ZaC]
  have hs:j<(Go.Sort.flatK enc k l.toArray).size:=by rw [Go.Sort.size_flatK];exact hj
  rw [getElem!_pos _ j hs]
  exact getElem?_pos _ j hs
 have key:=AnyQ.slices_SortFunc L k aE zE enc hk h1 cf hO g cb b pre.length cap l.toArray w eg hC hH Pj (by simpa using hsz)
 refine Calls.mono key ?_
 rintro e w' ⟨he,d',m,os,hp,zN,hw⟩
 subst hw
 obtain ⟨vZ,_,hp3⟩:=hp
 have hd:List.Perm d'.toList l:=by
  rw [show (l.toArray.extract 0 l.toArray.size)=l.toArray by simp,show d'.extract 0 l.toArray.size=d' by rw [← vZ];simp] at hp3
  exact hp3
 refine ⟨he,d'.toList,hd,?_,Us m d' os,?_⟩
 ·rw [Z5]
  intro i j hi hj wF
  rw [ZaN] at hi hj
  have UZ:d'.size=l.length:=by rw [vZ];simp
  have:=zN i j (Zi _) wF (by simp;omega)
  rw [getElem!_pos d' i hi,getElem!_pos d' j hj] at this
  simpa using this
 ·unfold sortWorldK putRowK
  rw [Go.Sort.heap_grow_old _ _ (by simpa using Pj)]
  have XL:=Bw pre cur (l.map enc).flatten (Go.Sort.flatK enc k d').toList (by
   rw [ZaN,Go.Sort.size_flatK,rI,vZ];simp)
  have Wx:=vr hk d'.toList
  rw [ZaU] at Wx XL
  rw [Wx] at XL
  simp [Go.Sort.putRow,Go.Sort.mapBlock,Go.Sort.ahead,Zbf,hb,Go.Sort.onCells]
  simpa using XL
end
end Go.SL
namespace Go.Proofs
open Go.Shelf
def Tryz.C9:Go.Shelf.Ren:=⟨fun | 6=>260 | 15=>245 | 14=>320 | 28=>312 | 29=>313 | 20=>349 | 21=>350 | 22=>351 | 23=>352 | 24=>353 | 25=>354 | 26=>355 | 27=>356 | 46=>376 | 47=>344 | 48=>345 | 49=>377 | 50=>378 | 57=>392 | n=>n,fun | 22=>329 | 24=>244 | 25=>332 | 3=>3 | 39=>318 | 0=>0 | 53=>381 | 55=>383 | 4=>4 | 46=>374 | 45=>373 | 50=>272 | 5=>5 | 9=>9 | 66=>409 | 70=>413 | 76=>428 | 77=>359 | n=>n,fun | n=>n⟩
theorem Tryz.Da:Go.Proofs.SlLaysF0.n6 Tryz.prog Tryz.C9:={
 mixed:=by kernel_rfl
 f6:=⟨Tryz.f260.name,by decide,Tryz.func260.trans (congrArg some (by kernel_rfl))⟩
 f14:=⟨Tryz.f320.name,by decide,Tryz.func320.trans (congrArg some (by kernel_rfl))⟩
 f15:=Tryz.func245.trans (congrArg some (by kernel_rfl))
 f20:=⟨Tryz.f349.name,by decide,Tryz.func349.trans (congrArg some (by kernel_rfl))⟩
 f21:=⟨Tryz.f350.name,by decide,Tryz.func350.trans (congrArg some (by kernel_rfl))⟩
 f22:=⟨Tryz.f351.name,by decide,Tryz.func351.trans (congrArg some (by kernel_rfl))⟩
 f23:=⟨Tryz.f352.name,by decide,Tryz.func352.trans (congrArg some (by kernel_rfl))⟩
 f24:=⟨Tryz.f353.name,by decide,Tryz.func353.trans (congrArg some (by kernel_rfl))⟩
 f25:=⟨Tryz.f354.name,by decide,Tryz.func354.trans (congrArg some (by kernel_rfl))⟩
 f26:=⟨Tryz.f355.name,by decide,Tryz.func355.trans (congrArg some (by kernel_rfl))⟩
 f27:=⟨Tryz.f356.name,by decide,Tryz.func356.trans (congrArg some (by kernel_rfl))⟩
 f28:=Tryz.func312.trans (congrArg some (by kernel_rfl))
 f29:=Tryz.func313.trans (congrArg some (by kernel_rfl))
 f46:=⟨Tryz.f376.name,by decide,Tryz.func376.trans (congrArg some (by kernel_rfl))⟩
 f47:=Tryz.func344.trans (congrArg some (by kernel_rfl))
 f48:=Tryz.func345.trans (congrArg some (by kernel_rfl))
 f49:=⟨Tryz.f377.name,by decide,Tryz.func377.trans (congrArg some (by kernel_rfl))⟩
 f50:=⟨Tryz.f378.name,by decide,Tryz.func378.trans (congrArg some (by kernel_rfl))⟩
 f57:=⟨Tryz.f392.name,by decide,Tryz.func392.trans (congrArg some (by kernel_rfl))⟩
 t0:=Tryz.underlying0
 a0:=Tryz.isAgg0
 z0:=Tryz.sizeOf0
 v0:=Tryz.zeroValue0
 t3:=Tryz.underlying3
 a3:=Tryz.isAgg3
 z3:=Tryz.sizeOf3
 v3:=Tryz.zeroValue3
 t4:=Tryz.underlying4
 a4:=Tryz.isAgg4
 z4:=Tryz.sizeOf4
 v4:=Tryz.zeroValue4
 t5:=Tryz.underlying5
 a5:=Tryz.isAgg5
 z5:=Tryz.sizeOf5
 v5:=Tryz.zeroValue5
 t9:=Tryz.underlying9
 a9:=Tryz.isAgg9
 z9:=Tryz.sizeOf9
 v9:=Tryz.zeroValue9
 t22:=Tryz.underlying329
 a22:=Tryz.isAgg329
 z22:=Tryz.sizeOf329
 v22:=Tryz.zeroValue329
 t25:=Tryz.underlying332
 a25:=Tryz.isAgg332
 z25:=Tryz.sizeOf332
 v25:=Tryz.zeroValue332
 t39:=Tryz.underlying318
 a39:=Tryz.isAgg318
 z39:=Tryz.sizeOf318
 v39:=Tryz.zeroValue318
 t45:=Tryz.underlying373
 a45:=Tryz.isAgg373
 z45:=Tryz.sizeOf373
 v45:=Tryz.zeroValue373
 t46:=Tryz.underlying374
 a46:=Tryz.isAgg374
 z46:=Tryz.sizeOf374
 v46:=Tryz.zeroValue374
 t50:=Tryz.underlying272
 a50:=Tryz.isAgg272
 z50:=Tryz.sizeOf272
 v50:=Tryz.zeroValue272
 t53:=Tryz.underlying381
 a53:=Tryz.isAgg381
 z53:=Tryz.sizeOf381
 v53:=Tryz.zeroValue381
 t55:=Tryz.underlying383
 a55:=Tryz.isAgg383
 z55:=Tryz.sizeOf383
 v55:=Tryz.zeroValue383
 t66:=Tryz.underlying409
 a66:=Tryz.isAgg409
 z66:=Tryz.sizeOf409
 v66:=Tryz.zeroValue409
 t70:=Tryz.underlying413
 a70:=Tryz.isAgg413
 z70:=Tryz.sizeOf413
 v70:=Tryz.zeroValue413
 t76:=Tryz.underlying428
 a76:=Tryz.isAgg428
 z76:=Tryz.sizeOf428
 v76:=Tryz.zeroValue428
 t77:=Tryz.underlying359
 a77:=Tryz.isAgg359
 z77:=Tryz.sizeOf359
 v77:=Tryz.zeroValue359 }
def Tryz.Db:Go.Shelf.Ren:=⟨fun | 6=>317 | 15=>245 | 14=>348 | 28=>312 | 29=>313 | 20=>368 | 21=>369 | 22=>370 | 23=>371 | 24=>372 | 25=>373 | 26=>374 | 27=>375 | 46=>389 | 47=>344 | 48=>345 | 49=>390 | 50=>391 | 57=>399 | n=>n,fun | 22=>39 | 24=>188 | 25=>388 | 3=>3 | 39=>318 | 0=>0 | 53=>381 | 55=>383 | 4=>4 | 46=>374 | 45=>373 | 50=>272 | 5=>5 | 9=>9 | 66=>409 | 70=>413 | 76=>428 | 77=>359 | n=>n,fun | n=>n⟩
theorem Tryz.Dc:Go.Proofs.SlLaysF0.n6 Tryz.prog Tryz.Db:={
 mixed:=by kernel_rfl
 f6:=⟨Tryz.f317.name,by decide,Tryz.func317.trans (congrArg some (by kernel_rfl))⟩
 f14:=⟨Tryz.f348.name,by decide,Tryz.func348.trans (congrArg some (by kernel_rfl))⟩
 f15:=Tryz.func245.trans (congrArg some (by kernel_rfl))
 f20:=⟨Tryz.f368.name,by decide,Tryz.func368.trans (congrArg some (by kernel_rfl))⟩
 f21:=⟨Tryz.f369.name,by decide,Tryz.func369.trans (congrArg some (by kernel_rfl))⟩
 f22:=⟨Tryz.f370.name,by decide,Tryz.func370.trans (congrArg some (by kernel_rfl))⟩
 f23:=⟨Tryz.f371.name,by decide,Tryz.func371.trans (congrArg some (by kernel_rfl))⟩
 f24:=⟨Tryz.f372.name,by decide,Tryz.func372.trans (congrArg some (by kernel_rfl))⟩
 f25:=⟨Tryz.f373.name,by decide,Tryz.func373.trans (congrArg some (by kernel_rfl))⟩
 f26:=⟨Tryz.f374.name,by decide,Tryz.func374.trans (congrArg some (by kernel_rfl))⟩
 f27:=⟨Tryz.f375.name,by decide,Tryz.func375.trans (congrArg some (by kernel_rfl))⟩
 f28:=Tryz.func312.trans (congrArg some (by kernel_rfl))
 f29:=Tryz.func313.trans (congrArg some (by kernel_rfl))
 f46:=⟨Tryz.f389.name,by decide,Tryz.func389.trans (congrArg some (by kernel_rfl))⟩
 f47:=Tryz.func344.trans (congrArg some (by kernel_rfl))
 f48:=Tryz.func345.trans (congrArg some (by kernel_rfl))
 f49:=⟨Tryz.f390.name,by decide,Tryz.func390.trans (congrArg some (by kernel_rfl))⟩
 f50:=⟨Tryz.f391.name,by decide,Tryz.func391.trans (congrArg some (by kernel_rfl))⟩
 f57:=⟨Tryz.f399.name,by decide,Tryz.func399.trans (congrArg some (by kernel_rfl))⟩
 t0:=Tryz.underlying0
 a0:=Tryz.isAgg0
 z0:=Tryz.sizeOf0
 v0:=Tryz.zeroValue0
 t3:=Tryz.underlying3
 a3:=Tryz.isAgg3
 z3:=Tryz.sizeOf3
 v3:=Tryz.zeroValue3
 t4:=Tryz.underlying4
 a4:=Tryz.isAgg4
 z4:=Tryz.sizeOf4
 v4:=Tryz.zeroValue4
 t5:=Tryz.underlying5
 a5:=Tryz.isAgg5
 z5:=Tryz.sizeOf5
 v5:=Tryz.zeroValue5
 t9:=Tryz.underlying9
 a9:=Tryz.isAgg9
 z9:=Tryz.sizeOf9
 v9:=Tryz.zeroValue9
 t22:=Tryz.underlying39
 a22:=Tryz.isAgg39
 z22:=Tryz.sizeOf39
 v22:=Tryz.zeroValue39
 t25:=Tryz.underlying388
 a25:=Tryz.isAgg388
 z25:=Tryz.sizeOf388
 v25:=Tryz.zeroValue388
 t39:=Tryz.underlying318
 a39:=Tryz.isAgg318
 z39:=Tryz.sizeOf318
 v39:=Tryz.zeroValue318
 t45:=Tryz.underlying373
 a45:=Tryz.isAgg373
 z45:=Tryz.sizeOf373
 v45:=Tryz.zeroValue373
 t46:=Tryz.underlying374
 a46:=Tryz.isAgg374
 z46:=Tryz.sizeOf374
 v46:=Tryz.zeroValue374
 t50:=Tryz.underlying272
 a50:=Tryz.isAgg272
 z50:=Tryz.sizeOf272
 v50:=Tryz.zeroValue272
 t53:=Tryz.underlying381
 a53:=Tryz.isAgg381
 z53:=Tryz.sizeOf381
 v53:=Tryz.zeroValue381
 t55:=Tryz.underlying383
 a55:=Tryz.isAgg383
 z55:=Tryz.sizeOf383
 v55:=Tryz.zeroValue383
 t66:=Tryz.underlying409
 a66:=Tryz.isAgg409
 z66:=Tryz.sizeOf409
 v66:=Tryz.zeroValue409
 t70:=Tryz.underlying413
 a70:=Tryz.isAgg413
 z70:=Tryz.sizeOf413
 v70:=Tryz.zeroValue413
 t76:=Tryz.underlying428
 a76:=Tryz.isAgg428
 z76:=Tryz.sizeOf428
 v76:=Tryz.zeroValue428
 t77:=Tryz.underlying359
 a77:=Tryz.isAgg359
 z77:=Tryz.sizeOf359
 v77:=Tryz.zeroValue359 }
end Go.Proofs
namespace Go.Proofs.A1
open Go Go.SL Go.Shelf Go.Proofs
structure Wy where
 v:Value
 p:List Nat
 f:Nat
def Wy.cells (x:Wy):List Value:=[x.v,.int .i64 (x.f:Nat)]
def nz (p:List Nat):List Int:=p.map fun i:Nat=>(i:Int)
def fV (p:List Nat):List Value:=p.map fun i=>.int .i64 (i:Nat)
def Te (l:List Wy):List (List Value):=l.map Wy.cells
def mL (l:List Wy):List Value:=(Te l).flatten
theorem xT (p:List Nat):(fV p).map (fun u=>[u])=ints (nz p):=by simp [fV,ints,nz]
theorem rW (p:List Nat):(nz p).length=p.length:=by simp [nz]
def Tm (a b:Nat×List Nat):Int:=aV [km a.1 b.1,km (a.2.length:Nat) (b.2.length:Nat),lE (nz a.2) (nz b.2)]
def wl (a b:Nat×List Nat):Bool:=decide (a.1<b.1)||(decide (a.1=b.1)&&(decide (a.2.length<b.2.length)||(decide (a.2.length=b.2.length)&&lexB a.2 b.2)))
theorem vF {x y:Int}:km x y<0↔x<y:=by
 unfold km
 split
 ·constructor <;> intro _ <;> omega
 ·split <;> constructor <;> intro _ <;> omega
theorem Ci:∀ {a b:List Nat},a.length=b.length→(lE (nz a) (nz b)<0↔lexB a b=true)
 | [],[],_=>by simp [nz,lE,lexB]
 | [],_::_,h=>by simp at h
 | _::_,[],h=>by simp at h
 | x :: a, y :: b, h => by
  have ih:=Ci (a:=a) (b:=b) (by simpa using h)
  show (if km x y≠0 then km x y else lE (nz a) (nz b))<0↔_
  unfold lexB
  by_cases e:(x:Int)=y
  ·rw [if_neg (not_not_intro (iA.2 e)),ih]
   have e':x=y:=by exact_mod_cast e
   simp [e']
  ·rw [if_pos (fun q=>e (iA.1 q)),vF]
   have e':¬ x=y:=fun q=>e (by rw [q])
   simp [e']
theorem Er (a b:Nat×List Nat):Tm a b<0↔wl a b=true:=by
 unfold Tm wl aV
 by_cases h1:(a.1:Int)=b.1
 ·rw [if_neg (not_not_intro (iA.2 h1))]
  have CL:a.1=b.1:=by exact_mod_cast h1
  unfold aV
  by_cases h2:((a.2.length:Nat):Int)=(b.2.length:Nat)
  ·rw [if_neg (not_not_intro (iA.2 h2))]
   have GL:a.2.length=b.2.length:=by exact_mod_cast h2
   have h3:=Ci GL
   unfold aV
   by_cases h4:lE (nz a.2) (nz b.2)=0
   ·rw [if_neg (not_not_intro h4)]
    rw [h4] at h3
    simp [aV,CL,GL]
    have:=h3.symm
    simpa using this
   ·rw [if_pos h4,h3]
    simp [CL,GL]
  ·rw [if_pos (fun q=>h2 (iA.1 q)),vF]
   have GL:¬ a.2.length=b.2.length:=fun q=>h2 (by rw [q])
   simp [CL,GL]
 ·rw [if_pos (fun q=>h1 (iA.1 q)),vF]
  have CL:¬ a.1=b.1:=fun q=>h1 (by rw [q])
  simp [CL]
theorem w8 (a:Nat×List Nat):wl a a=false:=by unfold wl;rw [om];simp
theorem AQ {a b c:Nat×List Nat} (h1:wl a b=true) (h2:wl b c=true):wl a c=true:=by
 unfold wl at *
 simp only [ZP,Zm,decide_eq_true_eq] at *
 rcases h1 with h1 | ⟨e1,h1 | ⟨e2,h1⟩⟩ <;> rcases h2 with h2 | ⟨g1,h2 | ⟨g2,h2⟩⟩
 ·exact .inl (by omega)
 ·exact .inl (by omega)
 ·exact .inl (by omega)
 ·exact .inl (by omega)
 ·exact .inr ⟨by omega,.inl (by omega)⟩
 ·exact .inr ⟨by omega,.inl (by omega)⟩
 ·exact .inl (by omega)
 ·exact .inr ⟨by omega,.inl (by omega)⟩
 ·exact .inr ⟨by omega,.inr ⟨by omega,qf h1 h2⟩⟩
theorem Hk {a b:Nat×List Nat} (h:a≠b):wl a b=true∨wl b a=true:=by
 unfold wl
 simp only [ZP,Zm,decide_eq_true_eq]
 rcases Zak a.1 b.1 with h1 | h1 | h1
 ·exact .inl (.inl h1)
 ·rcases Zak a.2.length b.2.length with h2 | h2 | h2
  ·exact .inl (.inr ⟨h1,.inl h2⟩)
  ·have hne:a.2≠b.2:=fun e=>h (Prod.ext h1 e)
   rcases qg h2 hne with h3 | h3
   ·exact .inl (.inr ⟨h1,.inr ⟨h2,h3⟩⟩)
   ·exact .inr (.inr ⟨h1.symm,.inr ⟨h2.symm,h3⟩⟩)
  ·exact .inr (.inr ⟨h1.symm,.inl h2⟩)
 ·exact .inr (.inl h1)
theorem PX {α:Type} (g:α→Nat×List Nat):Go.Sort.SWO (ltOf fun x y:α=>Tm (g x) (g y)):=by
 have e:∀ x y:α,ltOf (fun x y:α=>Tm (g x) (g y)) x y=wl (g x) (g y):=fun x y=>by
  unfold ltOf
  rw [ZaY,decide_eq_true_eq]
  exact Er _ _
 constructor
 ·intro x;rw [e];exact w8 _
 ·intro x y z h1 h2;rw [e] at *;exact AQ h1 h2
 ·intro x y z h1 h2
  rw [e] at *
  by_cases h:wl (g x) (g z)=true
  ·by_cases e1:g x=g y
   ·rw [e1,h2] at h;cases h
   ·rcases Hk e1 with h3 | h3
    ·rw [h1] at h3;cases h3
    ·rw [AQ h3 h] at h2;cases h2
  ·simpa using h
theorem TS {v:Value} {cs:List Value} {es:List Int} {w:World} (h:Rd w v 1 (cs.map fun v=>[v])) (hl:bU cs es):aj Tryz.prog 319 [v] w (.int .i64 (aV es)):=
 TT (by rw [← hl.eq];exact h)
theorem PZ {v1 v2:Value} {p q:List Nat} {f1 f2:Nat} {w:World} (h1:Rd w v1 1 (ints (nz p))) (h2:Rd w v2 1 (ints (nz q))) :
  aj Tryz.prog 261 [.agg #[v1,.int .i64 (f1:Nat)],.agg #[v2,.int .i64 (f2:Nat)]] w (.int .i64 (Tm (f1,p) (f2,q))):=by
 have Yy:∀ w',aH [] w w'→aj Tryz.prog 236 [v1,v2] w' (.int .i64 (lE (nz p) (nz q))):=fun w' hk=>yr (h1.keeps hk) (h2.keeps hk)
 obtain ⟨a,cp,b,o,rfl,c7,bQ,ha,hc⟩:=h1
 rw [cY,rW] at *
 obtain ⟨a',Tb,b',o',rfl,oE,O8,cB,Wz⟩:=h2
 rw [cY,rW] at *
 have iP:=Yy
 refine ah Tryz.func261 rfl rfl ?_
 refine Jr<|Jy rfl rfl fun _ _=>Jy rfl rfl fun _ _=>Ja rfl<|Jn<|Jq ?_
 with_reducible refine cQ 18 (by kernel_rfl) ?_
 (refine an kB rfl<|an (gT (.there .here)) rfl<|an kB rfl<|an (gT .here) rfl<|aT bd rfl (fun w' aB=>(Ch _ _ w'))<|an kB rfl<|an (gT (.there .here)) rfl<|an (bD (.of rfl)) rfl<|an kB rfl<|an (gT .here) rfl<|an (bD (.of rfl)) rfl<|aT bd rfl (fun w' aB=>(Ch _ _ w'))<|an kB rfl<|an (gT (.there .here)) rfl<|an kB rfl<|an (gT .here) rfl<|aT bd rfl (fun w' aB=>(iP w' (Mem.keeps aB)))<|ek (aD (.cons (.of rfl) (.cons (.of rfl) (.cons (.of rfl) .nil))) rfl rfl rfl rfl) rfl rfl ?_)
 with_reducible refine dp rfl fun bq mN=>?_
 (refine ai bL rfl (fun w' aB=>(TS (Mem.dh aB .here rfl rfl) (bU.cons (bU.cons (bU.cons bU.nil)))))<|Ja rfl<|Jn<|Je<|JT ?_)
 rfl
theorem PV (l:List Wy):∀ r∈Te l,r.length=2:=fun r hr=>by obtain ⟨x,_,rfl⟩:=Zu.1 hr;rfl
theorem oR (l:List Wy):(mL l).length=l.length*2:=by unfold mL;rw [fg (PV l)];unfold Te;rw [Zd]
theorem LY (a b:List Wy):mL (a++b)=mL a++mL b:=by unfold mL Te;rw [Zr,Zab]
def iB (ko:List Wy):a8:=mq 3 (ko.map Wy.v) (ko.map fun x=>fV x.p)
theorem Fz {w:World} {ko:List Wy} {fp:List Nat} (hn:fp.Nodup) (hs:ch (hp w) [iB ko] fp) {x:Wy} (hx:x∈ko):Rd w x.v 1 (ints (nz x.p)):=by
 obtain ⟨j,hj,rfl⟩:=Zs hx
 have hm:Mem ⟨w,fp,0⟩ [iB ko] w:=⟨.refl _ _,fp,hn,hs,fun b hb=>.inr hb⟩
 have:=hm.Dr (j:=j) (v:=(ko[j]).v) (x:=fV (ko[j]).p) .here (by simp [hj]) (by simp [hj])
 rwa [xT] at this
theorem Ed {c:Cx} {hs hs':List a8} {w:World} (hm:Mem c hs w) {ko:List Wy} (ht:Take hs (iB ko) hs') {x:Wy} (hx:x∈ko):Rd w x.v 1 (ints (nz x.p)):=by
 obtain ⟨j,hj,rfl⟩:=Zs hx
 have:=hm.Dr (j:=j) (v:=(ko[j]).v) (x:=fV (ko[j]).p) ht (by simp [hj]) (by simp [hj])
 rwa [xT] at this
theorem HP {v:Value} {n:Nat} {l ko:List Wy} {w:World} {fp:List Nat} (kU:fp.Nodup) (hs:ch (hp w) [kD 244 2 v n (mL l),iB ko] fp) (hn:n=l.length) (iN:∀ x∈l,x∈ko) (cI:n≤1000000) (WE:∀ x∈ko,x.v.oneCell'=true) :
  bh Tryz.prog 260 [v,.func (.func 261) #[] #[]] w fp (fun l':List Wy=>l'.Perm l∧l'.Pairwise (fun x y=>wl (y.f,y.p) (x.f,x.p)=false)) (fun _=>.tuple #[]) (fun l'=>[kD 244 2 v n (mL l'),iB ko]):=by
 obtain ⟨f1,f2,rfl,h1,h2⟩:=hs
 obtain ⟨hlen,h1⟩:=h1
 have Rs:=(ZF.1 kU).2.1
 have kM:=(ZF.1 kU).2.2
 rcases h1 with ⟨rfl,rfl,h0⟩ | ⟨g,off,cap,cur,rfl,rfl,hg,kz,j6,hfit,htk⟩
 ·have qi:l=[]:=Z2 (by omega)
  subst qi
  refine (AnyF.slices_SortFunc_none Tryz.Da none 0 (.func (.func 261) #[] #[]) w).mono fun e w' ⟨he,hw⟩=>?_
  subst hw
  exact ⟨[],he,⟨.refl _,.nil⟩,.refl _ _,[]++f2,by simpa using Rs,⟨[],f2,rfl,⟨hlen,.inl ⟨rfl,rfl,h0⟩⟩,h2⟩,fun b hb=>.inl hb⟩
 ·subst hn
  have RT:g<w.heap.size:=(ZX.1 hg).1
  by_cases qi:l=[]
  ·subst qi
   refine (AnyF.slices_SortFunc_none Tryz.Da (some ⟨g,off,none⟩) cap (.func (.func 261) #[] #[]) w).mono fun e w' ⟨he,hw⟩=>?_
   subst hw
   exact ⟨[],he,⟨.refl _,.nil⟩,.refl _ _,[g]++f2,kU,⟨[g],f2,rfl,⟨hlen,.inr ⟨g,off,cap,cur,rfl,rfl,hg,kz,j6,hfit,htk⟩⟩,h2⟩,fun b hb=>.inl hb⟩
  obtain ⟨x0,QZ⟩:=List.exists_mem_of_ne_nil l qi
  let α:={x:Wy // x∈ko}
  let _:Inhabited α:=⟨⟨x0,iN x0 QZ⟩⟩
  let enc:α→List Value:=fun x=>x.1.cells
  have hle:l.length*2≤cap*2:=Z9 _ kz
  have Pe:cur.size=cur.toList.length:=by simp
  have ng:cur=(cur.toList.take off++mL l++cur.toList.drop (off+l.length*2)).toArray:=by
   apply Array.ext'
   show cur.toList=_
   rw [← htk]
   conv=>lhs;rw [← ZZ off cur.toList]
   rw [Zh]
   congr 1
   conv=>lhs;rw [← ZZ (l.length*2) (cur.toList.drop off)]
   rw [Zbb]
  have AG:(cur.toList.take off).length=off:=by rw [Zp];omega
  generalize kL:cur.toList.take off=pre at ng AG
  generalize Ut:cur.toList.drop (off+l.length*2)=post at ng
  let la:List α:=l.attach.map fun x=>⟨x.1,iN x.1 x.2⟩
  have Rz:la.map (fun x:α=>x.1)=l:=by
   show (l.attach.map fun x=>(⟨x.1,iN x.1 x.2⟩:α)).map (fun x:α=>x.1)=l
   rw [ZaF]
   exact List.attach_map_subtype_val l
  have BW:∀ m:List α,(m.map enc).flatten=mL (m.map fun x:α=>x.1):=fun m=>by
   unfold mL Te
   rw [ZaF];rfl
  have DO:la.length=l.length:=by
   show (l.attach.map fun x=>(⟨x.1,iN x.1 x.2⟩:α)).length=_
   rw [Zd,List.length_attach]
  have sW:w.heap[g]? = some (.cells (pre++(la.map enc).flatten++post).toArray 244 (0,0)):=by rw [BW,Rz,← ng];exact hg
  have key:=A8 Tryz.Da (k:=2) Tryz.isAgg244 Tryz.sizeOf244 (enc:=enc) (fun _=>rfl)
   (fun x u hu=>by
    have hx:=WE x.1 x.2
    simp only [enc,Wy.cells,ZR,Zq,or_false] at hu
    rcases hu with rfl | rfl
    ·exact hx
    ·rfl)
   (PX (fun x:α=>(x.1.f,x.1.p))) (g:=261) (b:=g) (cap:=cap) (cb:=#[]) (l:=la) (pre:=pre) (cur:=post) (E:=244) (w:=w)
   (enters_of Tryz.func261 (by kernel_rfl) rfl) sW (by rw [DO];omega)
   (fun w' hk x y=>by
    have hp:ch (hp w') [iB ko] f2:=ch.loc h2 fun b hb=>by
     have Pj:b<w.heap.size:=by
      obtain ⟨o,ho⟩:=ch.own h2 b hb
      exact j5 ho
     exact hk.block b Pj (fun e=>kM g (by simp) b hb (ZK.1 e).symm)
    exact PZ (Fz Rs hp x.2) (Fz Rs hp y.2))
  rw [DO,AG] at key
  refine Calls.mono key ?_
  rintro e w' ⟨he,l',ic,XI,hk,dA⟩
  have yf:(l'.map fun x:α=>x.1).length=l.length:=by rw [Zd,ic.length_eq,DO]
  rw [BW] at dA
  refine ⟨l'.map fun x:α=>x.1,he,⟨?_,?_⟩,hk.mono (by simp),[g]++f2,kU,⟨[g],f2,rfl,?_,ch.loc h2 fun b hb=>?_⟩,fun b hb=>.inl hb⟩
  ·have:=ic.map (fun x:α=>x.1)
   rwa [Rz] at this
  ·rw [Zbz]
   refine XI.imp fun {x y} h=>?_
   unfold ltOf at h
   rw [decide_eq_false_iff_not,Er] at h
   simpa using h
  ·have hr:=xF (n:=l.length) (sz:=2) (cap:=cap) (fp:=[g]) (h:=hp w') ⟨rfl,dA⟩ AG kz j6 (by
    have:=congrArg (fun x:Array Value=>x.toList.length) ng
    simp only [ZaN,Zg,oR] at this
    rw [Zg,Zg,oR,yf,← this];exact hfit) (by rw [oR,yf])
   exact hr
  ·have Pj:b<w.heap.size:=by
    obtain ⟨o,ho⟩:=ch.own h2 b hb
    exact j5 ho
   exact hk.block b Pj (fun e=>kM g (by simp) b hb (ZK.1 e).symm)
end Go.Proofs.A1
namespace Go.Proofs.A1
open Go Go.SL
theorem KC {α:Type} {q:α→Bool} {l:List α} {k:Nat} (h:k<l.length) (hq:q l[k]=true):(l.filter q)[((l.take k).filter q).length]? = some l[k]:=by
 have e:l=l.take k++l[k]::l.drop (k+1):=by rw [← Zw h,ZZ]
 have:l.filter q=(l.take k).filter q++l[k]::(l.drop (k+1)).filter q:=by
  conv=>lhs;rw [e]
  rw [Zbd,Zbr hq]
 rw [this,ZN (Zz _),Nat.sub_self];rfl
def B7 (r:Ro) (v m:Int) (i:Nat):Bool:=decide ((iG r i).fr=m)&&!jq r.po v (gM r i)
def fm (r:Ro) (v m:Int) (k:Nat):List Nat:=(List.range k).filter (B7 r v m)
def LD (r:Ro) (v m:Int):List (List Value):=(fm r v m r.ti.length).map fun i=>[.int .i64 (i:Nat),.agg (iG r i).cells.toArray]
theorem tV (r:Ro) (v m:Int):(LD r v m).length=(fm r v m r.ti.length).length:=by simp [LD]
theorem r8 (r:Ro) (v m:Int) (k:Nat):fm r v m (k+1)=fm r v m k++if B7 r v m k then [k] else []:=by
 unfold fm
 rw [List.range_succ,Zbd]
 congr 1
 by_cases h:B7 r v m k=true
 ·rw [Zbr h,if_pos h];rfl
 ·rw [List.filter_cons_of_neg h,if_neg h];rfl
theorem Ni {r:Ro} {v m:Int} {k:Nat} (h:k<r.ti.length) (hq:B7 r v m k=true):(LD r v m)[(fm r v m k).length]? = some [.int .i64 (k:Nat),.agg (iG r k).cells.toArray]:=by
 have h1:=KC (l:=List.range r.ti.length) (q:=B7 r v m) (k:=k) (by rw [ZaL];exact h) (by rw [Zbw];exact hq)
 rw [List.take_range,Zbi (by omega),Zbw] at h1
 unfold LD fm
 rw [ZD,h1];rfl
theorem DB {r:Ro} {v m:Int} {k:Nat} {vs:List Value} (h:(LD r v m)[k]? = some vs):∃ i,(fm r v m r.ti.length)[k]? = some i∧vs=[.int .i64 (i:Nat),.agg (iG r i).cells.toArray]∧i<r.ti.length∧B7 r v m i=true:=by
 unfold LD at h
 rw [ZD,Zah] at h
 obtain ⟨i,hi,rfl⟩:=h
 have hm:=ZW hi
 unfold fm at hm
 rw [Zv,ZT] at hm
 exact ⟨i,hi,rfl,hm.1,hm.2⟩
theorem mR {r:Ro} {i:Nat} (h:i<r.ti.length):iG r i=r.ti[i]:=by
 unfold iG;rw [Zk,Zc h];rfl
theorem EJ {P:Program} {c:Cx} {sl:aG} {hs:List a8} {dst:Option Tmp} {ty:TypeId} {pos:String} {af:Array Edge} {g:Option (Nat×Bool)} {k:IntKind} {t u:TypeId} {x y:Operand} {a b:Int} (hx:Is sl x (.int k a)) (hy:Is sl y (.int k b)) (e:a=b) :
  cR P c sl hs ⟨dst,.binOp .eql t x y u,ty,pos,af,g⟩ (.bool true):=by
 have:=lY (P:=P) (c:=c) (hs:=hs) (dst:=dst) (ty:=ty) (pos:=pos) (af:=af) (g:=g) (t:=t) (u:=u) hx hy
 rwa [decide_eq_true e] at this
theorem MP {P:Program} {c:Cx} {sl:aG} {hs:List a8} {dst:Option Tmp} {ty:TypeId} {pos:String} {af:Array Edge} {g:Option (Nat×Bool)} {k:IntKind} {t u:TypeId} {x y:Operand} {a b:Int} (hx:Is sl x (.int k a)) (hy:Is sl y (.int k b)) (e:a≠b) :
  cR P c sl hs ⟨dst,.binOp .eql t x y u,ty,pos,af,g⟩ (.bool false):=by
 have:=lY (P:=P) (c:=c) (hs:=hs) (dst:=dst) (ty:=ty) (pos:=pos) (af:=af) (g:=g) (t:=t) (u:=u) hx hy
 rwa [decide_eq_false e] at this
theorem cP {P:Program} {c:Cx} {sl:aG} {hs:List a8} {dst:Option Tmp} {ty:TypeId} {pos:String} {af:Array Edge} {g:Option (Nat×Bool)} {x y z:Operand} {q:Bool} {v u:Value} (hx:Is sl x (.bool q)) (hy:Is sl y v) (hz:Is sl z u) (e:(bif q then v else u)=Value.bool false):cR P c sl hs ⟨dst,.pick x y z,ty,pos,af,g⟩ (.bool false):=e ▸ tN hx hy hz
theorem eM {P:Program} {c:Cx} {sl:aG} {hs:List a8} {dst:Option Tmp} {ty:TypeId} {pos:String} {af:Array Edge} {g:Option (Nat×Bool)} {x y z:Operand} {q:Bool} {v u:Value} (hx:Is sl x (.bool q)) (hy:Is sl y v) (hz:Is sl z u) (e:(bif q then v else u)=Value.bool true):cR P c sl hs ⟨dst,.pick x y z,ty,pos,af,g⟩ (.bool true):=e ▸ tN hx hy hz
theorem rZ {r:Ro} {s d t p:Value} (v m:Int) {w w1:World} (h:RR w1 r s d t p) :
  bh Tryz.prog 153 [RA r s d t p,.int .i64 v,.int .i64 m] w [] (fun _:Nat×Nat×Nat=>True) (fun x=>.func (.func 240) #[] #[.pointer (some ⟨x.1,0,none⟩),.pointer (some ⟨x.2.1,0,none⟩),.pointer (some ⟨x.2.2,0,none⟩)])
   (fun x=>[JP x.1 r s d t p,bG x.2.1 (.cells #[.int .i64 m] 3 (0,0)),bG x.2.2 (.cells #[.int .i64 v] 3 (0,0))]):=by
 have h1:=Rd.one h.sr
 have h2:=Rd.one h.de
 have h3:=Rd.one h.ti
 have h4:=Rd.one h.po
 unfold RA
 refine aQ Tryz.func153 rfl rfl ?_
 (refine Jr<|Jy rfl rfl fun _ _=>Jy rfl rfl fun _ _=>Jy rfl rfl fun _ _=>Ja rfl<|Ji<|ab (bA .nil (.cons (.of rfl) (.cons (.of rfl) (.cons (.of rfl) .nil)))) rfl<|Ja rfl<|Jn<|Je ?_)
 rename_i b3 vo b4 wb b5 NQ
 first | with_reducible apply aN | with_reducible apply aO
 case he=>exact dD rfl rfl
 case hR=>
  intro w' aB
  exact aF (b3,b5,b4) trivial (by exact .cons bT (.cons .here (.cons .here .nil))) aB rfl
set_option maxHeartbeats 1000000 in
theorem IU {r:Ro} {s d t p:Value} {b1 b2 b3:Nat} (v m:Int) {w0 w:World} {md:List Nat} (h:RR w0 r s d t p) (hn:RO md r s d t p) (cI:r.ti.length≤1000000) :
  Iter Tryz.prog 240 [] [.pointer (some ⟨b1,0,none⟩),.pointer (some ⟨b2,0,none⟩),.pointer (some ⟨b3,0,none⟩)] [JP b1 r s d t p,bG b2 (.cells #[.int .i64 m] 3 (0,0)),bG b3 (.cells #[.int .i64 v] 3 (0,0))] (LD r v m) w0 md w:=by
 intro l fp J E hB hF kU hs hy
 have hR:=h.jw hn hB
 have hO:=h.out hn hF
 rw [tV]
 have h1:=Rd.one hR.sr
 have h2:=Rd.one hR.de
 have h4:=Rd.one hR.po
 have hti:=hR.ti
 have oti:=hO.ti
 obtain ⟨a,cp,b,o',rfl,c7,bQ,ha,hc⟩:=hti
 rw [bY] at *
 unfold maxLen at bQ
 refine eb Tryz.func240 rfl rfl kU hs ?_
 (refine Jr<|bP rfl rfl ae<|JL rfl (.there .here) rfl<|JI rfl<|Jv rfl<|Jn<|J0 ?_)
 refine aX (fun k:Nat=>k≤r.ti.length) (fun k=>[(10,.int .i64 (k:Nat)),(9,.int .i64 (r.ti.length:Nat)),(8,.slice a r.ti.length cp),(0,.func (.yield l) #[] #[]),(1,.pointer (some ⟨b1,0,none⟩)),(2,.pointer (some ⟨b2,0,none⟩)),(3,.pointer (some ⟨b3,0,none⟩))])
  (fun k=>[J (fm r v m k).length,JP b1 r s d (.slice a r.ti.length cp) p,bG b2 (.cells #[.int .i64 m] 3 (0,0)),bG b3 (.cells #[.int .i64 v] 3 (0,0))]) (fun k=>r.ti.length-k) ?_ ?_
 ·apply aI 0 (by omega)
  case hs1=>exact cd
  case ht=>
   exact .cons .here (.cons .here (.cons .here (.cons .here .nil)))
 intro k hk
 by_cases aK:k<r.ti.length
 ·have cB:=ha (fq aK)
  have aC:=(hc k _ (eB aK)).2
  have XZ:b ∉ fp:=oti (fq aK) b (by rw [cB];rfl)
  unfold Ti.cells at aC
  have B1:∀ w',aH fp w w'→aj Tryz.prog 121 [.agg #[.int .i64 r.lv,.int .i64 r.ma,s,d,.slice a r.ti.length cp,p],.int .i64 v,.string (r.ti[k]).nm] w' (.bool (jq r.po v (r.ti[k]).nm)):=fun w' hk=>qx v _ (hR.jw hO hk)
  have zM:=mR aK
  have xZ:gM r k=(r.ti[k]).nm:=by unfold gM;rw [zM]
  by_cases r6:(r.ti[k]).fr=m
  ·cases AM:jq r.po v (r.ti[k]).nm with
   | true =>
    have B2:∀ w',aH fp w w'→aj Tryz.prog 121 [.agg #[.int .i64 r.lv,.int .i64 r.ma,s,d,.slice a r.ti.length cp,p],.int .i64 v,.string (r.ti[k]).nm] w' (.bool true):=fun w' hk=>AM ▸ B1 w' hk
    have hq:B7 r v m k=false:=by unfold B7;rw [xZ,AM];simp
    have JX:fm r v m (k+1)=fm r v m k:=by rw [r8,if_neg (by rw [hq];decide),ZU]
    (refine Jr<|JA rfl<|Jn<|Jq<|Jd rfl fun ar=>Jk<|Jq<|J0<|Jr<|Jv rfl<|ab (fG cB ar) rfl<|ab (jt (.of rfl) (eF.Cr aC XZ) rfl) rfl<|Jz rfl rfl fun _ _=>Ja rfl<|aq (.of rfl) (.of rfl) .here rfl rfl (fo rfl rfl rfl) (bF rfl) ak<|Ji<|bP rfl rfl ae<|JL rfl .here rfl<|JL rfl c6 rfl<|ab (EJ (.of rfl) (.of rfl) r6) rfl<|Jv rfl<|JK rfl rfl<|ab (cL bT) rfl<|JK rfl rfl<|JL rfl dO rfl<|JK rfl rfl<|bP rfl rfl ae<|JK rfl rfl<|JL rfl .here rfl<|JK rfl rfl<|ai eK rfl (fun w' aB=>(B2 w' (Mem.keeps aB)))<|JK rfl rfl<|JH rfl<|ab (cP (.of rfl) (.of rfl) (.of rfl) rfl) rfl<|Jv rfl<|gr rfl rfl rfl rfl<|gr rfl rfl rfl rfl<|aA rfl rfl inferInstance (fun hg bB=>(bS (.of rfl) .here ak (by rfl))) rfl<|dC rfl rfl rfl rfl<|aA rfl rfl inferInstance (fun hg bB=>(dV (.bI bB rfl))) rfl<|ab (cP (.of rfl) (.of rfl) (.of rfl) rfl) rfl<|Jn<|bN (.of rfl)<|Jw<|Jj<|Jt<|Jg<|JB rfl (by omega)<|Jv rfl<|Jn ?_)
    apply aJ (k+1) (by omega) (by omega)
    case hs1=>exact cd
    case ht=>
     rw [JX]
     exact .cons (.there .here) (.cons (.there .here) (.cons (.there .here) (.cons (.there .here) .nil)))
   | false =>
    have B2:∀ w',aH fp w w'→aj Tryz.prog 121 [.agg #[.int .i64 r.lv,.int .i64 r.ma,s,d,.slice a r.ti.length cp,p],.int .i64 v,.string (r.ti[k]).nm] w' (.bool false):=fun w' hk=>AM ▸ B1 w' hk
    have hq:B7 r v m k=true:=by unfold B7;rw [xZ,AM,zM,decide_eq_true r6];rfl
    have JX:fm r v m (k+1)=fm r v m k++[k]:=by rw [r8,if_pos hq]
    have UM:(fm r v m (k+1)).length=(fm r v m k).length+1:=by rw [JX];simp
    have T2:=hy _ _ (Ni aK hq)
    rw [zM] at T2
    (refine Jr<|JA rfl<|Jn<|Jq<|Jd rfl fun ar=>Jk<|Jq<|J0<|Jr<|Jv rfl<|ab (fG cB ar) rfl<|ab (jt (.of rfl) (eF.Cr aC XZ) rfl) rfl<|Jz rfl rfl fun _ _=>Ja rfl<|aq (.of rfl) (.of rfl) .here rfl rfl (fo rfl rfl rfl) (bF rfl) ak<|Ji<|bP rfl rfl ae<|JL rfl .here rfl<|JL rfl c6 rfl<|ab (EJ (.of rfl) (.of rfl) r6) rfl<|Jv rfl<|JK rfl rfl<|ab (cL bT) rfl<|JK rfl rfl<|JL rfl dO rfl<|JK rfl rfl<|bP rfl rfl ae<|JK rfl rfl<|JL rfl .here rfl<|JK rfl rfl<|ai eK rfl (fun w' aB=>(B2 w' (Mem.keeps aB)))<|JK rfl rfl<|JH rfl<|ab (eM (.of rfl) (.of rfl) (.of rfl) rfl) rfl<|Jv rfl<|JK rfl rfl<|Jv rfl<|JK rfl rfl<|Jv rfl<|JK rfl rfl<|ab (cL .here) rfl<|JK rfl rfl ?_)
    unfold Ti.cells at T2
    with_reducible apply xj hB hF T2
    case hx=>exact Is.of rfl
    case ha=>exact .cons (.of rfl) (.cons (.of rfl) .nil)
    case hd=>rfl
    case ht=>exact Take.there .here
    intro q
    cases q with
    | false =>
     simp only [cond_false]
     (refine JK rfl rfl<|JH rfl<|ab (eM (.of rfl) (.of rfl) (.of rfl) rfl) rfl<|Jn<|cF (.of rfl)<|Je<|Jm<|Jh<|Jh<|Jm ?_)
     first | with_reducible apply aN | with_reducible apply aO
     case he=>exact pL rfl
     case hR=>
      intro w' aB
      exact aF false trivial (by exact .cons .here (.cons (.there .here) (.cons (.there .here) (.cons (.there .here) .nil)))) aB rfl
    | true =>
     simp only [cond_true]
     (refine JK rfl rfl<|JH rfl<|ab (cP (.of rfl) (.of rfl) (.of rfl) rfl) rfl<|Jn<|bN (.of rfl)<|Jw<|Jj<|Jt<|Jg<|JB rfl (by omega)<|Jv rfl<|Jn ?_)
     apply aJ (k+1) (by omega) (by omega)
     case hs1=>exact cd
     case ht=>
      rw [UM]
      exact .cons .here (.cons (.there .here) (.cons (.there .here) (.cons (.there .here) .nil)))
  ·have hq:B7 r v m k=false:=by unfold B7;rw [zM,decide_eq_false r6];rfl
   have JX:fm r v m (k+1)=fm r v m k:=by rw [r8,if_neg (by rw [hq];decide),ZU]
   (refine Jr<|JA rfl<|Jn<|Jq<|Jd rfl fun ar=>Jk<|Jq<|J0<|Jr<|Jv rfl<|ab (fG cB ar) rfl<|ab (jt (.of rfl) (eF.Cr aC XZ) rfl) rfl<|Jz rfl rfl fun _ _=>Ja rfl<|aq (.of rfl) (.of rfl) .here rfl rfl (fo rfl rfl rfl) (bF rfl) ak<|Ji<|bP rfl rfl ae<|JL rfl .here rfl<|JL rfl c6 rfl<|ab (MP (.of rfl) (.of rfl) r6) rfl<|Jv rfl<|aA rfl rfl inferInstance (fun hg bB=>(bS (.of rfl) bT ak (by rfl))) rfl<|aA rfl rfl inferInstance (fun hg bB=>(ag (.of rfl) (At.lit dO rfl))) rfl<|aA rfl rfl inferInstance (fun hg bB=>(ao (.of rfl) ae)) rfl<|aA rfl rfl inferInstance (fun hg bB=>(ag (.bI bB rfl) (At.lit .here rfl))) rfl<|dC rfl rfl rfl rfl<|aA rfl rfl inferInstance (fun hg bB=>(dV (.bI bB rfl))) rfl<|ab (cP (.of rfl) (.of rfl) (.of rfl) rfl) rfl<|Jv rfl<|gr rfl rfl rfl rfl<|gr rfl rfl rfl rfl<|aA rfl rfl inferInstance (fun hg bB=>(bS (.of rfl) .here ak (by rfl))) rfl<|dC rfl rfl rfl rfl<|aA rfl rfl inferInstance (fun hg bB=>(dV (.bI bB rfl))) rfl<|ab (cP (.of rfl) (.of rfl) (.of rfl) rfl) rfl<|Jn<|bN (.of rfl)<|Jw<|Jj<|Jt<|Jg<|JB rfl (by omega)<|Jv rfl<|Jn ?_)
   apply aJ (k+1) (by omega) (by omega)
   case hs1=>exact cd
   case ht=>
    rw [JX]
    exact .cons (.there .here) (.cons (.there .here) (.cons (.there .here) (.cons (.there .here) .nil)))
 ·obtain rfl:k=r.ti.length:=by omega
  refine Jr<|JA rfl<|Jn<|Jq<|Jc rfl fun ar=>Jp<|Jl<|Jo ?_
  first | with_reducible apply aN | with_reducible apply aO
  case he=>exact pL rfl
  case hR=>
   intro w' aB
   exact aF true trivial (by exact .cons .here (.cons .here (.cons .here (.cons .here .nil)))) aB rfl
theorem Jf (l:List Int):∀ r∈ints l,∀ u∈r,u.oneCell'=true:=fun r hr=>by obtain ⟨x,_,rfl⟩:=Zu.1 hr;exact bJ rfl gm
theorem xX (l:List Int):l.map (Value.int .i64)=(ints l).flatten:=by
 induction l with
 | nil=>rfl
 | cons x l ih=>show [Value.int .i64 x]++l.map (Value.int .i64)=_;rw [ih];rfl
theorem On {lv:Value} {l:List Int} {w:World} (h:Rd w lv 1 (ints l)) (hl:l.length≤1000) :
  bh Tryz.prog 262 [lv] w [] (fun _:Value=>True) id (fun v=>[row 3 1 v l.length (l.map (.int .i64))]):=by
 have h':=h
 obtain ⟨a,cp,b,o,rfl,c7,bQ,ha,hc⟩:=h
 refine aQ Tryz.func262 rfl rfl ?_
 cases a with
 | none =>
  have qi:l=[]:=by
   cases l with
   | nil=>rfl
   | cons x r=>exact absurd (ha (by simp [ints])) (by simp)
  subst qi
  (refine Jr<|Ja rfl<|Jn<|Jq<|Jr<|Jv rfl<|ab (gz (.of rfl) (.of rfl)) rfl<|Jn<|cF (.of rfl)<|Jr<|Ja rfl<|Jn<|Ju ?_)
  refine aP 3 1 ?_
  first | with_reducible apply aN | with_reducible apply aO
  case he=>exact dD rfl rfl
  case hR=>
   intro w' aB
   exact aF (.slice none 0 0) trivial (by exact .cons .here .nil) aB rfl
 | some ad =>
  (refine Jr<|Ja rfl<|Jn<|Jq<|Jr<|Jv rfl<|ab (gz (.of rfl) (.of rfl)) rfl<|Jn<|bN (.of rfl)<|Jk<|Jr<|bo (aD .nil rfl rfl rfl rfl) rfl fun _ _=>Jv rfl ?_)
  rename_i bq mN
  refine bX (g:=bq) (E:=3) (ys:=[]) 0 1 (by exact .here) rfl rfl rfl ?_
  with_reducible apply gV
  case hx=>exact Is.of rfl
  case hy=>exact Is.of rfl
  case ht=>exact .here
  case hsrc=>exact fun w' aB=>h'.keeps aB.keeps
  case h1=>exact Jf l
  case hz=>exact rfl
  case hsz=>exact rfl
  case hb0=>exact rfl
  case hb=>rw [cY];omega
  case hd=>rfl
  intro v'
  rw [cY,← xX,ZB,Za]
  refine Ja rfl<|Jn<|Je ?_
  first | with_reducible apply aN | with_reducible apply aO
  case he=>exact dD rfl rfl
  case hR=>
   intro w' aB
   exact aF v' trivial (by exact .cons .here .nil) aB rfl
theorem uK {P:Program} {c:Cx} {sl:aG} {hs:List a8} {dst:Option Tmp} {ty:TypeId} {pos:String} {af:Array Edge} {g:Option (Nat×Bool)} {t u:TypeId} {x y:Operand} {a b:ByteArray} (hx:Is sl x (.string a)) (hy:Is sl y (.string b)) (e:a=b) :
  cR P c sl hs ⟨dst,.binOp .eql t x y u,ty,pos,af,g⟩ (.bool true):=by
 have:=dS (P:=P) (c:=c) (hs:=hs) (dst:=dst) (ty:=ty) (pos:=pos) (af:=af) (g:=g) (t:=t) (u:=u) hx hy
 rwa [decide_eq_true e] at this
theorem Bt {P:Program} {c:Cx} {sl:aG} {hs:List a8} {dst:Option Tmp} {ty:TypeId} {pos:String} {af:Array Edge} {g:Option (Nat×Bool)} {t u:TypeId} {x y:Operand} {a b:ByteArray} (hx:Is sl x (.string a)) (hy:Is sl y (.string b)) (e:a≠b) :
  cR P c sl hs ⟨dst,.binOp .eql t x y u,ty,pos,af,g⟩ (.bool false):=by
 have:=dS (P:=P) (c:=c) (hs:=hs) (dst:=dst) (ty:=ty) (pos:=pos) (af:=af) (g:=g) (t:=t) (u:=u) hx hy
 rwa [decide_eq_false e] at this
def wU (r:Ro) (v:Int) (so:ByteArray) (i:Nat):Bool:=jq r.po v (gM r i)&&decide (jM r v (gM r i)=so)
def AP (r:Ro) (v:Int) (so:ByteArray) (k:Nat):List Nat:=(List.range k).filter (wU r v so)
theorem vJ (r:Ro) (v:Int) (so:ByteArray) (k:Nat):AP r v so (k+1)=AP r v so k++if wU r v so k then [k] else []:=by
 unfold AP
 rw [List.range_succ,Zbd]
 congr 1
 by_cases h:wU r v so k=true
 ·rw [Zbr h,if_pos h];rfl
 ·rw [List.filter_cons_of_neg h,if_neg h];rfl
def qL (r:Ro) (so:ByteArray):Int:=(r.sr.getD (bE (cC r) so).toNat ⟨⟨#[]⟩,0⟩).mx
def wk (x:Wy):Nat×List Nat:=(x.f,x.p)
def PQ (L:List (Nat×List Nat)) (W:List Wy):Prop:=W.map wk=L∧∀ y∈W,y.v.oneCell'=true
theorem PQ.add {L:List (Nat×List Nat)} {W:List Wy} (h:PQ L W) (y:Wy) (hy:y.v.oneCell'=true):PQ (L++[wk y]) (W++[y]):=by
 refine ⟨by rw [Zr,h.1];rfl,fun z hz=>?_⟩
 rcases Zx.1 hz with hz | hz
 ·exact h.2 z hz
 ·rw [ZK.1 hz];exact hy
theorem Lc (W:List Wy) (y:Wy):iB (W++[y])=mq 3 (W.map Wy.v++[y.v]) ((W.map fun x=>fV x.p)++[fV y.p]):=by unfold iB;rw [Zr,Zr];rfl
theorem yC (W:List Wy) (y:Wy):mL (W++[y])=mL W++[y.v,.int .i64 (y.f:Nat)]:=by rw [LY];rfl
theorem oU {c:Cx} {D:List Nat} {sl:aG} {hs h1 h2:List a8} {X:Act→World→Prop} {W:List Wy} (y:Wy) {n:Nat} {x:List Value} (ht:Take hs (iB W) h1) (ht2:Take h1 (row 3 1 y.v n x) h2) (hn:n=y.p.length) (hx:x=fV y.p)
  (k:Tr c D sl (iB (W++[y])::h2) X):Tr c D sl hs X:=by
 subst hx
 refine kY (vs:=W.map Wy.v) (xs:=W.map fun x=>fV x.p) (v:=y.v) (show Take hs (mq 3 (W.map Wy.v) (W.map fun x=>fV x.p)) h1 from ht) ht2 (by rw [hn];unfold fV;rw [Zd]) (by rw [Zd,Zd]) ?_
 rw [← Lc];exact k
theorem xu {c:Cx} {D:List Nat} {sl:aG} {hs:List a8} {X:Act→World→Prop} (k:Tr c D sl (iB []::hs) X):Tr c D sl hs X:=jI 3 k
set_option maxHeartbeats 1000000 in
theorem La {r:Ro} {s d t p:Value} (v:Int) (so:ByteArray) {w:World} (h:RR w r s d t p) (cI:r.ti.length≤1000) (Ra:so∈cC r) :
  bh Tryz.prog 259 [RA r s d t p,.int .i64 v,.string so] w [] (fun x:Value×List Wy=>PQ ((AP r v so r.ti.length).map (fun i=>(0,[i]))++(fm r v (qL r so) r.ti.length).map (fun i=>(1,[i]))) x.2) (fun x=>x.1)
   (fun x=>[row 244 2 x.1 x.2.length (mL x.2),iB x.2]):=by
 have h1:=Rd.one h.sr
 have h2:=Rd.one h.de
 have h3:=Rd.one h.ti
 have h4:=Rd.one h.po
 have hti:=h.ti
 obtain ⟨a,cp,b,o',rfl,c7,bQ,ha,hc⟩:=hti
 have Q7:=h.sr
 obtain ⟨a2,nN,b2,o2,rfl,ku,fb,jz,j6⟩:=Q7
 rw [bY] at *
 rw [cE] at *
 unfold maxLen at bQ fb
 obtain ⟨i0,wG⟩:∃ i:Nat,bE (cC r) so=(i:Nat):=⟨(bE (cC r) so).toNat,by have:=eC Ra;omega⟩
 have Kh:i0<r.sr.length:=by
  obtain ⟨hl,_⟩:=fE (l:=cC r) (s:=so) (by omega)
  rw [wG,ZG] at hl
  unfold cC at hl;rwa [Zd] at hl
 have zQ:qL r so=(r.sr[i0]).mx:=by unfold qL;rw [wG,ZG,Zk,Zc Kh];rfl
 have Ug:∀ w',aH [] w w'→aj Tryz.prog 180 [.agg #[.int .i64 r.lv,.int .i64 r.ma,.slice a2 r.sr.length nN,d,.slice a r.ti.length cp,p],.string so] w' (.int .i64 (i0:Nat)):=fun w' hk=>wG ▸ nS so (h.keeps hk)
 have hsrc:=Ug
 unfold RA
 refine aQ Tryz.func259 rfl rfl ?_
 (refine Jr<|Jy rfl rfl fun _ _=>Ja rfl<|Ji<|Jz rfl rfl fun _ _=>Jn<|Jq<|Jr<|bP rfl rfl ae<|JL rfl (.there .here) rfl<|JI rfl<|Jv rfl<|Jn<|J0 ?_)
 rename_i b3 vo b7 U5
 refine aP 244 2 ?_
 refine xu ?_
 refine aX (ι:=Nat×Value×List Wy) (fun x=>x.1≤r.ti.length∧PQ ((AP r v so x.1).map (fun i=>(0,[i]))) x.2.2)
  (fun x=>[(14,.int .i64 (x.1:Nat)),(13,.int .i64 (r.ti.length:Nat)),(12,.slice a r.ti.length cp),(7,.pointer (some ⟨b7,0,none⟩)),(3,.pointer (some ⟨b3,0,none⟩)),(1,.int .i64 v),(2,.string so)])
  (fun x=>[bG b7 (.cells #[x.2.1] 329 (0,0)),row 244 2 x.2.1 x.2.2.length (mL x.2.2),iB x.2.2,JP b3 r (.slice a2 r.sr.length nN) d (.slice a r.ti.length cp) p]) (fun x=>r.ti.length-x.1) ?_ ?_
 ·apply aI (0,.slice none 0 0,[]) ⟨Zi _,rfl,fun y hy=>by cases hy⟩
  case hs1=>exact cd
  case ht=>
   exact .cons bT (.cons (.there .here) (.cons .here (.cons .here .nil)))
 rintro ⟨k,wv,W⟩ ⟨hk,hW⟩
 dsimp only at hk hW ⊢
 have Pk:(mL W).length=W.length*2:=oR W
 by_cases aK:k<r.ti.length
 ·have cB:=ha (fq aK)
  have aC:=(hc k _ (eB aK)).2
  unfold Ti.cells at aC
  have zM:=mR aK
  have xZ:gM r k=(r.ti[k]).nm:=by unfold gM;rw [zM]
  have hWk:W.length≤k:=by
   have:=congrArg List.length hW.1
   rw [Zd,Zd] at this
   rw [this]
   have:=Z7 (wU r v so) (List.range k)
   rw [ZaL] at this
   exact this
  have B1:∀ w',aH [] w w'→aj Tryz.prog 121 [.agg #[.int .i64 r.lv,.int .i64 r.ma,.slice a2 r.sr.length nN,d,.slice a r.ti.length cp,p],.int .i64 v,.string (r.ti[k]).nm] w' (.bool (jq r.po v (r.ti[k]).nm)):=fun w' hk=>qx v _ (h.keeps hk)
  have AK:∀ w',aH [] w w'→aj Tryz.prog 126 [.agg #[.int .i64 r.lv,.int .i64 r.ma,.slice a2 r.sr.length nN,d,.slice a r.ti.length cp,p],.int .i64 v,.string (r.ti[k]).nm] w' (.string (jM r v (r.ti[k]).nm)):=fun w' hk=>ph v _ (h.keeps hk) (by omega)
  cases AM:jq r.po v (r.ti[k]).nm with
  | false =>
   have B2:∀ w',aH [] w w'→aj Tryz.prog 121 [.agg #[.int .i64 r.lv,.int .i64 r.ma,.slice a2 r.sr.length nN,d,.slice a r.ti.length cp,p],.int .i64 v,.string (r.ti[k]).nm] w' (.bool false):=fun w' hk=>AM ▸ B1 w' hk
   have hq:wU r v so k=false:=by unfold wU;rw [xZ,AM];rfl
   have JX:AP r v so (k+1)=AP r v so k:=by rw [vJ,if_neg (by rw [hq];decide),ZU]
   (refine Jr<|JA rfl<|Jn<|Jq<|Jd rfl fun ar=>Jk<|Jq<|J0<|Jr<|Jv rfl<|ab (fG cB ar) rfl<|ab (gS (eF.base aC rfl)) rfl<|Jz rfl rfl fun _ _=>Ja rfl<|aq (.of rfl) (.of rfl) .here rfl rfl (fo rfl rfl rfl) (bF rfl) ak<|Ji<|ab (cL dO) rfl<|Jv rfl<|bP rfl rfl ae<|JL rfl .here rfl<|ai eK rfl (fun w' aB=>(B2 w' (Mem.keeps aB)))<|Jv rfl<|aA rfl rfl inferInstance (fun hg bB=>(bS (.of rfl) dO ak (by rfl))) rfl<|gr rfl rfl rfl rfl<|aA rfl rfl inferInstance (fun hg bB=>(ao (.of rfl) ae)) rfl<|aA rfl rfl inferInstance (fun hg bB=>(ag (.bI bB rfl) (At.lit .here rfl))) rfl<|dC rfl rfl rfl rfl<|gr rfl rfl rfl rfl<|dC rfl rfl rfl rfl<|ab (cP (.of rfl) (.of rfl) (.of rfl) rfl) rfl<|Jn<|bN (.of rfl)<|Jw<|Jj<|Jt<|Jg<|JB rfl (by omega)<|Jv rfl<|Jn ?_)
   apply aJ (k+1,wv,W) ⟨show k+1≤r.ti.length by omega,by rw [JX];exact hW⟩ (show r.ti.length-(k+1)<r.ti.length-k by omega)
   case hs1=>exact cd
   case ht=>(try simp only [Ze,Zf,Za]);exact .cons (.there .here) (.cons (.there .here) (.cons (.there .here) (.cons (.there .here) .nil)))
  | true =>
   have B2:∀ w',aH [] w w'→aj Tryz.prog 121 [.agg #[.int .i64 r.lv,.int .i64 r.ma,.slice a2 r.sr.length nN,d,.slice a r.ti.length cp,p],.int .i64 v,.string (r.ti[k]).nm] w' (.bool true):=fun w' hk=>AM ▸ B1 w' hk
   by_cases zN:jM r v (r.ti[k]).nm=so
   ·have hq:wU r v so k=true:=by unfold wU;rw [xZ,AM,decide_eq_true zN];rfl
    have JX:AP r v so (k+1)=AP r v so k++[k]:=by rw [vJ,if_pos hq]
    (refine Jr<|JA rfl<|Jn<|Jq<|Jd rfl fun ar=>Jk<|Jq<|J0<|Jr<|Jv rfl<|ab (fG cB ar) rfl<|ab (gS (eF.base aC rfl)) rfl<|Jz rfl rfl fun _ _=>Ja rfl<|aq (.of rfl) (.of rfl) .here rfl rfl (fo rfl rfl rfl) (bF rfl) ak<|Ji<|ab (cL dO) rfl<|Jv rfl<|bP rfl rfl ae<|JL rfl .here rfl<|ai eK rfl (fun w' aB=>(B2 w' (Mem.keeps aB)))<|Jv rfl<|JK rfl rfl<|ab (cL dO) rfl<|JK rfl rfl<|Jv rfl<|JK rfl rfl<|bP rfl rfl ae<|JK rfl rfl<|JL rfl .here rfl<|JK rfl rfl<|ai eK rfl (fun w' aB=>(AK w' (Mem.keeps aB)))<|JK rfl rfl<|Jv rfl<|JK rfl rfl<|ab (uK (.of rfl) (.of rfl) zN) rfl<|ab (eM (.of rfl) (.of rfl) (.of rfl) rfl) rfl<|Jn<|cF (.of rfl)<|Jg<|JL rfl (.there .here) rfl<|Jv rfl<|bo (aD (.cons (.of rfl) .nil) rfl rfl rfl rfl) rfl fun _ _=>ab (aS (.cons (.of rfl) (.cons (.of rfl) .nil)) ak) rfl<|bo (bu (.cons (.of rfl) .nil) rfl rfl bO bO ak) rfl fun _ _=>?_)
    rename_i b9 YF bq mN bl Pj
    have Kv:=hW.add ⟨.slice (some ⟨bq,0,none⟩) 1 1,[k],0⟩ rfl
    have T7:mL (W++[⟨.slice (some ⟨bq,0,none⟩) 1 1,[k],0⟩])=mL W++[.slice (some ⟨bq,0,none⟩) 1 1,.int .i64 0]:=yC W _
    have T5:(W++[(⟨.slice (some ⟨bq,0,none⟩) 1 1,[k],0⟩:Wy)]).length=W.length+1:=by simp
    refine bH (.of rfl) (.of rfl) dO .here ak (by rfl) (fN rfl rfl) (by rfl) (by rfl) (by rfl) eN (by rfl) ?_
    intro v'
    refine aW (by exact .here) fun a' gQ e=>?_
    subst e
    (refine aq (.of rfl) (.of rfl) dO rfl rfl (eE rfl) (bF rfl) ak<|Jx<|Jj<|Jt<|Jg<|JB rfl (by omega)<|Jv rfl<|Jn ?_)
    refine bX (g:=bq) (E:=3) (ys:=[.int .i64 (k:Nat)]) 1 1 c6 rfl rfl rfl ?_
    refine oU (W:=W) ⟨.slice (some ⟨bq,0,none⟩) 1 1,[k],0⟩ (n:=1) (x:=[.int .i64 (k:Nat)]) fk (by exact .here) rfl rfl ?_
    apply aJ (k+1,.slice a' (W.length+1) gQ,W++[⟨.slice (some ⟨bq,0,none⟩) 1 1,[k],0⟩]) ⟨show k+1≤r.ti.length by omega,by rw [JX,Zr];exact Kv⟩ (show r.ti.length-(k+1)<r.ti.length-k by omega)
    case hs1=>exact cd
    case ht=>
     show bz _ [bG b7 (.cells #[.slice a' (W.length+1) gQ] 329 (0,0)),row 244 2 (.slice a' (W.length+1) gQ) (W++[(⟨.slice (some ⟨bq,0,none⟩) 1 1,[k],0⟩:Wy)]).length (mL (W++[⟨.slice (some ⟨bq,0,none⟩) 1 1,[k],0⟩])),iB (W++[⟨.slice (some ⟨bq,0,none⟩) 1 1,[k],0⟩]),JP b3 r (.slice a2 r.sr.length nN) d (.slice a r.ti.length cp) p] _
     rw [T5,T7]
     exact .cons (.there .here) (.cons (.there .here) (.cons .here (.cons bT .nil)))
   ·have hq:wU r v so k=false:=by unfold wU;rw [xZ,AM,decide_eq_false zN];rfl
    have JX:AP r v so (k+1)=AP r v so k:=by rw [vJ,if_neg (by rw [hq];decide),ZU]
    (refine Jr<|JA rfl<|Jn<|Jq<|Jd rfl fun ar=>Jk<|Jq<|J0<|Jr<|Jv rfl<|ab (fG cB ar) rfl<|ab (gS (eF.base aC rfl)) rfl<|Jz rfl rfl fun _ _=>Ja rfl<|aq (.of rfl) (.of rfl) .here rfl rfl (fo rfl rfl rfl) (bF rfl) ak<|Ji<|ab (cL dO) rfl<|Jv rfl<|bP rfl rfl ae<|JL rfl .here rfl<|ai eK rfl (fun w' aB=>(B2 w' (Mem.keeps aB)))<|Jv rfl<|JK rfl rfl<|ab (cL dO) rfl<|JK rfl rfl<|Jv rfl<|JK rfl rfl<|bP rfl rfl ae<|JK rfl rfl<|JL rfl .here rfl<|JK rfl rfl<|ai eK rfl (fun w' aB=>(AK w' (Mem.keeps aB)))<|JK rfl rfl<|Jv rfl<|JK rfl rfl<|ab (Bt (.of rfl) (.of rfl) zN) rfl<|ab (cP (.of rfl) (.of rfl) (.of rfl) rfl) rfl<|Jn<|bN (.of rfl)<|Jw<|Jj<|Jt<|Jg<|JB rfl (by omega)<|Jv rfl<|Jn ?_)
    apply aJ (k+1,wv,W) ⟨show k+1≤r.ti.length by omega,by rw [JX];exact hW⟩ (show r.ti.length-(k+1)<r.ti.length-k by omega)
    case hs1=>exact cd
    case ht=>(try simp only [Ze,Zf,Za]);exact .cons (.there .here) (.cons (.there .here) (.cons (.there .here) (.cons (.there .here) .nil)))
 ·obtain rfl:k=r.ti.length:=by omega
  refine Jr<|JA rfl<|Jn<|Jq<|Jc rfl fun ar=>Jp<|Jl<|Jo<|Jt<|Jq<|Jq ?_
  have tx:=jz (iJ Kh)
  have dZ:=(j6 i0 _ (fQ Kh)).2
  unfold Sr.cells at dZ
  have SZ:=dZ 1 _ rfl
  with_reducible refine en 10 (by kernel_rfl) ?_
  (refine aL (cL c6) rfl<|ly rfl rfl<|oO rfl rfl ae<|aL (gT c6) rfl<|aL (cL c6) rfl<|ly rfl rfl<|gD bd rfl (fun w' aB=>(hsrc w' (Mem.keeps aB)))<|aL (az (.of rfl) (.of rfl) tx (by omega) (by omega) bj) rfl<|oO rfl rfl ae<|aL (ag (.of rfl) (At.base SZ rfl)) rfl ?_)
  with_reducible refine eo ?_
  rw [← zQ]
  with_reducible apply jr
  case hr=>exact eK
  case hd=>rfl
  case ht=>exact bz.nil
  case hc=>
   intro w1 fp aR _ hs1
   obtain rfl:fp=[]:=hs1
   exact rZ (s:=.slice a2 r.sr.length nN) (d:=d) (t:=.slice a r.ti.length cp) (p:=p) v (qL r so) (h.keeps aR.keeps)
  intro y _
  dsimp only [id_eq,Zb,Za]
  refine Jn<|J0 ?_
  have rI:(fm r v (qL r so) r.ti.length).length≤r.ti.length:=by
   have:=Z7 (B7 r v (qL r so)) (List.range r.ti.length)
   rw [ZaL] at this
   exact this
  have iP:(AP r v so r.ti.length).length≤r.ti.length:=by
   have:=Z7 (wU r v so) (List.range r.ti.length)
   rw [ZaL] at this
   exact this
  refine jh (ps:=[51,52]) (f:=240) (first:=[]) (cap:=[.pointer (some ⟨y.1,0,none⟩),.pointer (some ⟨y.2.1,0,none⟩),.pointer (some ⟨y.2.2,0,none⟩)]) (ι:=Value×List Wy) (κ:=Empty) (rst:=[JP b3 r (.slice a2 r.sr.length nN) d (.slice a r.ti.length cp) p]) ?hg
   [JP y.1 r (.slice a2 r.sr.length nN) d (.slice a r.ti.length cp) p,bG y.2.1 (.cells #[.int .i64 (qL r so)] 3 (0,0)),bG y.2.2 (.cells #[.int .i64 v] 3 (0,0))] (LD r v (qL r so)) ?hit
   (fun k x=>PQ ((AP r v so r.ti.length).map (fun i=>(0,[i]))++((fm r v (qL r so) r.ti.length).take k).map (fun i=>(1,[i]))) x.2)
   (fun x=>[bG b7 (.cells #[x.1] 329 (0,0)),row 244 2 x.1 x.2.length (mL x.2),iB x.2])
   (fun _=>False) (fun _=>[]) (fun _=>.ret) (wv,W) (by rw [Ze,Zf,ZU];exact hW) ?ht ?hlen ?hps ?round ?kn ?kj
  case hg=>exact Is.of rfl
  case hit=>intro w' aB;exact IU v (qL r so) h RO.nil (by omega)
  case ht=>
   dsimp only [Zb,Za]
   exact .cons c6 (.cons c6 (.cons c6 (.cons .here (.cons .here (.cons .here .nil)))))
  case hlen=>intro vs oB;obtain ⟨x,_,rfl⟩:=Zu.1 oB;rfl
  case hps=>intro t ht;simp only [ZR,Zq,or_false] at ht;rcases ht with rfl | rfl <;> exact Zav rfl
  case kj=>intro y;cases y
  case kn=>
   rintro ⟨wv,W⟩ D hq
   dsimp only [Zb,Za] at hq ⊢
   rw [tV,ZL] at hq
   refine aW (E:=244) (sz:=2) (by exact Take.there .here) fun va vc e=>?_
   subst e
   refine Jj<|Jt<|Jr<|JL rfl .here rfl<|Ja rfl<|Jn<|Je ?_
   first | with_reducible apply aN | with_reducible apply aO
   case he=>exact dD rfl rfl
   case hR=>
    intro w' aB
    exact aF (.slice va W.length vc,W) hq (by exact .cons (.there .here) (.cons (.there .here) .nil)) aB rfl
  case round=>
   rintro l2 rc W2 Vs k ⟨wv,W⟩ vs hsz hk hq hB hF
   dsimp only at hq
   obtain ⟨i,hi,rfl,iw,Wv⟩:=DB hk
   obtain ⟨v8,Kj⟩:=Zl.1 hi
   have htk:(fm r v (qL r so) r.ti.length).take (k+1)=(fm r v (qL r so) r.ti.length).take k++[i]:=by rw [Zn v8,Kj]
   have Pk:(mL W).length=W.length*2:=oR W
   have hWk:W.length≤2000:=by
    have:=congrArg List.length hq.1
    rw [Zd,Zg,Zd,Zd,Zp] at this
    omega
   dsimp only [Ti.cells,List.zip_cons_cons,List.zip_nil_right,l5,Zb,Za]
   refine Jg<|Ja rfl<|Jn ?_
   with_reducible apply mm
   case ht=>exact .here
   refine aW (E:=244) (sz:=2) bT fun v1 v2 e=>?_
   subst e
   (refine J0<|Jg<|JL rfl (.there .here) rfl<|Jv rfl<|bo (aD (.cons (.of rfl) .nil) rfl rfl rfl rfl) rfl fun _ _=>ab (aS (.cons (.of rfl) (.cons (.of rfl) .nil)) ak) rfl<|bo (bu (.cons (.of rfl) .nil) rfl rfl bO bO ak) rfl fun _ _=>?_)
   rename_i bq mN bl Pj
   have Kv:=hq.add ⟨.slice (some ⟨bq,0,none⟩) 1 1,[i],1⟩ rfl
   have T7:mL (W++[⟨.slice (some ⟨bq,0,none⟩) 1 1,[i],1⟩])=mL W++[.slice (some ⟨bq,0,none⟩) 1 1,.int .i64 1]:=yC W _
   have T5:(W++[(⟨.slice (some ⟨bq,0,none⟩) 1 1,[i],1⟩:Wy)]).length=W.length+1:=by simp
   refine bH (.of rfl) (.of rfl) dO .here ak (by rfl) (fN rfl rfl) (by rfl) (by rfl) (by rfl) eN (by rfl) ?_
   intro v'
   refine aW (by exact .here) fun a' gQ e=>?_
   subst e
   (refine aq (.of rfl) (.of rfl) dO rfl rfl (eE rfl) (bF rfl) ak<|Jx<|Jj ?_)
   refine bX (g:=bq) (E:=3) (ys:=[.int .i64 (i:Nat)]) 1 1 c6 rfl rfl rfl ?_
   refine oU (W:=W) ⟨.slice (some ⟨bq,0,none⟩) 1 1,[i],1⟩ (n:=1) (x:=[.int .i64 (i:Nat)]) fk (by exact .here) rfl rfl ?_
   apply lJ (.slice a' (W.length+1) gQ,W++[⟨.slice (some ⟨bq,0,none⟩) 1 1,[i],1⟩])
   case ht=>exact dO
   case hx=>
    show PQ _ _
    rw [htk,Zr,← Zh]
    exact Kv
   case h2=>
    show bz _ [bG b7 (.cells #[.slice a' (W.length+1) gQ] 329 (0,0)),row 244 2 (.slice a' (W.length+1) gQ) (W++[(⟨.slice (some ⟨bq,0,none⟩) 1 1,[i],1⟩:Wy)]).length (mL (W++[⟨.slice (some ⟨bq,0,none⟩) 1 1,[i],1⟩])),iB (W++[⟨.slice (some ⟨bq,0,none⟩) 1 1,[i],1⟩])] _
    rw [T5,T7]
    exact .cons (.there .here) (.cons (.there .here) (.cons .here .nil))
def wV (r:Ro) (v:Int) (so:ByteArray):List (Nat×List Nat):=(AP r v so r.ti.length).map (fun i=>(0,[i]))++(fm r v (qL r so) r.ti.length).map (fun i=>(1,[i]))
theorem rM {r:Ro} {so:ByteArray} (h:so∈cC r):jZ r so=qL r so:=by
 unfold jZ qL;rw [if_pos (eC h)]
theorem vK {r:Ro} (hn:pP r) (h:iZ r r.po) (v:Int) (so:ByteArray) (i:Nat):wU r v so i=(fw r r.po v so).ca i:=by
 unfold wU fw
 rw [Am hn h]
theorem qm {r:Ro} (v:Int) (so:ByteArray) (m:Int) (i:Nat):B7 r v m i=(decide ((fw r r.po v so).fr i=m)&&(fw r r.po v so).fe i):=rfl
theorem K5 {r:Ro} {v:Int} {so:ByteArray} {i:Nat} (h:(fw r r.po v so).ca i=true):(fw r r.po v so).fe i=false:=by
 unfold fw at h ⊢
 simp only [Zm] at h
 simp [h.1]
theorem Fe (N:Wn) (i:Nat):N.tB [i]=if N.fe i then 1 else 0:=by
 unfold Wn.tB
 cases h:N.fe i <;> simp [h]
theorem Kx (N:Wn) (p:List Nat) {i:Nat} (h:N.fe i=true):N.tB (p++[i])=N.tB p+1:=by
 unfold Wn.tB
 rw [List.countP_append]
 simp [h]
theorem HK (N:Wn) (j:Nat):N.step [] j=(decide (j<N.n)&&(N.ca j||(N.fe j&&decide (N.fr j=N.Ef)))):=by
 unfold Wn.step;simp [Wn.N5];rfl
theorem step_cons (N:Wn) {x:List Nat} (h:x≠[]) (j:Nat):N.step x j=(decide (j<N.n)&&(!x.contains j&&(N.fe j&&decide (N.fr j=N.fin x)))):=by
 unfold Wn.step
 cases x with
 | nil=>exact absurd rfl h
 | cons a l=>simp
theorem Lb {r:Ro} (hn:pP r) (h:iZ r r.po) (v:Int) {so:ByteArray} (hs:so∈cC r) (q:List Nat):q∈(wV r v so).map Prod.snd↔q∈(fw r r.po v so).exts []:=by
 unfold wV Wn.exts Wn.SQ
 rw [Zr,Zx,ZaF,ZaF]
 simp only [Zu,Za,Function.comp,Zv,ZT,AP,fm]
 have bb:∀ j,(fw r r.po v so).step [] j=true↔j<r.ti.length∧(wU r v so j=true∨B7 r v (qL r so) j=true):=fun j=>by
  rw [HK,vK hn h,qm v so]
  have e0:(fw r r.po v so).Ef=qL r so:=rM hs
  rw [e0]
  simp only [Zm,ZP,decide_eq_true_eq]
  constructor
  ·rintro ⟨h1,h2 | ⟨h3,h4⟩⟩
   ·exact ⟨h1,.inl h2⟩
   ·exact ⟨h1,.inr ⟨h4,h3⟩⟩
  ·rintro ⟨h1,h2 | ⟨h3,h4⟩⟩
   ·exact ⟨h1,.inl h2⟩
   ·exact ⟨h1,.inr ⟨h4,h3⟩⟩
 constructor
 ·rintro (⟨j,⟨h1,h2⟩,rfl⟩ | ⟨j,⟨h1,h2⟩,rfl⟩)
  ·exact ⟨j,⟨h1,(bb j).2 ⟨h1,.inl h2⟩⟩,rfl⟩
  ·exact ⟨j,⟨h1,(bb j).2 ⟨h1,.inr h2⟩⟩,rfl⟩
 ·rintro ⟨j,⟨h1,h2⟩,rfl⟩
  rcases ((bb j).1 h2).2 with h3 | h3
  ·exact .inl ⟨j,⟨h1,h3⟩,rfl⟩
  ·exact .inr ⟨j,⟨h1,h3⟩,rfl⟩
theorem Su {r:Ro} (hn:pP r) (h:iZ r r.po) (v:Int) {so:ByteArray} {x:Nat×List Nat} (hx:x∈wV r v so):x.1=(fw r r.po v so).tB x.2:=by
 unfold wV at hx
 rcases Zx.1 hx with hx | hx
 ·obtain ⟨i,hi,rfl⟩:=Zu.1 hx
  have:=(Zv.1 hi).2
  rw [vK hn h] at this
  rw [Fe,K5 this];rfl
 ·obtain ⟨i,hi,rfl⟩:=Zu.1 hx
  have:=(Zv.1 hi).2
  rw [qm v so,Zm] at this
  rw [Fe,this.2];rfl
theorem Oz {r:Ro} (hn:pP r) (h:iZ r r.po) (v:Int) {so:ByteArray} (h6:r.ti.length≤6):(fw r r.po v so).wt ((wV r v so).map Prod.snd)≤1957:=by
 have e:(wV r v so).map Prod.snd=(AP r v so r.ti.length++fm r v (qL r so) r.ti.length).map (fun i=>([]:List Nat)++[i]):=by
  unfold wV
  rw [Zr,ZaF,ZaF,Zr];rfl
 rw [e,Wn.CP]
 have hl:(AP r v so r.ti.length++fm r v (qL r so) r.ti.length).length≤r.ti.length:=by
  refine kT _ _ ?_ ?_
  ·rw [ZF]
   refine ⟨List.nodup_range.filter _,List.nodup_range.filter _,?_⟩
   intro a ha b hb e
   subst e
   have h1:=(Zv.1 ha).2
   have h2:=(Zv.1 hb).2
   rw [vK hn h] at h1
   rw [qm v so,Zm] at h2
   rw [K5 h1] at h2
   cases h2.2
  ·intro x hx
   rcases Zx.1 hx with hx | hx <;> exact ZT.1 (Zv.1 hx).1
 have hN:(fw r r.po v so).n=r.ti.length:=rfl
 rw [hN]
 generalize (AP r v so r.ti.length++fm r v (qL r so) r.ti.length).length=k at hl
 generalize r.ti.length=n at hl h6
 have:∀ n,n≤6→n*pA (n-1)≤1957:=by decide
 exact ZY (Z9 _ hl) (by simpa using this n h6)
theorem GP {r:Ro} {v:Int} {so:ByteArray} {x:List Nat} (hx:x≠[]):(fw r r.po v so).exts x=((fm r v ((fw r r.po v so).fin x) r.ti.length).filter fun i=>!x.contains i).map fun i=>x++[i]:=by
 unfold Wn.exts Wn.SQ fm
 rw [Zbx]
 congr 1
 apply ZaX
 intro j hj
 have l8:=ZT.1 hj
 rw [step_cons _ hx,qm v so]
 have:decide (j<(fw r r.po v so).n)=true:=decide_eq_true l8
 rw [this,Zaq]
 congr 1
 exact Bool.and_comm _ _
theorem TY {r:Ro} {v:Int} {so:ByteArray} (p q:List Nat):(fw r r.po v so).lt p q=wl ((fw r r.po v so).tB p,p) ((fw r r.po v so).tB q,q):=rfl
def nM (r:Ro) (de:ByteArray):Int:=(r.de.getD (bE (cy r) de).toNat ⟨⟨#[]⟩,0,false⟩).mx
theorem KM {r:Ro} {de:ByteArray} (h:de∈cy r):kq r de=nM r de:=by
 unfold kq nM;rw [if_pos (eC h)]
structure py (N:Wn) (dm:Int) (Q ko:List Wy):Prop where
 sub:∀ x∈Q,x∈ko
 one:∀ x∈ko,x.v.oneCell'=true
 tB:∀ x∈Q,x.f=N.tB x.p
 inv:N.Inv dm (Q.map Wy.p)
 DZ:N.wt (Q.map Wy.p)≤1957
theorem py.len {N:Wn} {dm:Int} {Q ko:List Wy} (h:py N dm Q ko):Q.length≤1957:=by
 have:=N.Hj (Q.map Wy.p)
 rw [Zd] at this
 exact ZY this h.DZ
theorem py.begin {r:Ro} (hn:pP r) (hv:iZ r r.po) (v:Int) {so de:ByteArray} (hs:so∈cC r) (h6:r.ti.length≤6) (hne:qL r so≠nM r de) {W:List Wy} (hW:PQ (wV r v so) W):py (fw r r.po v so) (nM r de) W W:=by
 have hp:W.map Wy.p=(wV r v so).map Prod.snd:=by rw [← hW.1,ZaF];rfl
 refine ⟨fun _ h=>h,hW.2,fun x hx=>?_,?_,?_⟩
 ·have:wk x∈wV r v so:=by rw [← hW.1];exact Z0 hx
  exact Su hn hv v this
 ·refine Wn.Gp (by rw [show (fw r r.po v so).Ef=jZ r so from rfl,rM hs];exact hne) fun q=>?_
  rw [hp];exact Lb hn hv v hs q
 ·rw [hp];exact Oz hn hv v h6
theorem py.perm {N:Wn} {dm:Int} {Q Q' ko:List Wy} (h:py N dm Q ko) (hp:Q'.Perm Q):py N dm Q' ko:=by
 have hm:=hp.map Wy.p
 refine ⟨fun x hx=>h.sub x (hp.mem_iff.1 hx),h.one,fun x hx=>h.tB x (hp.mem_iff.1 hx),⟨fun q hq=>h.inv.ok q (hm.mem_iff.1 hq),fun p h1 h2=>?_⟩,by rw [Wn.Eo hm];exact h.DZ⟩
 obtain ⟨q,hq,h3⟩:=h.inv.cover p h1 h2
 exact ⟨q,hm.mem_iff.2 hq,h3⟩
theorem py.found {r:Ro} {v:Int} {so:ByteArray} {dm:Int} {x:Wy} {R ko:List Wy} (h:py (fw r r.po v so) dm (x::R) ko) (hs:(x::R).Pairwise (fun x y=>wl (y.f,y.p) (x.f,x.p)=false)) (hf:(fw r r.po v so).fin x.p=dm):(fw r r.po v so).least dm x.p:=by
 refine Wn.Gn h.inv (by simp) (fun q hq=>?_) hf
 obtain ⟨y,hy,rfl⟩:=Zu.1 hq
 rw [TY,← h.tB x (by simp),← h.tB y hy]
 rcases ZR.1 hy with rfl | hy
 ·exact w8 _
 ·exact (ZaS.1 hs).1 y hy
theorem py.next {r:Ro} {v:Int} {so:ByteArray} {dm:Int} {x:Wy} {R W ko nG:List Wy} (h:py (fw r r.po v so) dm (x::R) ko) (hf:(fw r r.po v so).fin x.p≠dm) (iN:∀ y∈R++W,y∈nG) (fa:∀ y∈nG,y.v.oneCell'=true)
  (hW:W.map wk=((fm r v ((fw r r.po v so).fin x.p) r.ti.length).filter fun i=>!x.p.contains i).map fun i=>(x.f+1,x.p++[i])):py (fw r r.po v so) dm (R++W) nG∧(fw r r.po v so).wt ((R++W).map Wy.p)<(fw r r.po v so).wt ((x::R).map Wy.p):=by
 have hx:=h.inv.ok x.p (by simp)
 have hWp:W.map Wy.p=(fw r r.po v so).exts x.p:=by
  rw [GP hx.2]
  have:=congrArg (fun l=>l.map Prod.snd) hW
  simp only [ZaF] at this
  exact this
 have aK:(fw r r.po v so).wt ((R++W).map Wy.p)<(fw r r.po v so).wt ((x::R).map Wy.p):=by
  rw [Zr,hWp,Wn.w7,Z8,Wn.wt]
  have:=Wn.LZ hx.1
  omega
 refine ⟨⟨iN,fa,fun y hy=>?_,?_,ZY (Nat.le_of_lt aK) h.DZ⟩,aK⟩
 ·rcases Zx.1 hy with hy | hy
  ·exact h.tB y (ZV _ hy)
  ·have h1:wk y∈W.map wk:=Z0 hy
   rw [hW] at h1
   obtain ⟨i,hi,e⟩:=Zu.1 h1
   have e1:x.f+1=y.f:=congrArg Prod.fst e
   have e2:x.p++[i]=y.p:=congrArg Prod.snd e
   have h2:=(Zv.1 (Zv.1 hi).1).2
   rw [qm v so,Zm] at h2
   rw [← e1,← e2,Kx _ _ h2.2,h.tB x (by simp)]
 ·rw [Zr,hWp]
  refine Wn.I9 h.inv (fun q=>?_) hf
  rw [Z8,ZR]
end Go.Proofs.A1
