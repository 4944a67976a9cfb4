/- Parts of the proof: KE KF KV GkOff GkSortK TryzSortF KG KH KI. -/
import Derived.Test.YteonnodafmegaaaGreatDoorCM06
import Derived.Test.YteonnodafmegaaaGreatDoorCM04
import Derived.Test.YteonnodafmegaaaGreatDoorCM03
import Derived.Test.YteonnodafmegaaaGreatDoorCM02
import Derived.ArgAppend
import Derived.Shelf.SlSortCmp.WholeK
import Derived.Shelf.SlSortCmp.NoneTotal
import Derived.Shelf.SlicesG.Cmp
import Derived.Ground.SlsfProg
import Derived.Ground.SlgcProg
import Derived.Ground.NamesProg
import Derived.Ground.Names2Prog
import Derived.Test.YteonnodafmegaaaGreatDoorProg
set_option linter.unusedSectionVars false
set_option linter.unusedVariables false
set_option linter.unusedSimpArgs false
namespace Go.Proofs.A1
open Go Go.SL
open Tryz
open Tryz renaming prog->T_
theorem eA {w w':World} {a:Addr} {v:Value} {md:List Nat} (h:w.cell? a=some v) (hs:a.spot=none) (hn:a.block ∉ md) (hk:aD md w w'):w'.cell? a=some v:=by
 have hb:=World.block_lt_of_cell? w a h;obtain ⟨b,o,s⟩:=a;subst hs;have:=hk.block b hb hn;rw [<- h];simp [World.cell?,this]
theorem KJ {q:Bool} {o:ByteArray} {f:FuncId} {first cap:List Value} [bU T_ f] {b5:Nat} {w:World} (f5:w.cell? ⟨b5,0,none⟩=some (.func (.func f) first.toArray cap.toArray))
  (cn:∀ w',aD [] w w'->aj T_ f (first++[.string o]++cap) w' (.bool q)) :
  aj T_ 225 [.string o,.pointer (some ⟨b5,0,none⟩)] w (.bool (!q)):=by
 refine ah func225 I I ?_
 (refine Jr<|Ja I<|Ji<|ab (ag (.of I) (At.base f5 I)) I ?_;refine Jv I ?_)
 refine ai bN I (fun w' aq=>cn w' aq.keeps) ?_;refine JH I<|Ja I<|Jn<|Je<|JT ?_
 rfl
theorem DR {lv:Value} {l:List Ti} {q:ByteArray->Bool} {f:FuncId} {first cap:List Value} [bU T_ f] {w:World} (h:Rd w lv 3 (u9 l)) (hn:l.length<=1000000)
  (cn:∀ o w',aD [] w w'->aj T_ f (first++[.string o]++cap) w' (.bool (q o))) :
  bh T_ 118 [lv,.func (.func 119) #[] #[],.func (.func f) first.toArray cap.toArray] w [] (fun _:Value=>True) id (fun v=>[row 9 1 v ((l.map Ti.nm).filter q).length (aM ((l.map Ti.nm).filter q))]):=by
 have BZ:=Rd.one h;refine aR func118 I I ?_;refine Jr<|Jy I I fun _ _=>Ja I<|Ji<|Jv I<|Jv I ?_;rename_i b5 G0;refine JN aX I (fun w1 aS=>EO (f:=119) (first:=[]) (cap:=[]) (g:=Ti.nm) (h.keeps aS.keeps) hn (fun x _ w2 _=>Dl x w2)) ?_
 intro nv _;dsimp only [id_eq,Zb,Za];refine ab (bo .nil (.cons (.of I) .nil)) I ?_
 with_reducible apply gp (As:=[row 9 1 nv l.length (aM (l.map Ti.nm))])
 case hr=>exact aX
 case hd=>rfl
 case ht=>exact oA
 case hc=>
  intro w1 AS aS vQ hs1 CF kU;have h5:b5 ∉ AS:=kU b5 _ _ (by exact .here);have f5:w1.cell? ⟨b5,0,none⟩=some (.func (.func f) first.toArray cap.toArray):=At.lit (by exact Take.there .here) I w1 aS
  exact Kx (f:=225) (p:=fun o=>!q o) (first:=[]) (cap:=[.pointer (some ⟨b5,0,none⟩)]) vQ hs1 (by rw [Zd]) hn
   (fun o _ w2 eR=>KJ (eA f5 I h5 eR) (fun w3 XE=>cn o w3 ((aS.keeps.over (fun b hb=>CF b hb) eR).trans XE)))
 intro v' _;dsimp only [id_eq,Zb,Za];simp only [Bool.not_not];refine Ja I<|Jn<|Je ?_
 first | with_reducible apply aN | with_reducible apply aO
 case he=>exact dJ I I
 case hR=>
  intro w' aq;exact aG v' trivial (by exact .cons .here .nil) aq I
theorem KK {q:Bool} {o:ByteArray} {f:FuncId} {first cap:List Value} [bU T_ f] {b5:Nat} {w:World} (f5:w.cell? ⟨b5,0,none⟩=some (.func (.func f) first.toArray cap.toArray))
  (cn:∀ w',aD [] w w'->aj T_ f (first++[.string o]++cap) w' (.bool q)) :
  aj T_ 226 [.string o,.pointer (some ⟨b5,0,none⟩)] w (.bool (!q)):=by
 refine ah func226 I I ?_
 (refine Jr<|Ja I<|Ji<|ab (ag (.of I) (At.base f5 I)) I ?_;refine Jv I ?_)
 refine ai bN I (fun w' aq=>cn w' aq.keeps) ?_;refine JH I<|Ja I<|Jn<|Je<|JT ?_
 rfl
theorem DS {lv:Value} {l:List De} {q:ByteArray->Bool} {f:FuncId} {first cap:List Value} [bU T_ f] {w:World} (h:Rd w lv 3 (wq l)) (hn:l.length<=1000000)
  (cn:∀ o w',aD [] w w'->aj T_ f (first++[.string o]++cap) w' (.bool (q o))) :
  bh T_ 123 [lv,.func (.func 124) #[] #[],.func (.func f) first.toArray cap.toArray] w [] (fun _:Value=>True) id (fun v=>[row 9 1 v ((l.map De.nm).filter q).length (aM ((l.map De.nm).filter q))]):=by
 have BZ:=Rd.one h;refine aR func123 I I ?_;refine Jr<|Jy I I fun _ _=>Ja I<|Ji<|Jv I<|Jv I ?_;rename_i b5 G0;refine JN aX I (fun w1 aS=>EP (f:=124) (first:=[]) (cap:=[]) (g:=De.nm) (h.keeps aS.keeps) hn (fun x _ w2 _=>Dm x w2)) ?_
 intro nv _;dsimp only [id_eq,Zb,Za];refine ab (bo .nil (.cons (.of I) .nil)) I ?_
 with_reducible apply gp (As:=[row 9 1 nv l.length (aM (l.map De.nm))])
 case hr=>exact aX
 case hd=>rfl
 case ht=>exact oA
 case hc=>
  intro w1 AS aS vQ hs1 CF kU;have h5:b5 ∉ AS:=kU b5 _ _ (by exact .here);have f5:w1.cell? ⟨b5,0,none⟩=some (.func (.func f) first.toArray cap.toArray):=At.lit (by exact Take.there .here) I w1 aS
  exact Kx (f:=226) (p:=fun o=>!q o) (first:=[]) (cap:=[.pointer (some ⟨b5,0,none⟩)]) vQ hs1 (by rw [Zd]) hn
   (fun o _ w2 eR=>KK (eA f5 I h5 eR) (fun w3 XE=>cn o w3 ((aS.keeps.over (fun b hb=>CF b hb) eR).trans XE)))
 intro v' _;dsimp only [id_eq,Zb,Za];simp only [Bool.not_not];refine Ja I<|Jn<|Je ?_
 first | with_reducible apply aN | with_reducible apply aO
 case he=>exact dJ I I
 case hR=>
  intro w' aq;exact aG v' trivial (by exact .cons .here .nil) aq I
theorem On {r:Ro} {s d t p:Value} (v:Int) (o:ByteArray) {b1 b2:Nat} {w:World} (h:RR w r s d t p) (hA:BR w b1 (RC r s d t p)) (f2:w.cell? ⟨b2,0,none⟩=some (.int .i64 v)) :
  aj T_ 120 [.string o,.pointer (some ⟨b1,0,none⟩),.pointer (some ⟨b2,0,none⟩)] w (.bool (gC r.po v o)):=by
 obtain ⟨h1,h2,h3,h4⟩:=h.one;have kp:∀ (j:Nat) (u:Value),[Value.int .i64 r.lv,.int .i64 r.ma,s,d,t,p][j]? = some u->w.cell? ⟨b1,0+j,none⟩=some u:=hA;refine ah func120 I I ?_
 (refine Jr<|Ja I<|Ji<|ab (iI (eU.base kp I)) I ?_;refine ab (ag (.of I) (At.base f2 I)) I ?_;refine Jv I ?_)
 refine ai dH I (fun w' aq=>pz v o (h.keeps aq.keeps)) ?_;refine Ja I<|Jn<|Je<|JT ?_
 rfl
theorem Hj {r:Ro} {s d t p:Value} (v:Int) (o so:ByteArray) {b1 b2 b3:Nat} {w:World} (h:RR w r s d t p) (cL:r.ti.length<=1000000) (hA:BR w b1 (RC r s d t p)) (f2:w.cell? ⟨b2,0,none⟩=some (.int .i64 v)) (f3:w.cell? ⟨b3,0,none⟩=some (.string so)) :
  aj T_ 125 [.string o,.pointer (some ⟨b1,0,none⟩),.pointer (some ⟨b2,0,none⟩),.pointer (some ⟨b3,0,none⟩)] w (.bool (decide (jX r v o=so))):=by
 obtain ⟨h1,h2,h3,h4⟩:=h.one;have kp:∀ (j:Nat) (u:Value),[Value.int .i64 r.lv,.int .i64 r.ma,s,d,t,p][j]? = some u->w.cell? ⟨b1,0+j,none⟩=some u:=hA;refine ah func125 I I ?_;refine Jr<|Ja I<|Jn<|Jq ?_
 with_reducible refine cW 6 (by kernel_rfl) ?_
 (refine aA (iI (eU.base kp I)) I ?_;refine aA (ag (.of I) (At.base f2 I)) I ?_;refine iv I I ?_;refine c6 dH I (fun w' aq=>(nb v o (RR.keeps h (Mem.keeps aq)) cL)) ?_;refine aA (ag (.of I) (At.base f3 I)) I ?_;refine aA (eh (.of I) (.of I)) I ?_)
 with_reducible refine cZ ?_
 refine Ja I<|Jn<|Je<|JT ?_
 rfl
def KU (r:Ro) (v:Int):Int:=aV [gB r,BI r v]
def GN (r:Ro) (v:Int):List ByteArray:=if KU r v≠0 then [] else (cd r).filter (gC r.po v)
theorem Sq {r:Ro} {s d t p:Value} (v:Int) {w:World} (h:RR w r s d t p) (cL:np r):bh T_ 23 [RA r s d t p,.int .i64 v] w [] (fun _:Value=>True) (fun x=>.tuple #[x,.int .i64 (KU r v)]) (fun x=>[row 9 1 x (GN r v).length (aM (GN r v))]):=by
 obtain ⟨h1,h2,h3,h4⟩:=h.one;have jk:∀ w',aD [] w w'->aj T_ 34 [.agg #[.int .i64 r.lv,.int .i64 r.ma,s,d,t,p]] w' (.int .i64 (gB r)):=fun w' hk=>eN (h.keeps hk) cL
 have hle:∀ w',aD [] w w'->aj T_ 114 [.agg #[.int .i64 r.lv,.int .i64 r.ma,s,d,t,p],.int .i64 v] w' (.int .i64 (BI r v)):=fun w' hk=>kY v (h.keeps hk)
 unfold RA;refine aR func23 I I ?_;refine Jr<|Jy I I fun _ _=>Jy I I fun _ _=>Ja I<|Ja I<|Jn<|Jq<|Jq ?_;rename_i b2 uh b3 tQ
 with_reducible refine cC 6 (by kernel_rfl) ?_
 (refine ak (cr (.there .here)) I ?_;refine aQ bN I (fun w' aq=>(jk w' (Mem.keeps aq))) ?_;refine ak (cr (.there .here)) I ?_;refine ak (gD .here) I ?_;refine aQ aX I (fun w' aq=>(hle w' (Mem.keeps aq))) ?_;refine dX (aB (.cons (.of I) (.cons (.of I) .nil)) I I I I) I I ?_)
 with_reducible refine cY I fun bq mA=>?_
 (refine ai bN I (fun w' aq=>(dF (Mem.df aq .here I I) (bQ.cons (bQ.cons bQ.nil)))) ?_;refine Ja I<|Ji<|Jv I<|JD I<|Jn<|gl I (fun ar=>?_) fun ar=>?_;refine Jr<|Jv I<|Ja I<|Ja I<|Jn<|Ju ?_;rotate_left;refine Jk<|Jr<|bK I I ae ?_;refine JL I bT I<|ab (bo .nil (.cons (.of I) (.cons (.of I) .nil))) I ?_;rotate_right)
 ·have e1:GN r v=[]:=if_pos ar;rw [e1];refine aP 9 1 ?_
  first | with_reducible apply aN | with_reducible apply aO
  case he=>exact fW I I I
  case hR=>
   intro w' aq;exact aG (.slice none 0 0) trivial (by exact .cons .here .nil) aq I
 have e1:GN r v=(r.ti.map Ti.nm).filter (gC r.po v):=if_neg ar;have e0:aV [gB r,BI r v]=0:=Decidable.not_not.1 ar;have e2:KU r v=0:=e0;rw [e1,e2]
 with_reducible apply jh
 case hr=>exact dH
 case hd=>rfl
 case ht=>exact bn.nil
 case hc=>
  intro w1 fp aS _ hs1;obtain rfl:fp=[]:=hs1;have hA:BR w1 b2 [.int .i64 r.lv,.int .i64 r.ma,s,d,t,p]:=BR.of aS bT;have f2:w1.cell? ⟨b3,0,none⟩=some (.int .i64 v):=At.lit (by exact Take.there .here) I w1 aS;have hR:=h.keeps aS.keeps
  exact DR (f:=120) (q:=gC r.po v) (first:=[]) (cap:=[.pointer (some ⟨b2,0,none⟩),.pointer (some ⟨b3,0,none⟩)]) hR.ti (by have:=cL.2.2;omega)
   (fun o w2 eR=>On v o (hR.keeps eR) (hA.keeps eR) (cy f2 I eR))
 intro x _;dsimp only [id_eq,Zb,Za];refine Ja I<|Ja I<|Jn<|Je ?_
 first | with_reducible apply aN | with_reducible apply aO
 case he=>exact fW I I I
 case hR=>
  intro w' aq;exact aG x trivial (by exact .cons .here .nil) aq I
def Hl (r:Ro) (v:Int) (so:ByteArray):Int:=aV [gB r,BI r v,Lk r so]
def FD (r:Ro) (v:Int) (so:ByteArray):List ByteArray:=if Hl r v so≠0 then [] else (cz r).filter fun o=>decide (jX r v o=so)
theorem Ov {r:Ro} {s d t p:Value} (v:Int) (so:ByteArray) {w:World} (h:RR w r s d t p) (cL:np r):bh T_ 24 [RA r s d t p,.int .i64 v,.string so] w [] (fun _:Value=>True) (fun x=>.tuple #[x,.int .i64 (Hl r v so)]) (fun x=>[row 9 1 x (FD r v so).length (aM (FD r v so))]):=by
 obtain ⟨h1,h2,h3,h4⟩:=h.one;have jk:∀ w',aD [] w w'->aj T_ 34 [.agg #[.int .i64 r.lv,.int .i64 r.ma,s,d,t,p]] w' (.int .i64 (gB r)):=fun w' hk=>eN (h.keeps hk) cL
 have hle:∀ w',aD [] w w'->aj T_ 114 [.agg #[.int .i64 r.lv,.int .i64 r.ma,s,d,t,p],.int .i64 v] w' (.int .i64 (BI r v)):=fun w' hk=>kY v (h.keeps hk)
 have uP:∀ w',aD [] w w'->aj T_ 122 [.agg #[.int .i64 r.lv,.int .i64 r.ma,s,d,t,p],.string so] w' (.int .i64 (Lk r so)):=fun w' hk=>qE so (h.keeps hk)
 unfold RA;refine aR func24 I I ?_;refine Jr<|Jy I I fun _ _=>Jy I I fun _ _=>Jy I I fun _ _=>Ja I<|Ja I<|Jn<|Jq<|Jq ?_;rename_i b2 uh b3 tQ b4 uQ
 with_reducible refine cC 9 (by kernel_rfl) ?_
 (refine ak (cr bT) I ?_;refine aQ bN I (fun w' aq=>(jk w' (Mem.keeps aq))) ?_;refine ak (cr bT) I ?_;refine ak (gD (.there .here)) I ?_;refine aQ aX I (fun w' aq=>(hle w' (Mem.keeps aq))) ?_;refine ak (cr bT) I ?_;refine ak (gD .here) I ?_;refine aQ aX I (fun w' aq=>(uP w' (Mem.keeps aq))) ?_;refine dX (aB (.cons (.of I) (.cons (.of I) (.cons (.of I) .nil))) I I I I) I I ?_)
 with_reducible refine cY I fun bq mA=>?_
 (refine ai bN I (fun w' aq=>(dF (Mem.df aq .here I I) (bQ.cons (bQ.cons (bQ.cons bQ.nil))))) ?_;refine Ja I<|Ji<|Jv I<|JD I<|Jn<|gl I (fun ar=>?_) fun ar=>?_;refine Jr<|Jv I<|Ja I<|Ja I<|Jn<|Ju ?_;rotate_left;refine Jk<|Jr<|bK I I ae ?_;refine JL I db I<|ab (bo .nil (.cons (.of I) (.cons (.of I) (.cons (.of I) .nil)))) I ?_;rotate_right)
 ·have e1:FD r v so=[]:=if_pos ar;rw [e1];refine aP 9 1 ?_
  first | with_reducible apply aN | with_reducible apply aO
  case he=>exact fW I I I
  case hR=>
   intro w' aq;exact aG (.slice none 0 0) trivial (by exact .cons .here .nil) aq I
 have e1:FD r v so=(r.de.map De.nm).filter (fun o=>decide (jX r v o=so)):=if_neg ar
 have e0:aV [gB r,BI r v,Lk r so]=0:=Decidable.not_not.1 ar;have e2:Hl r v so=0:=e0;rw [e1,e2]
 with_reducible apply jh
 case hr=>exact dH
 case hd=>rfl
 case ht=>exact bn.nil
 case hc=>
  intro w1 fp aS _ hs1;obtain rfl:fp=[]:=hs1;have hA:BR w1 b2 [.int .i64 r.lv,.int .i64 r.ma,s,d,t,p]:=BR.of aS db;have f2:w1.cell? ⟨b3,0,none⟩=some (.int .i64 v):=At.lit bT I w1 aS;have f3:w1.cell? ⟨b4,0,none⟩=some (.string so):=At.lit (by exact Take.there .here) I w1 aS;have hR:=h.keeps aS.keeps
  exact DS (f:=125) (q:=fun o=>decide (jX r v o=so)) (first:=[]) (cap:=[.pointer (some ⟨b2,0,none⟩),.pointer (some ⟨b3,0,none⟩),.pointer (some ⟨b4,0,none⟩)]) hR.de (by have:=cL.2.1;omega)
   (fun o w2 eR=>Hj v o so (hR.keeps eR) (by have:=cL.2.2;omega) (hA.keeps eR) (cy f2 I eR) (cy f3 I eR))
 intro x _;dsimp only [id_eq,Zb,Za];refine Ja I<|Ja I<|Jn<|Je ?_
 first | with_reducible apply aN | with_reducible apply aO
 case he=>exact fW I I I
 case hR=>
  intro w' aq;exact aG x trivial (by exact .cons .here .nil) aq I
theorem zC {vs:List Value}:∀ {cs cur:List Value} {o:Nat},o+vs.length<=cs.length->setCells (cs++cur) o vs=setCells cs o vs++cur:=by
 induction vs with
 | nil=>intro cs cur o _;rfl
 | cons v vs ih =>
  intro cs cur o h;simp only [List.length_cons] at h;rw [setCells,setCells,List.set_append_left _ _ (by omega),ih (by simp;omega)]
theorem xl {cs vs:List Value} (h:vs.length=cs.length):setCells cs 0 vs=vs:=by
 apply List.ext_getElem?;intro k;rw [iL _ _ _ _ (by omega)];by_cases hk:k<vs.length
 ·rw [if_pos (by omega),Nat.sub_zero]
 ·rw [if_neg (by omega),List.getElem?_eq_none (by omega),List.getElem?_eq_none (by omega)]
theorem Mh {n sz i:Nat} {f:Nat->List Value} {vs:List Value} (hf:∀ i,i<n->(f i).length=sz) (hi:i<n) (hv:vs.length=sz):setCells (tq n f) (i*sz) vs=tq n (fun k=>if k=i then vs else f k):=by
 have:=Mg (o:=0) hf hi (by omega:0+vs.length<=sz);rw [Nat.add_zero] at this;rw [this];apply mN;intro k _;show (if k=i then _ else _)=(if k=i then _ else _)
 split
 ·exact xl (by rw [hf i hi,hv])
 ·rfl
def swp (B:Nat->ByteArray) (m k:Nat):Nat->ByteArray:=fun x=>if x<k\/m-k<=x then B (m-1-x) else B x
def s1 (B:Nat->ByteArray):Nat->List Value:=fun i=>[.string (B i)]
theorem oJ (B:Nat->ByteArray) (m:Nat):∀ i,i<m->(s1 B i).length=1:=fun _ _=>rfl
theorem HV {B:Nat->ByteArray} {m i:Nat} (cur:List Value) (h:i<m):(tq m (s1 B)++cur)[i*1]? = some (.string (B i)):=by
 have hl:=ix (oJ B m);rw [List.getElem?_append_left (by rw [hl];omega)];exact zx (j:=0) (oJ B m) h (by omega)
theorem HU {B C:Nat->ByteArray} {m i:Nat} {v:ByteArray} (cur:List Value) (h:i<m) (hC:∀ k,k<m->C k=if k=i then v else B k):setCells (tq m (s1 B)++cur) (i*1) [.string v]=tq m (s1 C)++cur:=by
 have hl:=ix (oJ B m);rw [zC (by rw [hl];simp;omega),Mh (oJ B m) h I];congr 1;apply mN;intro k hk;unfold s1;rw [hC k hk];split <;> rfl
set_option maxHeartbeats 4000000 in
theorem H2 {w:World} {fp:List Nat} {v:Value} {m:Nat} {B:Nat->ByteArray} (hm:0<m) (adl:m<=1000000) (hn:fp.Nodup) (hs:ch (hp w) [row 9 1 v m (tq m (s1 B))] fp) :
  bh T_ 117 [v] w fp (fun _:Unit=>True) (fun _=>.tuple #[]) (fun _=>[row 9 1 v m (tq m (s1 fun i=>B (m-1-i)))]):=by
 refine er func117 I I hn hs ?_;refine c7 (by exact .here) hm ?_;rintro g cap cur rfl c8 xy hsz OZ;have hlen:=ix (oJ B m);refine Jr<|Jv I<|JI I<|JS I (by omega)<|Ja I<|Ja I<|Jn<|J0 ?_;refine aY (fun k:Nat=>2*k<=m) (fun k=>[(2,.int .i64 k),(3,.int .i64 ((m-1-k:Nat):Int)),(0,.slice (some ⟨g,0,none⟩) m cap)]) (fun k=>[bC g (.cells (tq m (s1 (swp B m k))++cur).toArray 9 (0,0))]) (fun k=>m-2*k) ?_ ?_
 ·apply aK 0 (by omega)
  case hs1=>exact .cons I (.KG I (by congr 1;omega) (.cons I .nil))
  case ht=>
   rw [show tq m (s1 (swp B m 0))=tq m (s1 B) from mN fun i hi=>by unfold s1 swp;rw [if_neg (by omega)]]
   exact .cons .here .nil
 intro k hk;have wZ:=ix (oJ (swp B m k) m);by_cases aL:k<m-1-k
 ·have hj:m-1-k<m:=by omega
  have JZ:k<m:=by omega
  have c1:=HV (B:=swp B m k) cur JZ;have c2:=HV (B:=swp B m k) cur hj;have J9:=HU (C:=fun i=>if i=k then swp B m k (m-1-k) else swp B m k i) cur JZ (v:=swp B m k (m-1-k)) (B:=swp B m k) fun i _=>rfl
  have Ru:=HU (C:=swp B m (k+1)) cur hj (v:=swp B m k k) (B:=fun i=>if i=k then swp B m k (m-1-k) else swp B m k i) fun i hi=>by
   symm;unfold swp;by_cases e1:i=m-1-k
   ·subst e1;rw [if_pos I,if_neg (by omega),if_pos (by omega)];congr 1;omega
   ·rw [if_neg e1];by_cases e2:i=k
    ·subst e2;rw [if_pos I,if_neg (by omega),if_pos (by omega)]
    ·rw [if_neg e2];by_cases e3:i<k\/m-k<=i
     ·rw [if_pos e3,if_pos (by omega)]
     ·rw [if_neg e3,if_neg (by omega)]
  have tR:k*1+1<=(tq m (s1 (swp B m k))++cur).length:=by rw [Zg,wZ];omega
  have uh:(m-1-k)*1+1<=(tq m (s1 (fun i=>if i=k then swp B m k (m-1-k) else swp B m k i))++cur).length:=by rw [Zg,ix (oJ _ m)];omega
  refine Jq<|Jr<|Jv I<|Jv I<|JA I<|Jn<|Jd I fun ar=>Jk<|Jq<|J0 ?_
  with_reducible refine L8 16 I ?_
  (refine eW 0 I mD mD mD (fun w ρ=>rfl) (fun w=>(aZ (.of I))) I ?_;refine eW 1 I mD mD mD (fun w ρ=>rfl) (fun w=>(aZ (.of I))) I ?_;refine eW 2 I mD mD mD (fun w ρ=>rfl) (fun w=>(aZ (.of I))) I ?_;refine eW 3 I mD mD mD (fun w ρ=>rfl) (fun w=>(aZ (.of I))) I ?_;refine eW 4 I mD mD mD (fun w ρ=>rfl) (fun w=>(aZ (.of I))) I ?_;refine eW 5 I mD mD mD (fun w ρ=>rfl) (fun w=>(aZ (.of I))) I ?_;refine eW 6 I mD mD mD (fun w ρ=>rfl) (fun w=>(az (.of I) (.of I) I (by omega) (by omega) ba)) I ?_;refine eW 8 I mD mD mD (fun w ρ=>rfl) (fun w=>(aZ (.of I))) I ?_;refine eW 9 I mD mD mD (fun w ρ=>rfl) (fun w=>(aZ (.of I))) I ?_;refine eW 10 I mD mD mD (fun w ρ=>rfl) (fun w=>(az (.of I) (.of I) I (by omega) (by omega) ba)) I ?_)
  refine cU (rs:=[7,11]) (by kernel_rfl) (by simp) (List.forall_mem_cons.2 ⟨?_,List.forall_mem_cons.2 ⟨?_,fun _ h=>absurd h List.not_mem_nil⟩⟩)
  ·refine dj I ?_
   (refine ab (ag (.of I) (At.lP .here c2)) I ?_;refine Jn ?_)
   ·refine cU (rs:=[11]) (by kernel_rfl) (by simp) (List.forall_mem_cons.2 ⟨?_,fun _ h=>absurd h List.not_mem_nil⟩);refine dj I ?_
    (refine ab (ag (.of I) (At.lP .here c1)) I ?_;refine Jn ?_)
    refine eW 12 I mD mD mD (fun w ρ=>rfl) (fun w=>(az (.of I) (.of I) I (by omega) (by omega) ba)) I ?_;refine cU (rs:=[13]) (by kernel_rfl) (by simp) (List.forall_mem_cons.2 ⟨?_,fun _ h=>absurd h List.not_mem_nil⟩);refine dj I ?_
    with_reducible apply au
    case hx=>exact Is.of I
    case hy=>exact Is.of I
    case ht=>exact .here
    case hv=>exact I
    case hl=>rfl
    case h1=>exact bJ I gO
    case h2=>exact tR
    case he=>exact J9
    refine Jn ?_;refine eW 14 I mD mD mD (fun w ρ=>rfl) (fun w=>(az (.of I) (.of I) I (by omega) (by omega) ba)) I ?_;refine cU (rs:=[15]) (by kernel_rfl) (by simp) (List.forall_mem_cons.2 ⟨?_,fun _ h=>absurd h List.not_mem_nil⟩);refine dj I ?_
    with_reducible apply au
    case hx=>exact Is.of I
    case hy=>exact Is.of I
    case ht=>exact .here
    case hv=>exact I
    case hl=>rfl
    case h1=>exact bJ I gO
    case h2=>exact uh
    case he=>exact Ru
    refine Jn ?_
    with_reducible refine dp (by kernel_rfl) ?_
    refine Jj<|Jt<|Jg<|Jv I<|JB I (by omega)<|Jv I<|JS I (by omega)<|Ja I<|Ja I<|Jn ?_;apply aJ (k+1) (by omega) (by omega)
    case hs1=>exact .cons I (.KG I (by congr 1;omega) (.cons I .nil))
    case ht=>exact oA
  ·refine dj I ?_
   (refine ab (ag (.of I) (At.lP .here c1)) I ?_;refine Jn ?_)
   ·refine cU (rs:=[7]) (by kernel_rfl) (by simp) (List.forall_mem_cons.2 ⟨?_,fun _ h=>absurd h List.not_mem_nil⟩);refine dj I ?_
    (refine ab (ag (.of I) (At.lP .here c2)) I ?_;refine Jn ?_)
    refine eW 12 I mD mD mD (fun w ρ=>rfl) (fun w=>(az (.of I) (.of I) I (by omega) (by omega) ba)) I ?_;refine cU (rs:=[13]) (by kernel_rfl) (by simp) (List.forall_mem_cons.2 ⟨?_,fun _ h=>absurd h List.not_mem_nil⟩);refine dj I ?_
    with_reducible apply au
    case hx=>exact Is.of I
    case hy=>exact Is.of I
    case ht=>exact .here
    case hv=>exact I
    case hl=>rfl
    case h1=>exact bJ I gO
    case h2=>exact tR
    case he=>exact J9
    refine Jn ?_;refine eW 14 I mD mD mD (fun w ρ=>rfl) (fun w=>(az (.of I) (.of I) I (by omega) (by omega) ba)) I ?_;refine cU (rs:=[15]) (by kernel_rfl) (by simp) (List.forall_mem_cons.2 ⟨?_,fun _ h=>absurd h List.not_mem_nil⟩);refine dj I ?_
    with_reducible apply au
    case hx=>exact Is.of I
    case hy=>exact Is.of I
    case ht=>exact .here
    case hv=>exact I
    case hl=>rfl
    case h1=>exact bJ I gO
    case h2=>exact uh
    case he=>exact Ru
    refine Jn ?_
    with_reducible refine dp (by kernel_rfl) ?_
    refine Jj<|Jt<|Jg<|Jv I<|JB I (by omega)<|Jv I<|JS I (by omega)<|Ja I<|Ja I<|Jn ?_;apply aJ (k+1) (by omega) (by omega)
    case hs1=>exact .cons I (.KG I (by congr 1;omega) (.cons I .nil))
    case ht=>exact oA
 ·have Xd:tq m (s1 (swp B m k))=tq m (s1 fun i=>B (m-1-i)):=mN fun i hi=>by
   unfold s1 swp;by_cases e:i<k\/m-k<=i
   ·rw [if_pos e]
   ·rw [if_neg e];show [Value.string (B i)]=[Value.string (B (m-1-i))];rw [show m-1-i=i by omega]
  rw [Xd];have E2:=ix (oJ (fun i=>B (m-1-i)) m)
  refine dx (n:=m) (cap:=cap) (sz:=1) (show Take _ (bC g (.cells ((tq m (s1 fun i=>B (m-1-i)))++cur).toArray 9 (0,0))) _ by exact .here) c8 xy (by rw [Zg,E2];rw [Zg,OZ] at hsz;omega) E2 ?_;refine Jq<|Jr<|Jv I<|Jv I<|JA I<|Jn<|Jc I fun ar=>Jp<|Jl<|Jo ?_
  first | with_reducible apply aN | with_reducible apply aO
  case he=>exact qD I
  case hR=>
   intro w' aq;exact aG () trivial (by exact .cons .here .nil) aq I
theorem Ev (l:List ByteArray):aM l=tq l.length (s1 fun i=>l.getD i ⟨#[]⟩):=by
 rw [CT];apply List.ext_getElem?;intro k;have h1:((List.range l.length).map (s1 fun i=>l.getD i ⟨#[]⟩)).flatten=(List.range l.length).map fun i=>Value.string (l.getD i ⟨#[]⟩):=by
  have:=lr ((List.range l.length).map fun i=>Value.string (l.getD i ⟨#[]⟩))
  rw [List.map_map] at this;exact this
 rw [h1];unfold aM;by_cases h:k<l.length
 ·simp [h,List.getD_eq_getElem?_getD]
 ·simp [h]
theorem Mj (l:List ByteArray):aM l.reverse=tq l.length (s1 fun i=>l.getD (l.length-1-i) ⟨#[]⟩):=by
 rw [Ev,List.length_reverse];apply mN;intro i hi;show [Value.string (l.reverse.getD i ⟨#[]⟩)]=[Value.string (l.getD (l.length-1-i) ⟨#[]⟩)];rw [List.getD_eq_getElem?_getD,List.getD_eq_getElem?_getD,List.getElem?_reverse hi]
theorem C3 {w:World} {fp:List Nat} {v:Value} {l:List ByteArray} {n:Nat} (hl:n=l.length) (hm:n<=1000000) (hn:fp.Nodup) (hs:ch (hp w) [row 9 1 v n (aM l)] fp) :
  bh T_ 117 [v] w fp (fun _:Unit=>True) (fun _=>.tuple #[]) (fun _=>[row 9 1 v n (aM l.reverse)]):=by
 subst hl;by_cases h0:0<l.length
 ·rw [Ev] at hs;rw [Mj];exact H2 h0 hm hn hs
 ·obtain rfl:l=[]:=List.eq_nil_of_length_eq_zero (by omega);show bh T_ 117 [v] w fp (fun _:Unit=>True) (fun _=>.tuple #[]) (fun _=>[row 9 1 v 0 []])
  replace hs:ch (hp w) [row 9 1 v 0 []] fp:=hs
  refine er func117 I I hn hs ?_;refine aW (E:=9) (sz:=1) (by exact .here) fun a cp e=>?_;subst e;refine Jr<|Jv I<|JI I<|JS I (by omega)<|Ja I<|Ja I<|Jn<|J0 ?_;refine aY (fun _:Nat=>True) (fun k=>[(2,.int .i64 0),(3,.int .i64 (-1)),(0,.slice a 0 cp)]) (fun k=>[row 9 1 (.slice a 0 cp) 0 []]) (fun k=>k) ?_ ?_
  ·apply aK 0 trivial
   case hs1=>exact cj
   case ht=>exact oA
  intro k _;refine Jq<|Jr<|Jv I<|Jv I<|JA I<|Jn<|Jc I fun ar=>Jp<|Jl<|Jo ?_
  first | with_reducible apply aN | with_reducible apply aO
  case he=>exact qD I
  case hR=>
   intro w' aq;exact aG () trivial (by exact .cons .here .nil) aq I
theorem K4 {r:Ro} {s d t p:Value} (v:Int) (o:ByteArray) {y:Nat×Nat×Nat} {w:World} {fp:List Nat} (jf:fp.Nodup) (hs:ch (hp w) [bC y.1 (.cells #[.string o] 9 (0,0)),JP y.2.1 r s d t p,bC y.2.2 (.cells #[.int .i64 v] 3 (0,0))] fp)
  (h:RR w r s d t p) (hO:RO fp r s d t p) (cL:r.ti.length<=1000000) :
  bh T_ 221 [.slice none 0 0,.func (.func 222) #[] #[.pointer (some ⟨y.1,0,none⟩),.pointer (some ⟨y.2.1,0,none⟩),.pointer (some ⟨y.2.2,0,none⟩)]] w fp (fun _:Value=>True) id (fun v1=>[row 9 1 v1 (fh r.po v (r.ti.length+1) o).length (aM (fh r.po v (r.ti.length+1) o))]):=by
 have hlen:=kd r.po v (r.ti.length+1) o;refine er func221 I I jf hs ?_;refine Jr<|Jy I I fun _ _=>Ja I<|Jn<|Jq<|Jr<|Jv I<|Jn<|J0 ?_;rename_i b2 uh;refine aP 9 1 ?_
 refine jt (ps:=[7]) (f:=222) (first:=[]) (cap:=[.pointer (some ⟨y.1,0,none⟩),.pointer (some ⟨y.2.1,0,none⟩),.pointer (some ⟨y.2.2,0,none⟩)]) (ι:=Nat×Value) (κ:=Empty) (rst:=[]) ?hg
  [bC y.1 (.cells #[.string o] 9 (0,0)),JP y.2.1 r s d t p,bC y.2.2 (.cells #[.int .i64 v] 3 (0,0))] (xu r.po v (r.ti.length+1) o) ?hit
  (fun k x=>x.1=k/\k<=(fh r.po v (r.ti.length+1) o).length)
  (fun x=>[bC b2 (.cells #[x.2] 32 (0,0)),row 9 1 x.2 x.1 (aM ((fh r.po v (r.ti.length+1) o).take x.1))])
  (fun _=>False) (fun _=>[]) (fun _=>.ret) (0,.slice none 0 0) ⟨I,Zi _⟩ ?ht ?hlen ?hps ?round ?kn ?kj
 case hg=>exact Is.of I
 case hit=>intro w' aq;exact Dg v o h hO cL
 case ht=>
  exact .cons (.there .here) (.cons .here (.cons .here (.cons .here (.cons .here .nil))))
 case hlen=>intro vs o6;obtain ⟨x,_,rfl⟩:=List.mem_map.1 o6;rfl
 case hps=>intro t ht;simp only [List.mem_cons,List.not_mem_nil,or_false] at ht;subst ht;exact Nat.le_of_ble_eq_true rfl
 case kj=>intro y;cases y
 case kn=>
  rintro ⟨n,v1⟩ D ⟨hq,_⟩;dsimp only [Zb,Za] at hq ⊢;rw [rK] at hq;subst hq;rw [List.take_length];refine Jj<|Jt<|Jr<|JL I .here I<|Ja I<|Jn<|Je ?_;refine aW (E:=9) (sz:=1) (by exact Take.there .here) fun va vc e=>?_;subst e
  skip
  first | with_reducible apply aN | with_reducible apply aO
  case he=>exact dJ I I
  case hR=>
   intro w' aq;exact aG (.slice va (fh r.po v (r.ti.length+1) o).length vc) trivial (by exact .cons (.there .here) .nil) aq I
 case round=>
  rintro l2 rc W UW k ⟨n,v1⟩ vs hsz hk ⟨hq,Ny⟩ hB hF;dsimp only at hq;subst hq;obtain ⟨a,hit,rfl,B1⟩:=Dd hk;obtain ⟨aL,J7⟩:=List.getElem?_eq_some_iff.1 B1;have htk:aM ((fh r.po v (r.ti.length+1) o).take (n+1))=aM ((fh r.po v (r.ti.length+1) o).take n)++[.string a]:=by rw [List.take_succ_eq_append_getElem aL,J7,eQ];rfl
  have wZ:(aM ((fh r.po v (r.ti.length+1) o).take n)).length=n*1:=by rw [dd,List.length_take_of_le (by omega),Nat.mul_one]
  dsimp only [List.zip_cons_cons,List.zip_nil_right,mq,Zb,Za];refine Jg<|Ja I<|Jn ?_
  with_reducible apply mL
  case ht=>exact .here
  refine aW (E:=9) (sz:=1) bT fun v1 v2 e=>?_;subst e;refine J0<|Jg<|JL I (.there .here) I<|Jv I<|bb (aB (.cons (.of I) .nil) I I I I) I fun _ _=>?_;refine bE (.of I) (.of I) db .here an (by rfl) (eF I) (by rfl) (by rfl) (by rfl) eV (by rfl) ?_;intro v';refine aW (by exact .here) fun a' iu e=>?_;subst e
  (refine au (.of I) (.of I) db I I (eF I) (bF I) an ?_;refine Jx<|Jj ?_)
  apply lT (n+1,.slice a' (n+1) iu)
  case ht=>exact db
  case hx=>exact ⟨I,aL⟩
  case h2=>
   show bn _ [bC b2 (.cells #[.slice a' (n+1) iu] 32 (0,0)),row 9 1 (.slice a' (n+1) iu) (n+1) (aM ((fh r.po v (r.ti.length+1) o).take (n+1)))] _;rw [htk];exact .cons .here (.cons .here .nil)
theorem KH {r:Ro} {s d t p:Value} (v:Int) (o:ByteArray) {y:Nat×Nat×Nat} {w:World} {fp:List Nat} (jf:fp.Nodup) (hs:ch (hp w) [bC y.1 (.cells #[.string o] 9 (0,0)),JP y.2.1 r s d t p,bC y.2.2 (.cells #[.int .i64 v] 3 (0,0))] fp)
  (h:RR w r s d t p) (hO:RO fp r s d t p) (cL:r.ti.length<=1000000) :
  bh T_ 115 [.func (.func 222) #[] #[.pointer (some ⟨y.1,0,none⟩),.pointer (some ⟨y.2.1,0,none⟩),.pointer (some ⟨y.2.2,0,none⟩)]] w fp (fun _:Value=>True) id (fun v1=>[row 9 1 v1 (fh r.po v (r.ti.length+1) o).length (aM (fh r.po v (r.ti.length+1) o))]):=by
 refine er func115 I I jf hs ?_;refine Jr<|Ja I<|Ji<|Jv I ?_
 with_reducible apply gp (As:=[bC y.1 (.cells #[.string o] 9 (0,0)),JP y.2.1 r s d t p,bC y.2.2 (.cells #[.int .i64 v] 3 (0,0))])
 case hr=>exact aX
 case hd=>rfl
 case ht=>exact oA
 case hc=>
  intro w1 AS aS vQ hs1 CF _;exact K4 v o vQ hs1 (h.jH hO aS.keeps) (h.out hO CF) cL
 intro v1 _;dsimp only [id_eq,Zb,Za];refine Ja I<|Jn<|Je ?_
 first | with_reducible apply aN | with_reducible apply aO
 case he=>exact dJ I I
 case hR=>
  intro w' aq;exact aG v1 trivial (by exact .cons .here .nil) aq I
def Hq (r:Ro) (v:Int) (o:ByteArray):Int:=aV [gB r,BI r v,tW r o]
def P5 (r:Ro) (v:Int) (o:ByteArray):List ByteArray:=if fh r.po v (r.ti.length+1) o=[] then [] else (fh r.po v (r.ti.length+1) o).reverse++[o]
def FH (r:Ro) (v:Int) (o:ByteArray):List ByteArray:=if Hq r v o≠0 then [] else P5 r v o
theorem Ow {r:Ro} {s d t p:Value} (v:Int) (o:ByteArray) {w:World} (h:RR w r s d t p) (cL:np r):bh T_ 22 [RA r s d t p,.int .i64 v,.string o] w [] (fun _:Value=>True) (fun x=>.tuple #[x,.int .i64 (Hq r v o)]) (fun x=>[row 9 1 x (FH r v o).length (aM (FH r v o))]):=by
 obtain ⟨h1,h2,h3,h4⟩:=h.one;have ael:=cL.2.2;have jk:∀ w',aD [] w w'->aj T_ 34 [.agg #[.int .i64 r.lv,.int .i64 r.ma,s,d,t,p]] w' (.int .i64 (gB r)):=fun w' hk=>eN (h.keeps hk) cL
 have hle:∀ w',aD [] w w'->aj T_ 114 [.agg #[.int .i64 r.lv,.int .i64 r.ma,s,d,t,p],.int .i64 v] w' (.int .i64 (BI r v)):=fun w' hk=>kY v (h.keeps hk)
 have lM:∀ w',aD [] w w'->aj T_ 112 [.agg #[.int .i64 r.lv,.int .i64 r.ma,s,d,t,p],.string o] w' (.int .i64 (tW r o)):=fun w' hk=>eG o (h.keeps hk)
 unfold RA;refine aR func22 I I ?_;refine Jr<|Jy I I fun _ _=>Ja I<|Ja I<|Jn<|Jq<|Jq ?_;rename_i b3 tQ
 with_reducible refine cC 9 (by kernel_rfl) ?_
 (refine ak (cr .here) I ?_;refine aQ bN I (fun w' aq=>(jk w' (Mem.keeps aq))) ?_;refine ak (cr .here) I ?_;refine ak jP I ?_;refine aQ aX I (fun w' aq=>(hle w' (Mem.keeps aq))) ?_;refine ak (cr .here) I ?_;refine ak jP I ?_;refine aQ aX I (fun w' aq=>(lM w' (Mem.keeps aq))) ?_;refine dX (aB (.cons (.of I) (.cons (.of I) (.cons (.of I) .nil))) I I I I) I I ?_)
 with_reducible refine cY I fun bq mA=>?_
 (refine ai bN I (fun w' aq=>(dF (Mem.df aq .here I I) (bQ.cons (bQ.cons (bQ.cons bQ.nil))))) ?_;refine Ja I<|Ji<|Jv I<|JD I<|Jn<|gl I (fun ar=>?_) fun ar=>?_;refine Jr<|Jv I<|Ja I<|Ja I<|Jn<|Ju ?_;rotate_left;refine Jk<|Jr<|ab (cr (.there .here)) I ?_;refine Jv I<|Jv I ?_;rotate_right)
 ·have e1:FH r v o=[]:=if_pos ar;rw [e1];refine aP 9 1 ?_
  first | with_reducible apply aN | with_reducible apply aO
  case he=>exact fW I I I
  case hR=>
   intro w' aq;exact aG (.slice none 0 0) trivial (by exact .cons .here .nil) aq I
 have e1:FH r v o=P5 r v o:=if_neg ar;have e0:aV [gB r,BI r v,tW r o]=0:=Decidable.not_not.1 ar;have e2:Hq r v o=0:=e0;clear ar;rw [e1,e2];refine JN dH I (fun w1 aS=>vt v o (h.keeps aS.keeps)) ?_;intro y _;dsimp only [id_eq,Zb,Za]
 skip
 with_reducible apply gp (As:=[bC y.1 (.cells #[.string o] 9 (0,0)),JP y.2.1 r s d t p,bC y.2.2 (.cells #[.int .i64 v] 3 (0,0))])
 case hr=>exact bN
 case hd=>rfl
 case ht=>exact oA
 case hc=>
  intro w1 AS aS vQ hs1 CF _;exact KH v o vQ hs1 (h.keeps aS.keeps) (h.out (md:=[]) RO.nil (fun b hb=>CF b hb)) (by omega)
 intro v1 _;have hlen:=kd r.po v (r.ti.length+1) o;dsimp only [id_eq,Zb,Za];refine aW (E:=9) (sz:=1) (by exact .here) fun va vc e=>?_;subst e;unfold P5;generalize hL:fh r.po v (r.ti.length+1) o=L at hlen ⊢
 (refine Ja I<|Jn<|Jq<|Jr<|Jv I<|JI I<|JC I<|Jn<|gl I (fun ar=>?_) fun ar=>?_;refine Jr<|Ja I<|Ja I<|Jn<|Ju ?_;rotate_left;refine Jk<|Jr<|Jv I ?_;rotate_right)
 ·have JR:L=[]:=List.eq_nil_of_length_eq_zero (by omega);rw [if_pos JR];refine aP 9 1 ?_
  first | with_reducible apply aN | with_reducible apply aO
  case he=>exact fW I I I
  case hR=>
   intro w' aq;exact aG (.slice none 0 0) trivial (by exact .cons .here .nil) aq I
 have hnn:¬ L=[]:=fun e=>by rw [e] at ar;exact ar I
 rw [if_neg hnn]
 with_reducible apply gp (As:=[row 9 1 (.slice va L.length vc) L.length (aM L)])
 case hr=>exact bN
 case hd=>rfl
 case ht=>exact oA
 case hc=>
  intro w1 AS aS vQ hs1 CF _;exact C3 I (by omega) vQ hs1
 intro _ _;have a7:aM (L.reverse++[o])=aM L.reverse++[.string o]:=by rw [eQ];rfl
 have hlr:(aM L.reverse).length=L.length*1:=by rw [dd,List.length_reverse,Nat.mul_one]
 have E2:(L.reverse++[o]).length=L.length+1:=by simp
 rw [E2,a7];dsimp only [id_eq,Zb,Za];refine Ji<|Jv I<|Jv I<|bb (aB (.cons (.of I) .nil) I I I I) I fun _ _=>?_;refine bE (.of I) (.of I) (.there .here) .here an (by rfl) (eF I) (by rfl) (by rfl) (by rfl) eV (by rfl) ?_;intro v';refine Ja I<|Ja I<|Jn<|Je ?_
 first | with_reducible apply aN | with_reducible apply aO
 case he=>exact fW I I I
 case hR=>
  intro w' aq;exact aG v' trivial (by exact .cons .here .nil) aq I
theorem F2 {α:Type} {R:α->α->Prop} (ht:∀ a b c,R a b->R b c->R a c):∀ {l:List α},(∀ k (h:k+1<l.length),R l[k] l[k+1])->l.Pairwise R:=by
 intro l h;rw [List.pairwise_iff_getElem];intro i j hi hj yR;obtain ⟨d,rfl⟩:∃ d,j=i+1+d:=⟨j-(i+1),by omega⟩;clear yR
 induction d with
 | zero=>exact h i hj
 | succ d ih=>exact ht _ _ _ (ih (by omega)) (h (i+1+d) hj)
theorem pt {a b c d:Int}:¬ lO [a,b] [c,d]<=0↔c<a\/c=a/\d<b:=by
 unfold lO;by_cases h1:kI a c=0
 ·rw [if_neg (not_not_intro h1)];have:=iO.1 h1;unfold lO;by_cases h2:kI b d=0
  ·rw [if_neg (not_not_intro h2)];have:=iO.1 h2;unfold lO;omega
  ·rw [if_pos h2];unfold kI at h2 ⊢;split at h2 <;> split <;> first | omega | (split <;> omega)
 ·rw [if_pos h1];have xD:a≠c:=fun e=>h1 (iO.2 e)
  unfold kI;split
  ·omega
  ·split <;> omega
theorem IB {r:Ro} (hd:CG r) (h6:r.ti.length<=6):qh r:=by
 obtain ⟨_,_,_,d1,d2,d3⟩:=hd.parts;exact ⟨d1,d2,d3,by unfold cd;rw [Zd];exact h6⟩
structure rb (r:Ro):Prop where
 lim:1<=r.lv/\r.lv<=3/\1<=r.ma/\r.ma<=4
 N3:CG r
 len:r.sr.length<=8/\r.de.length<=8/\r.ti.length<=6
 sm:∀ x∈r.sr,0<=x.mx/\x.mx<r.ma
 dm:∀ x∈r.de,0<=x.mx/\x.mx<r.ma
 tm:∀ x∈r.ti,(0<=x.fr/\x.fr<r.ma)/\(0<=x.to/\x.to<r.ma)/\x.fr≠x.to
 val:jl r r.po
theorem rb.ue {r:Ro} (h:rb r):qh r:=IB h.N3 h.len.2.2
theorem jv {r:Ro} {m:Int}:fq r m=0↔0<=m/\m<r.ma:=by
 unfold fq;rw [bD (by decide)];simp
theorem Iv {r:Ro} (hd:∀ x∈r.de,0<=x.mx) (ht:∀ x∈r.ti,0<=x.fr) {s:ByteArray} (h:0<=j9 r s):s∈cz r\/s∈cd r:=by
 by_cases h1:s∈cz r
 ·exact .inl h1
 ·by_cases h2:s∈cd r
  ·exact .inr h2
  ·unfold j9 at h;have f1:=cq.2 h1;have f2:=cq.2 h2;rw [if_neg (by omega),if_neg (by omega)] at h;omega
theorem IX {r:Ro} {s:ByteArray} (h:0<=jR r s):s∈ct r\/s∈cd r:=by
 by_cases h1:s∈ct r
 ·exact .inl h1
 ·by_cases h2:s∈cd r
  ·exact .inr h2
  ·unfold jR at h;have f1:=cq.2 h1;have f2:=cq.2 h2;rw [if_neg (by omega),if_neg (by omega)] at h;omega
theorem nu {r:Ro} {x:Po} (h:mr r x=0):(0<=x.lv/\x.lv<r.lv)/\0<=j9 r x.ou/\0<=jR r x.ip/\j9 r x.ou=jR r x.ip:=by
 unfold mr at h;rw [bI] at h;have h1:=iJ.1 (h _ List.mem_cons_self);have h2:=(bD (by decide)).1 (h (bG (decide (j9 r x.ou<0)) 10) (by simp));have h3:=(bD (by decide)).1 (h (bG (decide (jR r x.ip<0)) 10) (by simp));have h4:=(bD (by decide)).1 (h (bG (decide (j9 r x.ou≠jR r x.ip)) 24) (by simp));simp only [decide_eq_false_iff_not,ne_eq,Decidable.not_not] at h2 h3 h4;exact ⟨by omega,by omega,by omega,h4⟩
theorem lD {r:Ro} {q:Int->Bool}:j7 r q=false↔∀ v:Int,0<=v->v<r.lv->q v=false:=by
 unfold j7;rw [List.any_eq_false];constructor
 ·intro h v h0 h1;have:=h v.toNat (List.mem_range.2 (by omega));rw [show ((v.toNat:Nat):Int)=v by omega] at this;simpa using this
 ·intro h i hi;have:=List.mem_range.1 hi;rw [h i (by omega) (by omega)];decide
theorem Di {r:Ro} (h:gB r=0):rb r:=by
 obtain ⟨h1,h2,h3,h4⟩:=td h;obtain ⟨kU,hlen,hs,hd,ht⟩:=zR h2;have Zx:∀ x∈r.de,0<=x.mx/\x.mx<r.ma:=fun x hx=>jv.1 (hd x hx)
 have SB:∀ x∈r.ti,(0<=x.fr/\x.fr<r.ma)/\(0<=x.to/\x.to<r.ma)/\x.fr≠x.to:=fun x hx=>by
  have:=ht x hx;unfold n9 at this;rw [bI] at this;have g3:=(bD (by decide)).1 (this (bG (decide (x.fr=x.to)) 24) (by simp));exact ⟨jv.1 (this _ (by simp)),jv.1 (this _ (by simp)),by simpa using g3⟩
 have hp:∀ k (hk:k<r.po.length),mr r r.po[k]=0/\¬ lO [(r.po[k]).lv,eo r (r.po[k]).ou] (DZ r (if k=0 then none else r.po[k-1]?))<=0:=fun k hk=>by
  have:=dN.1 h3 k hk;rw [rJ hk] at this;by_cases e:mr r r.po[k]=0
  ·rw [if_neg (not_not_intro e)] at this;by_cases e2:lO [(r.po[k]).lv,eo r (r.po[k]).ou] (DZ r (if k=0 then none else r.po[k-1]?))<=0
   ·rw [if_pos e2] at this;exact absurd this (by decide)
   ·exact ⟨e,e2⟩
  ·rw [if_pos e] at this;exact absurd this e
 have CB:∀ p∈r.po,mr r p=0:=fun p nQ=>by
  obtain ⟨k,hk,rfl⟩:=List.getElem_of_mem nQ;exact (hp k hk).1
 have JU:∀ p∈r.po,0<=p.lv/\p.lv<r.lv:=fun p nQ=>(nu (CB p nQ)).1
 have hti:(cd r).length=r.ti.length:=by unfold cd;rw [Zd]
 unfold z7 at h4;rw [bI] at h4;have UB:=lD.1 ((bD (by decide)).1 (h4 (bG (j7 r fun v=>r.ti.any (LF r v)) 33) (by simp)))
 have Xr:=lD.1 ((bD (by decide)).1 (h4 (bG (j7 r fun v=>r.ti.any (Iu r v)) 32) (by simp)))
 have Gk:∀ v:Int,¬ (0<=v/\v<r.lv)->∀ o,ep r.po v o=none:=fun v hv o=>iE.2 fun p nQ e=>hv (e.1 ▸ JU p nQ)
 refine ⟨vG h1,kU,hlen,fun x hx=>jv.1 (hs x hx),Zx,SB,?_,JU,?_,?_,?_,?_,?_⟩
 ·refine F2 (R:=fun a b=>qy r a b=true) (fun a b c h h'=>yI h h') fun k hk=>?_;have:=(hp (k+1) hk).2;rw [if_neg (by omega),Nat.add_sub_cancel,Zc (by omega)] at this;have:=pt.1 this;unfold qy;simp only [Bool.or_eq_true,Bool.and_eq_true,decide_eq_true_eq];exact this
 ·exact fun p nQ=>Iv (fun x hx=>(Zx x hx).1) (fun x hx=>(SB x hx).1.1) (nu (CB p nQ)).2.1
 ·exact fun p nQ=>IX (nu (CB p nQ)).2.2.1
 ·exact fun p nQ=>(nu (CB p nQ)).2.2.2
 ·rintro v ⟨t,Gh,hc⟩;rw [hti] at hc;by_cases hv:0<=v/\v<r.lv
  ·obtain ⟨x,hx,rfl⟩:=List.mem_map.1 Gh;have:=List.any_eq_false.1 (UB v hv.1 hv.2) x hx;exact this (ef.2 hc)
  ·rw [wE (Gk v hv t)] at hc;cases hc
 ·intro v t Gh;by_cases hv:0<=v/\v<r.lv
  ·obtain ⟨x,hx,rfl⟩:=List.mem_map.1 Gh;have:=List.any_eq_false.1 (Xr v hv.1 hv.2) x hx;unfold Iu at this;cases h1:gC r.po v x.nm <;> cases h2:nZ r.po v x.nm <;> rw [h1,h2] at this <;> simp at this <;> simp
  ·have e1:gC r.po v t=false:=by unfold gC;rw [Gk v hv t];rfl
   have e2:nZ r.po v t=false:=by
    unfold nZ;rw [List.any_eq_false];intro p nQ e;unfold Af at e;simp only [Bool.and_eq_true,decide_eq_true_eq] at e;exact hv (e.1 ▸ JU p nQ)
   rw [e1,e2]
theorem te {r:Ro} (hn:qh r) (h:jl r r.po) (v:Int) (o:ByteArray):jX r v o=pZ r.po v (ct r) o:=by
 have hti:(cd r).length=r.ti.length:=by unfold cd;rw [Zd]
 have:=GB hn h v o;rw [hti] at this;unfold jX pZ;rw [this];by_cases hm:ib r.po v 7 o∈ct r
 ·have h0:=di hm;obtain ⟨x,hx,e⟩:=List.mem_map.1 hm;rw [if_pos (List.any_eq_true.2 ⟨x,hx,by simpa using e⟩),if_neg (by omega)]
 ·have h0:=cq.2 hm;rw [if_neg (fun e=>by
   obtain ⟨x,hx,e⟩:=List.any_eq_true.1 e;exact hm (List.mem_map.2 ⟨x,hx,by simpa using e⟩)),if_pos h0]
end Go.Proofs.A1
namespace Go.SL
open Go
def kN (E:TypeId) (sz:Nat) (v:Value) (n:Nat) (xs:List Value):a8 where
 sat h fp:=xs.length=n*sz/\((fp=[]/\v=.slice none 0 0/\n=0) \/
  ∃ g off cap cur,fp=[g]/\v=.slice (some ⟨g,off,none⟩) n cap/\h g=some (.cells cur E (0,0))/\n<=cap/\cap<=maxLen/\off+cap*sz<=cur.size/\(cur.toList.drop off).take (n*sz)=xs)
 loc:=by
  rintro h h' fp ⟨hl,h1⟩ hb;refine ⟨hl,h1.imp id ?_⟩;rintro ⟨g,off,cap,cur,rfl,rfl,hg,r⟩;exact ⟨g,off,cap,cur,I,I,by rw [hb g (by simp)];exact hg,r⟩
 own:=by
  rintro h fp ⟨hl,h1⟩ b hb;rcases h1 with ⟨rfl,_⟩ | ⟨g,off,cap,cur,rfl,rfl,hg,_⟩
  ·cases hb
  ·rw [List.mem_singleton] at hb;subst hb;exact ⟨_,hg⟩
theorem oK {h:Nat->Option Obj} {E:TypeId} {sz:Nat} {v:Value} {n:Nat} {xs:List Value} {fp:List Nat} (hr:(row E sz v n xs).sat h fp):(kN E sz v n xs).sat h fp:=by
 obtain ⟨e,hl,h1⟩:=hr;rcases h1 with ⟨rfl,h0⟩ | ⟨g,cap,cur,rfl,hg,h2,h3,h4,h5⟩
 ·exact ⟨hl,.inl ⟨by simpa [Value.ownBlock] using e,I,h0⟩⟩
 ·exact ⟨hl,.inr ⟨g,0,cap,cur,by simpa [Value.ownBlock] using e,I,hg,h2,h3,by omega,by simpa using h5⟩⟩
section
variable {c:Cx} {D:List Nat} {sl:aI} {hs hs':List a8} {X:Act->World->Prop} {E:TypeId} {sz:Nat} {v:Value} {n:Nat} {xs:List Value}
theorem uu {A B:a8} (ht:Take hs A hs') (hc:∀ h fp,A.sat h fp->B.sat h fp) (k:Tr c D sl (B::hs') X):Tr c D sl hs X:=fun a w a7=>
 k a w (a7.heap (by
  obtain ⟨kk,fp,jf,⟨f1,f2,rfl,h1,h2⟩,hb⟩:=a7.mem.take (ht.append _);exact ⟨kk,f1++f2,jf,⟨f1,f2,I,hc _ _ h1,h2⟩,hb⟩))
theorem FI (ht:Take hs (row E sz v n xs) hs') (k:Tr c D sl (kN E sz v n xs::hs') X):Tr c D sl hs X:=uu ht (fun _ _ h=>oK h) k
theorem xW (ht:Take hs (kN E sz v n xs) hs') (k:∀ a cap,v=.slice a n cap->n<=cap->cap<=maxLen->Tr c D sl hs X):Tr c D sl hs X:=fun a w a7=>by
 obtain ⟨kk,fp,jf,⟨f1,f2,rfl,⟨_,h1⟩,h2⟩,hb⟩:=a7.mem.take (ht.append _);rcases h1 with ⟨_,e,h0⟩ | ⟨g,off,cap,cur,_,e,_,hc,hm,_⟩
 ·subst h0;exact k none 0 e (Nat.le_refl _) (by unfold maxLen;omega) a w a7
 ·exact k _ cap e hc hm a w a7
theorem A0 (ht:Take hs (kN E sz v n xs) hs') (hn:0<n)
  (k:∀ g off cap pre cur,v=.slice (some ⟨g,off,none⟩) n cap->pre.length=off->n<=cap->cap<=maxLen->off+cap*sz<=(pre++xs++cur).length->xs.length=n*sz->Tr c D sl (bC g (.cells (pre++xs++cur).toArray E (0,0))::hs') X):Tr c D sl hs X:=fun a w a7=>by
 obtain ⟨kk,fp,jf,⟨f1,f2,rfl,⟨hl,h1⟩,h2⟩,hb⟩:=a7.mem.take (ht.append _);rcases h1 with ⟨_,_,h0⟩ | ⟨g,off,cap,cur,rfl,e,hg,hc,hm,hfit,htk⟩
 ·omega
 ·have hsz:n*sz<=cap*sz:=Nat.mul_le_mul_right _ hc;have Pe:cur.size=cur.toList.length:=by simp
  have nF:cur=(cur.toList.take off++xs++cur.toList.drop (off+n*sz)).toArray:=by
   apply Array.ext';show cur.toList=_;rw [<- htk]
   conv=>lhs;rw [<- List.take_append_drop off cur.toList]
   rw [Zh];congr 1
   conv=>lhs;rw [<- List.take_append_drop (n*sz) (cur.toList.drop off)]
   rw [List.drop_drop]
  refine k g off cap (cur.toList.take off) (cur.toList.drop (off+n*sz)) e ?_ hc hm ?_ hl a w (a7.heap ⟨kk,[g]++f2,jf,⟨[g],f2,I,⟨I,by rw [<- nF];exact hg⟩,h2⟩,hb⟩)
  ·rw [List.length_take];omega
  ·have:=congrArg (fun x:Array Value=>x.toList.length) nF
   simp only [Array.length_toList] at this;rw [<- this];exact hfit
theorem yp {h:Nat->Option Obj} {g off cap:Nat} {pre cur:List Value} {fp:List Nat} (hb:(bC g (.cells (pre++xs++cur).toArray E (0,0))).sat h fp) (hp:pre.length=off) (hc:n<=cap) (hm:cap<=maxLen) (hfit:off+cap*sz<=(pre++xs++cur).length) (hl:xs.length=n*sz):(kN E sz (.slice (some ⟨g,off,none⟩) n cap) n xs).sat h fp:=by
 obtain ⟨e,hg⟩:=hb;refine ⟨hl,.inr ⟨g,off,cap,_,e,I,hg,hc,hm,by rw [List.size_toArray];exact hfit,?_⟩⟩;show ((pre++xs++cur).drop off).take (n*sz)=xs;rw [Zh,<- hp,List.drop_left,<- hl,List.take_left]
theorem AZ {g off cap:Nat} {pre cur:List Value} (ht:Take hs (bC g (.cells (pre++xs++cur).toArray E (0,0))) hs') (hp:pre.length=off) (hc:n<=cap) (hm:cap<=maxLen) (hfit:off+cap*sz<=(pre++xs++cur).length) (hl:xs.length=n*sz)
  (k:Tr c D sl (kN E sz (.slice (some ⟨g,off,none⟩) n cap) n xs::hs') X):Tr c D sl hs X:=uu ht (fun _ _ h=>yp h hp hc hm hfit hl) k
theorem AY {a:Option Addr} {cap:Nat} (ht:Take hs (kN E sz (.slice a (n+1) cap) (n+1) xs) hs') (k:Tr c D sl (kN E sz (Go.sliced a 1 (n+1) cap sz) n (xs.drop sz)::hs') X):Tr c D sl hs X:=
 uu ht (fun h fp hr=>by
  obtain ⟨hl,h1⟩:=hr;rcases h1 with ⟨_,_,h0⟩ | ⟨g,off,iu,cur,rfl,e,hg,hc,hm,hfit,htk⟩
  ·omega
  ·obtain ⟨rfl,-,rfl⟩:=Value.slice.inj e;have E2:(xs.drop sz).length=n*sz:=by rw [List.length_drop,hl,Nat.succ_mul];omega
   refine ⟨E2,.inr ?_⟩;have TS:(cur.toList.drop (off+sz)).take (n*sz)=xs.drop sz:=by
    rw [<- htk,List.drop_take,List.drop_drop,show (n+1)*sz-sz=n*sz by rw [Nat.succ_mul];omega]
   by_cases Wa:cap=1
   ·subst Wa;have Gm:n=0:=by omega
    subst Gm;refine ⟨g,off,0,cur,I,?_,hg,Nat.le_refl _,by omega,by omega,?_⟩
    ·simp [Go.sliced]
    ·rw [<- TS];simp
   ·refine ⟨g,off+sz,cap-1,cur,I,?_,hg,by omega,by omega,?_,TS⟩
    ·simp only [Go.sliced,if_neg Wa,Option.map_some,Addr.add,Nat.one_mul,Nat.add_sub_cancel];by_cases h0:sz=0
     ·rw [if_pos h0,h0];rfl
     ·rw [if_neg h0]
    ·have:cap*sz=(cap-1)*sz+sz:=by
      rw [<- Nat.succ_mul];congr 1;omega
     omega) k
end
end Go.SL
namespace Go.SL
open Go Go.Shelf Go.RowKit Go.Proofs Go.Lib Go.Sort
theorem aD.grown {w w':World} (h:aD [] w w'):∃ q os',w'=Go.Sort.grow (w.drewN q) os':=by
 refine ⟨w'.drawn-w.drawn,w'.heap.extract w.heap.size w'.heap.size,?_⟩;have hd:=h.dr;have hh:w'.heap=w.heap++w'.heap.extract w.heap.size w'.heap.size:=by
  apply Array.ext_getElem?;intro k;by_cases hk:k<w.heap.size
  ·rw [Array.getElem?_append_left hk];exact h.block k hk (by simp)
  ·rw [Array.getElem?_append_right (by omega),Array.getElem?_extract];have hs:=h.size;by_cases eR:k<w'.heap.size
   ·rw [if_pos (by omega)];congr 1;omega
   ·rw [if_neg (by omega),Array.getElem?_eq_none (by omega)]
 cases w';cases w;have h1:=h.os;have h2:=h.tape;have h3:=h.output;simp only at h1 h2 h3 hh hd;subst h1;subst h2;subst h3;simp only [Go.Sort.grow,World.drewN];congr 1;omega
section
variable {P:Program} {α:Type} [Inhabited α]
theorem wi {enc:α->List Value} {k:Nat} (hk:∀ x,(enc x).length=k) (l:List α):(Go.Sort.flatK enc k l.toArray).toList=(l.map enc).flatten:=by
 have tN:=jb hk l;apply List.ext_getElem?;intro t;by_cases ht:t<l.length*k
 ·have vU:0<k:=by
   rcases Nat.eq_zero_or_pos k with e | e
   ·rw [e] at ht;omega
   ·exact e
  have h1:t / k<l.length:=by rw [Nat.div_lt_iff_lt_mul vU];exact ht
  have h2:t % k<k:=Nat.mod_lt _ vU;have e3:=Kp hk h1 h2 [];rw [List.append_nil,Nat.div_add_mod' t k] at e3;rw [e3,Array.getElem?_toList];have hsz:t<(Go.Sort.flatK enc k l.toArray).size:=by rw [Go.Sort.size_flatK];simpa using ht
  have e4:(Go.Sort.flatK enc k l.toArray)[t]? = some ((Go.Sort.flatK enc k l.toArray)[t]!):=by
   rw [getElem!_pos _ t hsz];exact getElem?_pos _ t hsz
  rw [e4,Go.Sort.get_flatK _ _ _ _ (by simpa using ht),getElem!_pos l.toArray (t / k) (by simpa using h1)];have h5:t % k<(enc l[t / k]).length:=by rw [hk];exact h2
  rw [Zc h5];congr 1;show (enc (l.toArray[t / k]'_))[t % k]! = _;rw [show l.toArray[t / k]'(by simpa using h1)=l[t / k] from I,getElem!_pos _ (t % k) h5]
 ·rw [List.getElem?_eq_none (by rw [Array.length_toList,Go.Sort.size_flatK];simpa using ht),List.getElem?_eq_none (by rw [tN];omega)]
theorem By (pre cur vs ws:List Value) (h:ws.length=vs.length):Go.Sort.putCells id pre.length ws.toArray (pre++vs++cur).toArray=(pre++ws++cur).toArray:=by
 apply Array.ext_getElem?;intro j;unfold Go.Sort.putCells;rw [Array.getElem?_mapIdx];simp only [List.getElem?_toArray,List.size_toArray];by_cases h1:j<pre.length
 ·rw [Zh,Zh,List.getElem?_append_left h1,List.getElem?_append_left h1];rw [Zc h1];simp only [Option.map_some];rw [if_neg (by omega)]
 ·by_cases h2:j<pre.length+ws.length
  ·have e1:(pre++vs++cur)[j]? = some ((pre++vs++cur)[j]'(by simp;omega)):=Zc _;rw [e1,Option.map_some,if_pos (by omega)];rw [Zh,List.getElem?_append_right (by omega),List.getElem?_append_left (by omega),Zc (by omega)];congr 1;show ws.toArray[j-pre.length]! = _;rw [getElem!_pos ws.toArray (j-pre.length) (by simp;omega)]
   rfl
  ·rw [List.getElem?_append_right (by simp;omega),List.getElem?_append_right (by simp;omega)];simp only [Zg,h];cases cur[j-(pre.length+vs.length)]? with
   | none=>rfl
   | some x =>
    rw [Option.map_some,if_neg (by omega)]
theorem Bd {ρ:Ren} (L:SlLaysF0.n6 P ρ) {k:Nat} (aE:∀ w,(isAgg (ρ.t 24)).run P w=.ok true w) (zE:∀ w,(Go.sizeOf (ρ.t 24)).run P w=.ok k w) {enc:α->List Value} (hk:∀ x,(enc x).length=k) (h1:∀ x,∀ v∈enc x,v.oneCell'=true) {cf:α->α->Int} (hO:Go.Sort.SWO (ltOf cf))
  {g b cap:Nat} {cb:Array Value} {l:List α} {pre cur:List Value} {E:TypeId} {w:World} (eg:∀ args w,(callFunc g args).run P w=.ok (.enter g args) w) (hb:w.heap[b]? = some (.cells (pre++(l.map enc).flatten++cur).toArray E (0,0))) (hsz:l.length<4611686018427387904)
  (Ya:∀ w',aD [b] w w'->∀ x y:α,Calls P g (#[.agg (enc x).toArray,.agg (enc y).toArray]++cb) w' fun e uZ=>e=.returned (.int .i64 (cf x y))/\aD [] w' uZ) :
  Calls P (ρ.f 6) #[.slice (some ⟨b,pre.length,none⟩) l.length cap,.func (.func g) #[] cb] w fun e w'=>
   e=.returned (.tuple #[])/\∃ l':List α,l'.Perm l/\l'.Pairwise (fun x y=>ltOf cf y x=false)/\aD [b] w w'/\w'.heap[b]? = some (.cells (pre++(l'.map enc).flatten++cur).toArray E (0,0)):=by
 have Pg:b<w.heap.size:=(Array.getElem?_eq_some_iff.1 hb).1;have T8:∀ (m:Nat) (d:Array α) (os:Array Obj),aD [b] w (sortWorldK enc k w b pre.length m d os):=by
  intro m d os;unfold sortWorldK putRowK;refine ⟨I,I,I,Nat.le_add_right _ _,by simp,fun q hq hne=>?_⟩;rw [Go.Sort.heap_grow_old _ _ (by simpa using hq)];have:b≠q:=fun e=>hne (by rw [e];simp)
  simp [Go.Sort.putRow,Go.Sort.mapBlock,Go.Sort.ahead,Array.getElem?_modify,this]
 have hC:CmpLays P g cb enc k cf b pre.length l.toArray.size w:=fun m os dk _ x y=>(Ya _ (T8 m dk os) x y).mono fun e w' ⟨he,pV⟩=>⟨he,pV.grown⟩
 have tN:=jb hk l;have hH:HoldsK enc k w b pre.length l.toArray:=by
  intro j hj;rw [Go.Sort.size_flatK] at hj;have kH:j<l.length*k:=by simpa using hj
  refine ⟨?_,by simp [World.frozen?,hb]⟩;have h0:=wi hk l;simp only [World.cell?,hb,Option.isSome_none,Bool.false_eq_true,if_false,List.getElem?_toArray];rw [Zh,List.getElem?_append_right (by omega),Nat.add_sub_cancel_left,List.getElem?_append_left (by omega),<- h0,Array.getElem?_toList];have hs:j<(Go.Sort.flatK enc k l.toArray).size:=by rw [Go.Sort.size_flatK];exact hj
  rw [getElem!_pos _ j hs];exact getElem?_pos _ j hs
 have key:=AnyQ.slices_SortFunc L k aE zE enc hk h1 cf hO g cb b pre.length cap l.toArray w eg hC hH Pg (by simpa using hsz);refine Calls.mono key ?_;rintro e w' ⟨he,d',m,os,hp,uP,hw⟩;subst hw;obtain ⟨AN,_,Y7⟩:=hp;have hd:List.Perm d'.toList l:=by
  rw [show (l.toArray.extract 0 l.toArray.size)=l.toArray by simp,show d'.extract 0 l.toArray.size=d' by rw [<- AN];simp] at Y7;exact Y7
 refine ⟨he,d'.toList,hd,?_,T8 m d' os,?_⟩
 ·rw [List.pairwise_iff_getElem];intro i j hi hj yR;rw [Array.length_toList] at hi hj;have UA:d'.size=l.length:=by rw [AN];simp
  have:=uP i j (Zi _) yR (by simp;omega);rw [getElem!_pos d' i hi,getElem!_pos d' j hj] at this;simpa using this
 ·unfold sortWorldK putRowK;rw [Go.Sort.heap_grow_old _ _ (by simpa using Pg)];have Xo:=By pre cur (l.map enc).flatten (Go.Sort.flatK enc k d').toList (by
   rw [Array.length_toList,Go.Sort.size_flatK,tN,AN];simp)
  have SH:=wi hk d'.toList;rw [Array.toArray_toList] at SH Xo;rw [SH] at Xo;simp [Go.Sort.putRow,Go.Sort.mapBlock,Go.Sort.ahead,Array.getElem?_modify,hb,Go.Sort.onCells];simpa using Xo
end
end Go.SL
namespace Go.Proofs
open Go.Shelf
def Tryz.CW:Go.Shelf.Ren:=⟨fun | 6=>260 | 15=>245 | 14=>320 | 28=>312 | 29=>313 | 20=>349 | 21=>350 | 22=>351 | 23=>352 | 24=>353 | 25=>354 | 26=>355 | 27=>356 | 46=>376 | 47=>344 | 48=>345 | 49=>377 | 50=>378 | 57=>392 | n=>n,fun | 22=>329 | 24=>244 | 25=>332 | 3=>3 | 39=>318 | 0=>0 | 53=>381 | 55=>383 | 4=>4 | 46=>374 | 45=>373 | 50=>272 | 5=>5 | 9=>9 | 66=>409 | 70=>413 | 76=>428 | 77=>359 | n=>n,fun | n=>n⟩
theorem Tryz.CX:Go.Proofs.SlLaysF0.n6 Tryz.prog Tryz.CW:={
 mixed:=by kernel_rfl
 f6:=⟨Tryz.f260.name,by decide,Tryz.func260.trans (congrArg some (by kernel_rfl))⟩
 f14:=⟨Tryz.f320.name,by decide,Tryz.func320.trans (congrArg some (by kernel_rfl))⟩
 f15:=Tryz.func245.trans (congrArg some (by kernel_rfl))
 f20:=⟨Tryz.f349.name,by decide,Tryz.func349.trans (congrArg some (by kernel_rfl))⟩
 f21:=⟨Tryz.f350.name,by decide,Tryz.func350.trans (congrArg some (by kernel_rfl))⟩
 f22:=⟨Tryz.f351.name,by decide,Tryz.func351.trans (congrArg some (by kernel_rfl))⟩
 f23:=⟨Tryz.f352.name,by decide,Tryz.func352.trans (congrArg some (by kernel_rfl))⟩
 f24:=⟨Tryz.f353.name,by decide,Tryz.func353.trans (congrArg some (by kernel_rfl))⟩
 f25:=⟨Tryz.f354.name,by decide,Tryz.func354.trans (congrArg some (by kernel_rfl))⟩
 f26:=⟨Tryz.f355.name,by decide,Tryz.func355.trans (congrArg some (by kernel_rfl))⟩
 f27:=⟨Tryz.f356.name,by decide,Tryz.func356.trans (congrArg some (by kernel_rfl))⟩
 f28:=Tryz.func312.trans (congrArg some (by kernel_rfl))
 f29:=Tryz.func313.trans (congrArg some (by kernel_rfl))
 f46:=⟨Tryz.f376.name,by decide,Tryz.func376.trans (congrArg some (by kernel_rfl))⟩
 f47:=Tryz.func344.trans (congrArg some (by kernel_rfl))
 f48:=Tryz.func345.trans (congrArg some (by kernel_rfl))
 f49:=⟨Tryz.f377.name,by decide,Tryz.func377.trans (congrArg some (by kernel_rfl))⟩
 f50:=⟨Tryz.f378.name,by decide,Tryz.func378.trans (congrArg some (by kernel_rfl))⟩
 f57:=⟨Tryz.f392.name,by decide,Tryz.func392.trans (congrArg some (by kernel_rfl))⟩
 t0:=Tryz.underlying0
 a0:=Tryz.isAgg0
 z0:=Tryz.sizeOf0
 v0:=Tryz.zeroValue0
 t3:=Tryz.underlying3
 a3:=Tryz.isAgg3
 z3:=Tryz.sizeOf3
 v3:=Tryz.zeroValue3
 t4:=Tryz.underlying4
 a4:=Tryz.isAgg4
 z4:=Tryz.sizeOf4
 v4:=Tryz.zeroValue4
 t5:=Tryz.underlying5
 a5:=Tryz.isAgg5
 z5:=Tryz.sizeOf5
 v5:=Tryz.zeroValue5
 t9:=Tryz.underlying9
 a9:=Tryz.isAgg9
 z9:=Tryz.sizeOf9
 v9:=Tryz.zeroValue9
 t22:=Tryz.underlying329
 a22:=Tryz.isAgg329
 z22:=Tryz.sizeOf329
 v22:=Tryz.zeroValue329
 t25:=Tryz.underlying332
 a25:=Tryz.isAgg332
 z25:=Tryz.sizeOf332
 v25:=Tryz.zeroValue332
 t39:=Tryz.underlying318
 a39:=Tryz.isAgg318
 z39:=Tryz.sizeOf318
 v39:=Tryz.zeroValue318
 t45:=Tryz.underlying373
 a45:=Tryz.isAgg373
 z45:=Tryz.sizeOf373
 v45:=Tryz.zeroValue373
 t46:=Tryz.underlying374
 a46:=Tryz.isAgg374
 z46:=Tryz.sizeOf374
 v46:=Tryz.zeroValue374
 t50:=Tryz.underlying272
 a50:=Tryz.isAgg272
 z50:=Tryz.sizeOf272
 v50:=Tryz.zeroValue272
 t53:=Tryz.underlying381
 a53:=Tryz.isAgg381
 z53:=Tryz.sizeOf381
 v53:=Tryz.zeroValue381
 t55:=Tryz.underlying383
 a55:=Tryz.isAgg383
 z55:=Tryz.sizeOf383
 v55:=Tryz.zeroValue383
 t66:=Tryz.underlying409
 a66:=Tryz.isAgg409
 z66:=Tryz.sizeOf409
 v66:=Tryz.zeroValue409
 t70:=Tryz.underlying413
 a70:=Tryz.isAgg413
 z70:=Tryz.sizeOf413
 v70:=Tryz.zeroValue413
 t76:=Tryz.underlying428
 a76:=Tryz.isAgg428
 z76:=Tryz.sizeOf428
 v76:=Tryz.zeroValue428
 t77:=Tryz.underlying359
 a77:=Tryz.isAgg359
 z77:=Tryz.sizeOf359
 v77:=Tryz.zeroValue359 }
def Tryz.CY:Go.Shelf.Ren:=⟨fun | 6=>317 | 15=>245 | 14=>348 | 28=>312 | 29=>313 | 20=>368 | 21=>369 | 22=>370 | 23=>371 | 24=>372 | 25=>373 | 26=>374 | 27=>375 | 46=>389 | 47=>344 | 48=>345 | 49=>390 | 50=>391 | 57=>399 | n=>n,fun | 22=>39 | 24=>188 | 25=>388 | 3=>3 | 39=>318 | 0=>0 | 53=>381 | 55=>383 | 4=>4 | 46=>374 | 45=>373 | 50=>272 | 5=>5 | 9=>9 | 66=>409 | 70=>413 | 76=>428 | 77=>359 | n=>n,fun | n=>n⟩
theorem Tryz.CZ:Go.Proofs.SlLaysF0.n6 Tryz.prog Tryz.CY:={
 mixed:=by kernel_rfl
 f6:=⟨Tryz.f317.name,by decide,Tryz.func317.trans (congrArg some (by kernel_rfl))⟩
 f14:=⟨Tryz.f348.name,by decide,Tryz.func348.trans (congrArg some (by kernel_rfl))⟩
 f15:=Tryz.func245.trans (congrArg some (by kernel_rfl))
 f20:=⟨Tryz.f368.name,by decide,Tryz.func368.trans (congrArg some (by kernel_rfl))⟩
 f21:=⟨Tryz.f369.name,by decide,Tryz.func369.trans (congrArg some (by kernel_rfl))⟩
 f22:=⟨Tryz.f370.name,by decide,Tryz.func370.trans (congrArg some (by kernel_rfl))⟩
 f23:=⟨Tryz.f371.name,by decide,Tryz.func371.trans (congrArg some (by kernel_rfl))⟩
 f24:=⟨Tryz.f372.name,by decide,Tryz.func372.trans (congrArg some (by kernel_rfl))⟩
 f25:=⟨Tryz.f373.name,by decide,Tryz.func373.trans (congrArg some (by kernel_rfl))⟩
 f26:=⟨Tryz.f374.name,by decide,Tryz.func374.trans (congrArg some (by kernel_rfl))⟩
 f27:=⟨Tryz.f375.name,by decide,Tryz.func375.trans (congrArg some (by kernel_rfl))⟩
 f28:=Tryz.func312.trans (congrArg some (by kernel_rfl))
 f29:=Tryz.func313.trans (congrArg some (by kernel_rfl))
 f46:=⟨Tryz.f389.name,by decide,Tryz.func389.trans (congrArg some (by kernel_rfl))⟩
 f47:=Tryz.func344.trans (congrArg some (by kernel_rfl))
 f48:=Tryz.func345.trans (congrArg some (by kernel_rfl))
 f49:=⟨Tryz.f390.name,by decide,Tryz.func390.trans (congrArg some (by kernel_rfl))⟩
 f50:=⟨Tryz.f391.name,by decide,Tryz.func391.trans (congrArg some (by kernel_rfl))⟩
 f57:=⟨Tryz.f399.name,by decide,Tryz.func399.trans (congrArg some (by kernel_rfl))⟩
 t0:=Tryz.underlying0
 a0:=Tryz.isAgg0
 z0:=Tryz.sizeOf0
 v0:=Tryz.zeroValue0
 t3:=Tryz.underlying3
 a3:=Tryz.isAgg3
 z3:=Tryz.sizeOf3
 v3:=Tryz.zeroValue3
 t4:=Tryz.underlying4
 a4:=Tryz.isAgg4
 z4:=Tryz.sizeOf4
 v4:=Tryz.zeroValue4
 t5:=Tryz.underlying5
 a5:=Tryz.isAgg5
 z5:=Tryz.sizeOf5
 v5:=Tryz.zeroValue5
 t9:=Tryz.underlying9
 a9:=Tryz.isAgg9
 z9:=Tryz.sizeOf9
 v9:=Tryz.zeroValue9
 t22:=Tryz.underlying39
 a22:=Tryz.isAgg39
 z22:=Tryz.sizeOf39
 v22:=Tryz.zeroValue39
 t25:=Tryz.underlying388
 a25:=Tryz.isAgg388
 z25:=Tryz.sizeOf388
 v25:=Tryz.zeroValue388
 t39:=Tryz.underlying318
 a39:=Tryz.isAgg318
 z39:=Tryz.sizeOf318
 v39:=Tryz.zeroValue318
 t45:=Tryz.underlying373
 a45:=Tryz.isAgg373
 z45:=Tryz.sizeOf373
 v45:=Tryz.zeroValue373
 t46:=Tryz.underlying374
 a46:=Tryz.isAgg374
 z46:=Tryz.sizeOf374
 v46:=Tryz.zeroValue374
 t50:=Tryz.underlying272
 a50:=Tryz.isAgg272
 z50:=Tryz.sizeOf272
 v50:=Tryz.zeroValue272
 t53:=Tryz.underlying381
 a53:=Tryz.isAgg381
 z53:=Tryz.sizeOf381
 v53:=Tryz.zeroValue381
 t55:=Tryz.underlying383
 a55:=Tryz.isAgg383
 z55:=Tryz.sizeOf383
 v55:=Tryz.zeroValue383
 t66:=Tryz.underlying409
 a66:=Tryz.isAgg409
 z66:=Tryz.sizeOf409
 v66:=Tryz.zeroValue409
 t70:=Tryz.underlying413
 a70:=Tryz.isAgg413
 z70:=Tryz.sizeOf413
 v70:=Tryz.zeroValue413
 t76:=Tryz.underlying428
 a76:=Tryz.isAgg428
 z76:=Tryz.sizeOf428
 v76:=Tryz.zeroValue428
 t77:=Tryz.underlying359
 a77:=Tryz.isAgg359
 z77:=Tryz.sizeOf359
 v77:=Tryz.zeroValue359 }
end Go.Proofs
namespace Go.Proofs.A1
open Go Go.SL Go.Shelf Go.Proofs
open Go.Proofs.Tryz
open Go.Proofs.Tryz renaming prog->T_
structure Wy where
 v:Value
 p:List Nat
 f:Nat
def Wy.cells (x:Wy):List Value:=[x.v,.int .i64 (x.f:Nat)]
def nz (p:List Nat):List Int:=p.map fun i:Nat=>(i:Int)
def gz (p:List Nat):List Value:=p.map fun i=>.int .i64 (i:Nat)
def S0 (l:List Wy):List (List Value):=l.map Wy.cells
def nk (l:List Wy):List Value:=(S0 l).flatten
theorem yH (p:List Nat):(gz p).map (fun u=>[u])=ints (nz p):=by simp [gz,ints,nz]
theorem sK (p:List Nat):(nz p).length=p.length:=by simp [nz]
def S3 (a b:Nat×List Nat):Int:=aV [kI a.1 b.1,kI (a.2.length:Nat) (b.2.length:Nat),lO (nz a.2) (nz b.2)]
def wl (a b:Nat×List Nat):Bool:=decide (a.1<b.1)||(decide (a.1=b.1)&&(decide (a.2.length<b.2.length)||(decide (a.2.length=b.2.length)&&lexB a.2 b.2)))
theorem wB {x y:Int}:kI x y<0↔x<y:=by
 unfold kI;split
 ·constructor <;> intro _ <;> omega
 ·split <;> constructor <;> intro _ <;> omega
theorem Cd:∀ {a b:List Nat},a.length=b.length->(lO (nz a) (nz b)<0↔lexB a b=true)
 | [],[],_=>by simp [nz,lO,lexB]
 | [],_::_,h=>by simp at h
 | _::_,[],h=>by simp at h
 | x :: a, y :: b, h => by
  have ih:=Cd (a:=a) (b:=b) (by simpa using h);show (if kI x y≠0 then kI x y else lO (nz a) (nz b))<0↔_
  unfold lexB;by_cases e:(x:Int)=y
  ·rw [if_neg (not_not_intro (iO.2 e)),ih];have e':x=y:=by exact_mod_cast e
   simp [e']
  ·rw [if_pos (fun q=>e (iO.1 q)),wB]
   have e':¬ x=y:=fun q=>e (by rw [q])
   simp [e']
theorem Ej (a b:Nat×List Nat):S3 a b<0↔wl a b=true:=by
 unfold S3 wl aV;by_cases h1:(a.1:Int)=b.1
 ·rw [if_neg (not_not_intro (iO.2 h1))];have xD:a.1=b.1:=by exact_mod_cast h1
  unfold aV;by_cases h2:((a.2.length:Nat):Int)=(b.2.length:Nat)
  ·rw [if_neg (not_not_intro (iO.2 h2))];have Gv:a.2.length=b.2.length:=by exact_mod_cast h2
   have h3:=Cd Gv;unfold aV;by_cases h4:lO (nz a.2) (nz b.2)=0
   ·rw [if_neg (not_not_intro h4)];rw [h4] at h3;simp [aV,xD,Gv];have:=h3.symm;simpa using this
   ·rw [if_pos h4,h3];simp [xD,Gv]
  ·rw [if_pos (fun q=>h2 (iO.1 q)),wB]
   have Gv:¬ a.2.length=b.2.length:=fun q=>h2 (by rw [q])
   simp [xD,Gv]
 ·rw [if_pos (fun q=>h1 (iO.1 q)),wB]
  have xD:¬ a.1=b.1:=fun q=>h1 (by rw [q])
  simp [xD]
theorem xO (a:Nat×List Nat):wl a a=false:=by unfold wl;rw [oV];simp
theorem AU {a b c:Nat×List Nat} (h1:wl a b=true) (h2:wl b c=true):wl a c=true:=by
 unfold wl at *;simp only [Bool.or_eq_true,Bool.and_eq_true,decide_eq_true_eq] at *;rcases h1 with h1 | ⟨e1,h1 | ⟨e2,h1⟩⟩ <;> rcases h2 with h2 | ⟨g1,h2 | ⟨g2,h2⟩⟩
 ·exact .inl (by omega)
 ·exact .inl (by omega)
 ·exact .inl (by omega)
 ·exact .inl (by omega)
 ·exact .inr ⟨by omega,.inl (by omega)⟩
 ·exact .inr ⟨by omega,.inl (by omega)⟩
 ·exact .inl (by omega)
 ·exact .inr ⟨by omega,.inl (by omega)⟩
 ·exact .inr ⟨by omega,.inr ⟨by omega,qR h1 h2⟩⟩
theorem Hc {a b:Nat×List Nat} (h:a≠b):wl a b=true\/wl b a=true:=by
 unfold wl;simp only [Bool.or_eq_true,Bool.and_eq_true,decide_eq_true_eq];rcases Nat.lt_trichotomy a.1 b.1 with h1 | h1 | h1
 ·exact .inl (.inl h1)
 ·rcases Nat.lt_trichotomy a.2.length b.2.length with h2 | h2 | h2
  ·exact .inl (.inr ⟨h1,.inl h2⟩)
  ·have hne:a.2≠b.2:=fun e=>h (Prod.ext h1 e)
   rcases qS h2 hne with h3 | h3
   ·exact .inl (.inr ⟨h1,.inr ⟨h2,h3⟩⟩)
   ·exact .inr (.inr ⟨h1.symm,.inr ⟨h2.symm,h3⟩⟩)
  ·exact .inr (.inr ⟨h1.symm,.inl h2⟩)
 ·exact .inr (.inl h1)
theorem PX {α:Type} (g:α->Nat×List Nat):Go.Sort.SWO (ltOf fun x y:α=>S3 (g x) (g y)):=by
 have e:∀ x y:α,ltOf (fun x y:α=>S3 (g x) (g y)) x y=wl (g x) (g y):=fun x y=>by
  unfold ltOf;rw [Bool.eq_iff_iff,decide_eq_true_eq];exact Ej _ _
 constructor
 ·intro x;rw [e];exact xO _
 ·intro x y z h1 h2;rw [e] at *;exact AU h1 h2
 ·intro x y z h1 h2;rw [e] at *;by_cases h:wl (g x) (g z)=true
  ·by_cases e1:g x=g y
   ·rw [e1,h2] at h;cases h
   ·rcases Hc e1 with h3 | h3
    ·rw [h1] at h3;cases h3
    ·rw [AU h3 h] at h2;cases h2
  ·simpa using h
theorem TA {v:Value} {cs:List Value} {es:List Int} {w:World} (h:Rd w v 1 (cs.map fun v=>[v])) (hl:bQ cs es):aj T_ 319 [v] w (.int .i64 (aV es)):=
 TB (by rw [<- hl.eq];exact h)
theorem PY {v1 v2:Value} {p q:List Nat} {f1 f2:Nat} {w:World} (h1:Rd w v1 1 (ints (nz p))) (h2:Rd w v2 1 (ints (nz q))) :
  aj T_ 261 [.agg #[v1,.int .i64 (f1:Nat)],.agg #[v2,.int .i64 (f2:Nat)]] w (.int .i64 (S3 (f1,p) (f2,q))):=by
 have Yb:∀ w',aD [] w w'->aj T_ 236 [v1,v2] w' (.int .i64 (lO (nz p) (nz q))):=fun w' hk=>y6 (h1.keeps hk) (h2.keeps hk)
 obtain ⟨a,cp,b,o,rfl,c8,bV,ha,hc⟩:=h1;rw [c5,sK] at *;obtain ⟨a',SX,b',o',rfl,nV,O7,cM,V6⟩:=h2;rw [c5,sK] at *;have iH:=Yb;refine ah func261 I I ?_;refine Jr<|Jy I I fun _ _=>Jy I I fun _ _=>Ja I<|Jn<|Jq ?_
 with_reducible refine cC 18 (by kernel_rfl) ?_
 (refine ak kA I ?_;refine ak (gD (.there .here)) I ?_;refine ak kA I ?_;refine ak (gD .here) I ?_;refine aQ aX I (fun w' aq=>(Cc _ _ w')) ?_;refine ak kA I ?_;refine ak (gD (.there .here)) I ?_;refine ak (cg (.of I)) I ?_;refine ak kA I ?_;refine ak (gD .here) I ?_;refine ak (cg (.of I)) I ?_;refine aQ aX I (fun w' aq=>(Cc _ _ w')) ?_;refine ak kA I ?_;refine ak (gD (.there .here)) I ?_;refine ak kA I ?_;refine ak (gD .here) I ?_;refine aQ aX I (fun w' aq=>(iH w' (Mem.keeps aq))) ?_;refine dX (aB (.cons (.of I) (.cons (.of I) (.cons (.of I) .nil))) I I I I) I I ?_)
 with_reducible refine cY I fun bq mA=>?_
 (refine ai bN I (fun w' aq=>(TA (Mem.df aq .here I I) (bQ.cons (bQ.cons (bQ.cons bQ.nil))))) ?_;refine Ja I<|Jn<|Je<|JT ?_)
 rfl
theorem PT (l:List Wy):∀ r∈S0 l,r.length=2:=fun r hr=>by obtain ⟨x,_,rfl⟩:=List.mem_map.1 hr;rfl
theorem pE (l:List Wy):(nk l).length=l.length*2:=by unfold nk;rw [fU (PT l)];unfold S0;rw [Zd]
theorem LO (a b:List Wy):nk (a++b)=nk a++nk b:=by unfold nk S0;rw [List.map_append,List.flatten_append]
def iP (kJ:List Wy):a8:=jn 3 (kJ.map Wy.v) (kJ.map fun x=>gz x.p)
theorem Fv {w:World} {kJ:List Wy} {fp:List Nat} (hn:fp.Nodup) (hs:ch (hp w) [iP kJ] fp) {x:Wy} (hx:x∈kJ):Rd w x.v 1 (ints (nz x.p)):=by
 obtain ⟨j,hj,rfl⟩:=List.getElem_of_mem hx;have hm:Mem ⟨w,fp,0⟩ [iP kJ] w:=⟨.refl _ _,fp,hn,hs,fun b hb=>.inr hb⟩
 have:=hm.vq (j:=j) (v:=(kJ[j]).v) (x:=gz (kJ[j]).p) .here (by simp [hj]) (by simp [hj]);rwa [yH] at this
theorem D1 {c:Cx} {hs hs':List a8} {w:World} (hm:Mem c hs w) {kJ:List Wy} (ht:Take hs (iP kJ) hs') {x:Wy} (hx:x∈kJ):Rd w x.v 1 (ints (nz x.p)):=by
 obtain ⟨j,hj,rfl⟩:=List.getElem_of_mem hx;have:=hm.vq (j:=j) (v:=(kJ[j]).v) (x:=gz (kJ[j]).p) ht (by simp [hj]) (by simp [hj]);rwa [yH] at this
theorem HJ {v:Value} {n:Nat} {l kJ:List Wy} {w:World} {fp:List Nat} (jf:fp.Nodup) (hs:ch (hp w) [kN 244 2 v n (nk l),iP kJ] fp) (hn:n=l.length) (iY:∀ x∈l,x∈kJ) (cL:n<=1000000) (Wa:∀ x∈kJ,x.v.oneCell'=true) :
  bh T_ 260 [v,.func (.func 261) #[] #[]] w fp (fun l':List Wy=>l'.Perm l/\l'.Pairwise (fun x y=>wl (y.f,y.p) (x.f,x.p)=false)) (fun _=>.tuple #[]) (fun l'=>[kN 244 2 v n (nk l'),iP kJ]):=by
 obtain ⟨f1,f2,rfl,h1,h2⟩:=hs;obtain ⟨hlen,h1⟩:=h1;have Rh:=(List.nodup_append.1 jf).2.1;have kU:=(List.nodup_append.1 jf).2.2;rcases h1 with ⟨rfl,rfl,h0⟩ | ⟨g,off,cap,cur,rfl,rfl,hg,kc,jL,hfit,htk⟩
 ·have mF:l=[]:=List.eq_nil_of_length_eq_zero (by omega);subst mF;refine (AnyF.slices_SortFunc_none Tryz.CX none 0 (.func (.func 261) #[] #[]) w).mono fun e w' ⟨he,hw⟩=>?_;subst hw;exact ⟨[],he,⟨.refl _,.nil⟩,.refl _ _,[]++f2,by simpa using Rh,⟨[],f2,I,⟨hlen,.inl ⟨I,I,h0⟩⟩,h2⟩,fun b hb=>.inl hb⟩
 ·subst hn;have RD:g<w.heap.size:=(Array.getElem?_eq_some_iff.1 hg).1;by_cases mF:l=[]
  ·subst mF;refine (AnyF.slices_SortFunc_none Tryz.CX (some ⟨g,off,none⟩) cap (.func (.func 261) #[] #[]) w).mono fun e w' ⟨he,hw⟩=>?_;subst hw;exact ⟨[],he,⟨.refl _,.nil⟩,.refl _ _,[g]++f2,jf,⟨[g],f2,I,⟨hlen,.inr ⟨g,off,cap,cur,I,I,hg,kc,jL,hfit,htk⟩⟩,h2⟩,fun b hb=>.inl hb⟩
  obtain ⟨x0,QS⟩:=List.exists_mem_of_ne_nil l mF
  let α:={x:Wy // x∈kJ}
  let _:Inhabited α:=⟨⟨x0,iY x0 QS⟩⟩
  let enc:α->List Value:=fun x=>x.1.cells
  have hle:l.length*2<=cap*2:=Nat.mul_le_mul_right _ kc;have Pe:cur.size=cur.toList.length:=by simp
  have nF:cur=(cur.toList.take off++nk l++cur.toList.drop (off+l.length*2)).toArray:=by
   apply Array.ext';show cur.toList=_;rw [<- htk]
   conv=>lhs;rw [<- List.take_append_drop off cur.toList]
   rw [Zh];congr 1
   conv=>lhs;rw [<- List.take_append_drop (l.length*2) (cur.toList.drop off)]
   rw [List.drop_drop]
  have vO:(cur.toList.take off).length=off:=by rw [List.length_take];omega
  generalize j5:cur.toList.take off=pre at nF vO;generalize T9:cur.toList.drop (off+l.length*2)=post at nF
  let la:List α:=l.attach.map fun x=>⟨x.1,iY x.1 x.2⟩
  have Rk:la.map (fun x:α=>x.1)=l:=by
   show (l.attach.map fun x=>(⟨x.1,iY x.1 x.2⟩:α)).map (fun x:α=>x.1)=l
   rw [List.map_map];exact List.attach_map_subtype_val l
  have BY:∀ m:List α,(m.map enc).flatten=nk (m.map fun x:α=>x.1):=fun m=>by
   unfold nk S0;rw [List.map_map];rfl
  have DD:la.length=l.length:=by
   show (l.attach.map fun x=>(⟨x.1,iY x.1 x.2⟩:α)).length=_
   rw [Zd,List.length_attach]
  have uh:w.heap[g]? = some (.cells (pre++(la.map enc).flatten++post).toArray 244 (0,0)):=by rw [BY,Rk,<- nF];exact hg
  have key:=Bd Tryz.CX (k:=2) isAgg244 sizeOf244 (enc:=enc) (fun _=>rfl)
   (fun x u hu=>by
    have hx:=Wa x.1 x.2;simp only [enc,Wy.cells,List.mem_cons,List.not_mem_nil,or_false] at hu;rcases hu with rfl | rfl
    ·exact hx
    ·rfl)
   (PX (fun x:α=>(x.1.f,x.1.p))) (g:=261) (b:=g) (cap:=cap) (cb:=#[]) (l:=la) (pre:=pre) (cur:=post) (E:=244) (w:=w)
   (enters_of func261 (by kernel_rfl) I) uh (by rw [DD];omega)
   (fun w' hk x y=>by
    have hp:ch (hp w') [iP kJ] f2:=ch.loc h2 fun b hb=>by
     have Pg:b<w.heap.size:=by
      obtain ⟨o,ho⟩:=ch.own h2 b hb;exact ki ho
     exact hk.block b Pg (fun e=>kU g (by simp) b hb (List.mem_singleton.1 e).symm)
    exact PY (Fv Rh hp x.2) (Fv Rh hp y.2))
  rw [DD,vO] at key;refine Calls.mono key ?_;rintro e w' ⟨he,l',gZ,Xj,hk,dD⟩;have yP:(l'.map fun x:α=>x.1).length=l.length:=by rw [Zd,gZ.length_eq,DD]
  rw [BY] at dD;refine ⟨l'.map fun x:α=>x.1,he,⟨?_,?_⟩,hk.mono (by simp),[g]++f2,jf,⟨[g],f2,I,?_,ch.loc h2 fun b hb=>?_⟩,fun b hb=>.inl hb⟩
  ·have:=gZ.map (fun x:α=>x.1)
   rwa [Rk] at this
  ·rw [List.pairwise_map];refine Xj.imp fun {x y} h=>?_;unfold ltOf at h;rw [decide_eq_false_iff_not,Ej] at h;simpa using h
  ·have hr:=yp (n:=l.length) (sz:=2) (cap:=cap) (fp:=[g]) (h:=hp w') ⟨I,dD⟩ vO kc jL (by
    have:=congrArg (fun x:Array Value=>x.toList.length) nF
    simp only [Array.length_toList,Zg,pE] at this;rw [Zg,Zg,pE,yP,<- this];exact hfit) (by rw [pE,yP])
   exact hr
  ·have Pg:b<w.heap.size:=by
    obtain ⟨o,ho⟩:=ch.own h2 b hb;exact ki ho
   exact hk.block b Pg (fun e=>kU g (by simp) b hb (List.mem_singleton.1 e).symm)
end Go.Proofs.A1
namespace Go.Proofs.A1
open Go Go.SL
open Tryz
open Tryz renaming prog->T_
theorem Ks {α:Type} {q:α->Bool} {l:List α} {k:Nat} (h:k<l.length) (hq:q l[k]=true):(l.filter q)[((l.take k).filter q).length]? = some l[k]:=by
 have e:l=l.take k++l[k]::l.drop (k+1):=by rw [<- List.drop_eq_getElem_cons h,List.take_append_drop]
 have:l.filter q=(l.take k).filter q++l[k]::(l.drop (k+1)).filter q:=by
  conv=>lhs;rw [e]
  rw [List.filter_append,List.filter_cons_of_pos hq]
 rw [this,List.getElem?_append_right (Nat.le_refl _),Nat.sub_self];rfl
def B5 (r:Ro) (v m:Int) (i:Nat):Bool:=decide ((gq r i).fr=m)&&!gC r.po v (dG r i)
def fJ (r:Ro) (v m:Int) (k:Nat):List Nat:=(List.range k).filter (B5 r v m)
def Lu (r:Ro) (v m:Int):List (List Value):=(fJ r v m r.ti.length).map fun i=>[.int .i64 (i:Nat),.agg (gq r i).cells.toArray]
theorem uN (r:Ro) (v m:Int):(Lu r v m).length=(fJ r v m r.ti.length).length:=by simp [Lu]
theorem sV (r:Ro) (v m:Int) (k:Nat):fJ r v m (k+1)=fJ r v m k++if B5 r v m k then [k] else []:=by
 unfold fJ;rw [List.range_succ,List.filter_append];congr 1;by_cases h:B5 r v m k=true
 ·rw [List.filter_cons_of_pos h,if_pos h];rfl
 ·rw [List.filter_cons_of_neg h,if_neg h];rfl
theorem M3 {r:Ro} {v m:Int} {k:Nat} (h:k<r.ti.length) (hq:B5 r v m k=true):(Lu r v m)[(fJ r v m k).length]? = some [.int .i64 (k:Nat),.agg (gq r k).cells.toArray]:=by
 have h1:=Ks (l:=List.range r.ti.length) (q:=B5 r v m) (k:=k) (by rw [List.length_range];exact h) (by rw [List.getElem_range];exact hq);rw [List.take_range,Nat.min_eq_left (by omega),List.getElem_range] at h1;unfold Lu fJ;rw [List.getElem?_map,h1];rfl
theorem Dp {r:Ro} {v m:Int} {k:Nat} {vs:List Value} (h:(Lu r v m)[k]? = some vs):∃ i,(fJ r v m r.ti.length)[k]? = some i/\vs=[.int .i64 (i:Nat),.agg (gq r i).cells.toArray]/\i<r.ti.length/\B5 r v m i=true:=by
 unfold Lu at h;rw [List.getElem?_map,Option.map_eq_some_iff] at h;obtain ⟨i,hi,rfl⟩:=h;have hm:=List.mem_of_getElem? hi;unfold fJ at hm;rw [List.mem_filter,List.mem_range] at hm;exact ⟨i,hi,I,hm.1,hm.2⟩
theorem lV {r:Ro} {i:Nat} (h:i<r.ti.length):gq r i=r.ti[i]:=by
 unfold gq;rw [List.getD_eq_getElem?_getD,Zc h];rfl
theorem pQ {P:Program} {c:Cx} {sl:aI} {hs:List a8} {dst:Option Tmp} {ty:TypeId} {pos:String} {af:Array Edge} {g:Option (Nat×Bool)} {k:IntKind} {t u:TypeId} {x y:Operand} {a b:Int} (hx:Is sl x (.int k a)) (hy:Is sl y (.int k b)) (e:a=b) :
  cQ P c sl hs ⟨dst,.binOp .eql t x y u,ty,pos,af,g⟩ (.bool true):=by
 have:=jE (P:=P) (c:=c) (hs:=hs) (dst:=dst) (ty:=ty) (pos:=pos) (af:=af) (g:=g) (t:=t) (u:=u) hx hy;rwa [decide_eq_true e] at this
theorem uC {P:Program} {c:Cx} {sl:aI} {hs:List a8} {dst:Option Tmp} {ty:TypeId} {pos:String} {af:Array Edge} {g:Option (Nat×Bool)} {k:IntKind} {t u:TypeId} {x y:Operand} {a b:Int} (hx:Is sl x (.int k a)) (hy:Is sl y (.int k b)) (e:a≠b) :
  cQ P c sl hs ⟨dst,.binOp .eql t x y u,ty,pos,af,g⟩ (.bool false):=by
 have:=jE (P:=P) (c:=c) (hs:=hs) (dst:=dst) (ty:=ty) (pos:=pos) (af:=af) (g:=g) (t:=t) (u:=u) hx hy;rwa [decide_eq_false e] at this
theorem bB {P:Program} {c:Cx} {sl:aI} {hs:List a8} {dst:Option Tmp} {ty:TypeId} {pos:String} {af:Array Edge} {g:Option (Nat×Bool)} {x y z:Operand} {q:Bool} {v u:Value} (hx:Is sl x (.bool q)) (hy:Is sl y v) (hz:Is sl z u) (e:(bif q then v else u)=Value.bool false):cQ P c sl hs ⟨dst,.pick x y z,ty,pos,af,g⟩ (.bool false):=e ▸ uA hx hy hz
theorem cK {P:Program} {c:Cx} {sl:aI} {hs:List a8} {dst:Option Tmp} {ty:TypeId} {pos:String} {af:Array Edge} {g:Option (Nat×Bool)} {x y z:Operand} {q:Bool} {v u:Value} (hx:Is sl x (.bool q)) (hy:Is sl y v) (hz:Is sl z u) (e:(bif q then v else u)=Value.bool true):cQ P c sl hs ⟨dst,.pick x y z,ty,pos,af,g⟩ (.bool true):=e ▸ uA hx hy hz
theorem sO {r:Ro} {s d t p:Value} (v m:Int) {w w1:World} (h:RR w1 r s d t p) :
  bh T_ 153 [RA r s d t p,.int .i64 v,.int .i64 m] w [] (fun _:Nat×Nat×Nat=>True) (fun x=>.func (.func 240) #[] #[.pointer (some ⟨x.1,0,none⟩),.pointer (some ⟨x.2.1,0,none⟩),.pointer (some ⟨x.2.2,0,none⟩)])
   (fun x=>[JP x.1 r s d t p,bC x.2.1 (.cells #[.int .i64 m] 3 (0,0)),bC x.2.2 (.cells #[.int .i64 v] 3 (0,0))]):=by
 obtain ⟨h1,h2,h3,h4⟩:=h.one;unfold RA;refine aR func153 I I ?_
 (refine Jr<|Jy I I fun _ _=>Jy I I fun _ _=>Jy I I fun _ _=>Ja I<|Ji<|ab (bo .nil (.cons (.of I) (.cons (.of I) (.cons (.of I) .nil)))) I ?_;refine Ja I<|Jn<|Je ?_)
 rename_i b3 tQ b4 uQ b5 G0
 first | with_reducible apply aN | with_reducible apply aO
 case he=>exact dJ I I
 case hR=>
  intro w' aq;exact aG (b3,b5,b4) trivial (by exact .cons bT (.cons .here (.cons .here .nil))) aq I
set_option maxHeartbeats 1000000 in
theorem ID {r:Ro} {s d t p:Value} {b1 b2 b3:Nat} (v m:Int) {w0 w:World} {md:List Nat} (h:RR w0 r s d t p) (hn:RO md r s d t p) (cL:r.ti.length<=1000000) :
  Iter T_ 240 [] [.pointer (some ⟨b1,0,none⟩),.pointer (some ⟨b2,0,none⟩),.pointer (some ⟨b3,0,none⟩)] [JP b1 r s d t p,bC b2 (.cells #[.int .i64 m] 3 (0,0)),bC b3 (.cells #[.int .i64 v] 3 (0,0))] (Lu r v m) w0 md w:=by
 intro l fp J E hB hF jf hs hy;have hR:=h.jH hn hB;have hO:=h.out hn hF;rw [uN];have h1:=Rd.one hR.sr;have h2:=Rd.one hR.de;have h4:=Rd.one hR.po;have hti:=hR.ti;have oti:=hO.ti;obtain ⟨a,cp,b,o',rfl,c8,bV,ha,hc⟩:=hti;rw [bO] at *;unfold maxLen at bV;refine er func240 I I jf hs ?_
 (refine Jr<|bK I I ae ?_;refine JL I (.there .here) I<|JI I<|Jv I<|Jn<|J0 ?_)
 refine aY (fun k:Nat=>k<=r.ti.length) (fun k=>[(10,.int .i64 (k:Nat)),(9,.int .i64 (r.ti.length:Nat)),(8,.slice a r.ti.length cp),(0,.func (.yield l) #[] #[]),(1,.pointer (some ⟨b1,0,none⟩)),(2,.pointer (some ⟨b2,0,none⟩)),(3,.pointer (some ⟨b3,0,none⟩))])
  (fun k=>[J (fJ r v m k).length,JP b1 r s d (.slice a r.ti.length cp) p,bC b2 (.cells #[.int .i64 m] 3 (0,0)),bC b3 (.cells #[.int .i64 v] 3 (0,0))]) (fun k=>r.ti.length-k) ?_ ?_
 ·apply aK 0 (by omega)
  case hs1=>exact cj
  case ht=>
   exact .cons .here (.cons .here (.cons .here (.cons .here .nil)))
 intro k hk;by_cases aL:k<r.ti.length
 ·have cM:=ha (eO aL);have aF:=(hc k _ (dY aL)).2;have Xw:b ∉ fp:=oti (eO aL) b (by rw [cM];rfl);unfold Ti.cells at aF;have v8:∀ w',aD fp w w'->aj T_ 121 [.agg #[.int .i64 r.lv,.int .i64 r.ma,s,d,.slice a r.ti.length cp,p],.int .i64 v,.string (r.ti[k]).nm] w' (.bool (gC r.po v (r.ti[k]).nm)):=fun w' hk=>pz v _ (hR.jH hO hk)
  have o7:=lV aL;have tI:dG r k=(r.ti[k]).nm:=by unfold dG;rw [o7]
  by_cases pX:(r.ti[k]).fr=m
  ·cases sq:gC r.po v (r.ti[k]).nm with
   | true =>
    have tP:∀ w',aD fp w w'->aj T_ 121 [.agg #[.int .i64 r.lv,.int .i64 r.ma,s,d,.slice a r.ti.length cp,p],.int .i64 v,.string (r.ti[k]).nm] w' (.bool true):=fun w' hk=>sq ▸ v8 w' hk
    have hq:B5 r v m k=false:=by unfold B5;rw [tI,sq];simp
    have I5:fJ r v m (k+1)=fJ r v m k:=by rw [sV,if_neg (by rw [hq];decide),List.append_nil]
    (refine Jr<|JA I<|Jn<|Jq<|Jd I fun ar=>Jk<|Jq<|J0<|Jr<|Jv I<|ab (gj cM ar) I ?_;refine ab (jD (.of I) (eU.Cl aF Xw) I) I ?_;refine Jz I I fun _ _=>Ja I<|au (.of I) (.of I) .here I I (fx I I I) (bF I) an ?_;refine Ji<|bK I I ae ?_;refine JL I .here I<|JL I db I<|ab (pQ (.of I) (.of I) pX) I ?_;refine Jv I<|JK I I<|ab (cr bT) I ?_;refine JK I I<|JL I fg I<|JK I I<|bK I I ae ?_;refine JK I I<|JL I .here I<|JK I I<|ai dH I (fun w' aq=>(tP w' (Mem.keeps aq))) ?_;refine JK I I<|JH I<|ab (bB (.of I) (.of I) (.of I) I) I ?_;refine Jv I<|fM I I I I ?_;refine fM I I I I ?_;refine aC I I inferInstance (fun hg br=>(cm (.of I) .here an (by rfl))) I ?_;refine cR I I I I ?_;refine aC I I inferInstance (fun hg br=>(eY (.bL br I))) I ?_;refine ab (bB (.of I) (.of I) (.of I) I) I ?_;refine Jn<|bR (.of I) ?_;refine Jw<|Jj<|Jt<|Jg<|JB I (by omega)<|Jv I<|Jn ?_)
    apply aJ (k+1) (by omega) (by omega)
    case hs1=>exact cj
    case ht=>
     rw [I5];exact .cons (.there .here) (.cons (.there .here) (.cons (.there .here) (.cons (.there .here) .nil)))
   | false =>
    have tP:∀ w',aD fp w w'->aj T_ 121 [.agg #[.int .i64 r.lv,.int .i64 r.ma,s,d,.slice a r.ti.length cp,p],.int .i64 v,.string (r.ti[k]).nm] w' (.bool false):=fun w' hk=>sq ▸ v8 w' hk
    have hq:B5 r v m k=true:=by unfold B5;rw [tI,sq,o7,decide_eq_true pX];rfl
    have I5:fJ r v m (k+1)=fJ r v m k++[k]:=by rw [sV,if_pos hq]
    have Rl:(fJ r v m (k+1)).length=(fJ r v m k).length+1:=by rw [I5];simp
    have TL:=hy _ _ (M3 aL hq);rw [o7] at TL
    (refine Jr<|JA I<|Jn<|Jq<|Jd I fun ar=>Jk<|Jq<|J0<|Jr<|Jv I<|ab (gj cM ar) I ?_;refine ab (jD (.of I) (eU.Cl aF Xw) I) I ?_;refine Jz I I fun _ _=>Ja I<|au (.of I) (.of I) .here I I (fx I I I) (bF I) an ?_;refine Ji<|bK I I ae ?_;refine JL I .here I<|JL I db I<|ab (pQ (.of I) (.of I) pX) I ?_;refine Jv I<|JK I I<|ab (cr bT) I ?_;refine JK I I<|JL I fg I<|JK I I<|bK I I ae ?_;refine JK I I<|JL I .here I<|JK I I<|ai dH I (fun w' aq=>(tP w' (Mem.keeps aq))) ?_;refine JK I I<|JH I<|ab (cK (.of I) (.of I) (.of I) I) I ?_;refine Jv I<|JK I I<|Jv I<|JK I I<|Jv I<|JK I I<|ab (cr .here) I ?_;refine JK I I ?_)
    unfold Ti.cells at TL
    with_reducible apply xT hB hF TL
    case hx=>exact Is.of I
    case ha=>exact .cons (.of I) (.cons (.of I) .nil)
    case hd=>rfl
    case ht=>exact Take.there .here
    intro q;cases q with
    | false =>
     simp only [cond_false]
     (refine JK I I<|JH I<|ab (cK (.of I) (.of I) (.of I) I) I ?_;refine Jn<|cE (.of I) ?_;refine Je<|Jm<|Jh<|Jh<|Jm ?_)
     first | with_reducible apply aN | with_reducible apply aO
     case he=>exact qD I
     case hR=>
      intro w' aq;exact aG false trivial (by exact .cons .here (.cons (.there .here) (.cons (.there .here) (.cons (.there .here) .nil)))) aq I
    | true =>
     simp only [cond_true]
     (refine JK I I<|JH I<|ab (bB (.of I) (.of I) (.of I) I) I ?_;refine Jn<|bR (.of I) ?_;refine Jw<|Jj<|Jt<|Jg<|JB I (by omega)<|Jv I<|Jn ?_)
     apply aJ (k+1) (by omega) (by omega)
     case hs1=>exact cj
     case ht=>
      rw [Rl];exact .cons .here (.cons (.there .here) (.cons (.there .here) (.cons (.there .here) .nil)))
  ·have hq:B5 r v m k=false:=by unfold B5;rw [o7,decide_eq_false pX];rfl
   have I5:fJ r v m (k+1)=fJ r v m k:=by rw [sV,if_neg (by rw [hq];decide),List.append_nil]
   (refine Jr<|JA I<|Jn<|Jq<|Jd I fun ar=>Jk<|Jq<|J0<|Jr<|Jv I<|ab (gj cM ar) I ?_;refine ab (jD (.of I) (eU.Cl aF Xw) I) I ?_;refine Jz I I fun _ _=>Ja I<|au (.of I) (.of I) .here I I (fx I I I) (bF I) an ?_;refine Ji<|bK I I ae ?_;refine JL I .here I<|JL I db I<|ab (uC (.of I) (.of I) pX) I ?_;refine Jv I<|aC I I inferInstance (fun hg br=>(cm (.of I) bT an (by rfl))) I ?_;refine aC I I inferInstance (fun hg br=>(ag (.of I) (At.lit fg I))) I ?_;refine aC I I inferInstance (fun hg br=>(ao (.of I) ae)) I ?_;refine aC I I inferInstance (fun hg br=>(ag (.bL br I) (At.lit .here I))) I ?_;refine cR I I I I ?_;refine aC I I inferInstance (fun hg br=>(eY (.bL br I))) I ?_;refine ab (bB (.of I) (.of I) (.of I) I) I ?_;refine Jv I<|fM I I I I ?_;refine fM I I I I ?_;refine aC I I inferInstance (fun hg br=>(cm (.of I) .here an (by rfl))) I ?_;refine cR I I I I ?_;refine aC I I inferInstance (fun hg br=>(eY (.bL br I))) I ?_;refine ab (bB (.of I) (.of I) (.of I) I) I ?_;refine Jn<|bR (.of I) ?_;refine Jw<|Jj<|Jt<|Jg<|JB I (by omega)<|Jv I<|Jn ?_)
   apply aJ (k+1) (by omega) (by omega)
   case hs1=>exact cj
   case ht=>
    rw [I5];exact .cons (.there .here) (.cons (.there .here) (.cons (.there .here) (.cons (.there .here) .nil)))
 ·obtain rfl:k=r.ti.length:=by omega
  refine Jr<|JA I<|Jn<|Jq<|Jc I fun ar=>Jp<|Jl<|Jo ?_
  first | with_reducible apply aN | with_reducible apply aO
  case he=>exact qD I
  case hR=>
   intro w' aq;exact aG true trivial (by exact .cons .here (.cons .here (.cons .here (.cons .here .nil)))) aq I
theorem IW (l:List Int):∀ r∈ints l,∀ u∈r,u.oneCell'=true:=fun r hr=>by obtain ⟨x,_,rfl⟩:=List.mem_map.1 hr;exact bJ rfl gO
theorem yM (l:List Int):l.map (Value.int .i64)=(ints l).flatten:=by
 induction l with
 | nil=>rfl
 | cons x l ih=>show [Value.int .i64 x]++l.map (Value.int .i64)=_;rw [ih];rfl
theorem Oc {lv:Value} {l:List Int} {w:World} (h:Rd w lv 1 (ints l)) (hl:l.length<=1000) :
  bh T_ 262 [lv] w [] (fun _:Value=>True) id (fun v=>[row 3 1 v l.length (l.map (.int .i64))]):=by
 have h':=h;obtain ⟨a,cp,b,o,rfl,c8,bV,ha,hc⟩:=h;refine aR func262 I I ?_;cases a with
 | none =>
  have mF:l=[]:=by
   cases l with
   | nil=>rfl
   | cons x r=>exact absurd (ha (by simp [ints])) (by simp)
  subst mF
  (refine Jr<|Ja I<|Jn<|Jq<|Jr<|Jv I<|ab (gW (.of I) (.of I)) I ?_;refine Jn<|cE (.of I) ?_;refine Jr<|Ja I<|Jn<|Ju ?_)
  refine aP 3 1 ?_
  first | with_reducible apply aN | with_reducible apply aO
  case he=>exact dJ I I
  case hR=>
   intro w' aq;exact aG (.slice none 0 0) trivial (by exact .cons .here .nil) aq I
 | some ad =>
  (refine Jr<|Ja I<|Jn<|Jq<|Jr<|Jv I<|ab (gW (.of I) (.of I)) I ?_;refine Jn<|bR (.of I) ?_;refine Jk<|Jr<|bb (aB .nil I I I I) I fun _ _=>?_;refine Jv I ?_)
  rename_i bq mA;refine bY (g:=bq) (E:=3) (ys:=[]) 0 1 (by exact .here) I I I ?_
  with_reducible apply gK
  case hx=>exact Is.of I
  case hy=>exact Is.of I
  case ht=>exact .here
  case hsrc=>exact fun w' aq=>h'.keeps aq.keeps
  case h1=>exact IW l
  case hz=>exact I
  case hsz=>exact I
  case hb0=>exact I
  case hb=>rw [c5];omega
  case hd=>rfl
  intro v';rw [c5,<- yM,Nat.zero_add,Za];refine Ja I<|Jn<|Je ?_
  first | with_reducible apply aN | with_reducible apply aO
  case he=>exact dJ I I
  case hR=>
   intro w' aq;exact aG v' trivial (by exact .cons .here .nil) aq I
theorem rD {P:Program} {c:Cx} {sl:aI} {hs:List a8} {dst:Option Tmp} {ty:TypeId} {pos:String} {af:Array Edge} {g:Option (Nat×Bool)} {t u:TypeId} {x y:Operand} {a b:ByteArray} (hx:Is sl x (.string a)) (hy:Is sl y (.string b)) (e:a=b) :
  cQ P c sl hs ⟨dst,.binOp .eql t x y u,ty,pos,af,g⟩ (.bool true):=by
 have:=eh (P:=P) (c:=c) (hs:=hs) (dst:=dst) (ty:=ty) (pos:=pos) (af:=af) (g:=g) (t:=t) (u:=u) hx hy;rwa [decide_eq_true e] at this
theorem vm {P:Program} {c:Cx} {sl:aI} {hs:List a8} {dst:Option Tmp} {ty:TypeId} {pos:String} {af:Array Edge} {g:Option (Nat×Bool)} {t u:TypeId} {x y:Operand} {a b:ByteArray} (hx:Is sl x (.string a)) (hy:Is sl y (.string b)) (e:a≠b) :
  cQ P c sl hs ⟨dst,.binOp .eql t x y u,ty,pos,af,g⟩ (.bool false):=by
 have:=eh (P:=P) (c:=c) (hs:=hs) (dst:=dst) (ty:=ty) (pos:=pos) (af:=af) (g:=g) (t:=t) (u:=u) hx hy;rwa [decide_eq_false e] at this
def xb (r:Ro) (v:Int) (so:ByteArray) (i:Nat):Bool:=gC r.po v (dG r i)&&decide (jX r v (dG r i)=so)
def AT (r:Ro) (v:Int) (so:ByteArray) (k:Nat):List Nat:=(List.range k).filter (xb r v so)
theorem wG (r:Ro) (v:Int) (so:ByteArray) (k:Nat):AT r v so (k+1)=AT r v so k++if xb r v so k then [k] else []:=by
 unfold AT;rw [List.range_succ,List.filter_append];congr 1;by_cases h:xb r v so k=true
 ·rw [List.filter_cons_of_pos h,if_pos h];rfl
 ·rw [List.filter_cons_of_neg h,if_neg h];rfl
def mi (r:Ro) (so:ByteArray):Int:=(r.sr.getD (bd (ct r) so).toNat ⟨⟨#[]⟩,0⟩).mx
def wk (x:Wy):Nat×List Nat:=(x.f,x.p)
def PL (L:List (Nat×List Nat)) (W:List Wy):Prop:=W.map wk=L/\∀ y∈W,y.v.oneCell'=true
theorem PL.add {L:List (Nat×List Nat)} {W:List Wy} (h:PL L W) (y:Wy) (hy:y.v.oneCell'=true):PL (L++[wk y]) (W++[y]):=by
 refine ⟨by rw [List.map_append,h.1];rfl,fun z hz=>?_⟩;rcases List.mem_append.1 hz with hz | hz
 ·exact h.2 z hz
 ·rw [List.mem_singleton.1 hz];exact hy
theorem KZ (W:List Wy) (y:Wy):iP (W++[y])=jn 3 (W.map Wy.v++[y.v]) ((W.map fun x=>gz x.p)++[gz y.p]):=by unfold iP;rw [List.map_append,List.map_append];rfl
theorem zk (W:List Wy) (y:Wy):nk (W++[y])=nk W++[y.v,.int .i64 (y.f:Nat)]:=by rw [LO];rfl
theorem pH {c:Cx} {D:List Nat} {sl:aI} {hs h1 h2:List a8} {X:Act->World->Prop} {W:List Wy} (y:Wy) {n:Nat} {x:List Value} (ht:Take hs (iP W) h1) (ht2:Take h1 (row 3 1 y.v n x) h2) (hn:n=y.p.length) (hx:x=gz y.p)
  (k:Tr c D sl (iP (W++[y])::h2) X):Tr c D sl hs X:=by
 subst hx;refine lg (vs:=W.map Wy.v) (xs:=W.map fun x=>gz x.p) (v:=y.v) (show Take hs (jn 3 (W.map Wy.v) (W.map fun x=>gz x.p)) h1 from ht) ht2 (by rw [hn];unfold gz;rw [Zd]) (by rw [Zd,Zd]) ?_;rw [<- KZ];exact k
theorem yb {c:Cx} {D:List Nat} {sl:aI} {hs:List a8} {X:Act->World->Prop} (k:Tr c D sl (iP []::hs) X):Tr c D sl hs X:=jY 3 k
set_option maxHeartbeats 1000000 in
theorem KW {r:Ro} {s d t p:Value} (v:Int) (so:ByteArray) {w:World} (h:RR w r s d t p) (cL:r.ti.length<=1000) (Q4:so∈ct r) :
  bh T_ 259 [RA r s d t p,.int .i64 v,.string so] w [] (fun x:Value×List Wy=>PL ((AT r v so r.ti.length).map (fun i=>(0,[i]))++(fJ r v (mi r so) r.ti.length).map (fun i=>(1,[i]))) x.2) (fun x=>x.1)
   (fun x=>[row 244 2 x.1 x.2.length (nk x.2),iP x.2]):=by
 obtain ⟨h1,h2,h3,h4⟩:=h.one;have hti:=h.ti;obtain ⟨a,cp,b,o',rfl,c8,bV,ha,hc⟩:=hti;have Np:=h.sr;obtain ⟨a2,l8,b2,o2,rfl,jK,eE,iT,jL⟩:=Np;rw [bO] at *;rw [cu] at *;unfold maxLen at bV eE;obtain ⟨i0,pW⟩:∃ i:Nat,bd (ct r) so=(i:Nat):=⟨(bd (ct r) so).toNat,by have:=di Q4;omega⟩;have Ai:i0<r.sr.length:=by
  obtain ⟨hl,_⟩:=eD (l:=ct r) (s:=so) (by omega);rw [pW,Int.toNat_natCast] at hl;unfold ct at hl;rwa [Zd] at hl
 have xy:mi r so=(r.sr[i0]).mx:=by unfold mi;rw [pW,Int.toNat_natCast,List.getD_eq_getElem?_getD,Zc Ai];rfl
 have TV:∀ w',aD [] w w'->aj T_ 180 [.agg #[.int .i64 r.lv,.int .i64 r.ma,.slice a2 r.sr.length l8,d,.slice a r.ti.length cp,p],.string so] w' (.int .i64 (i0:Nat)):=fun w' hk=>pW ▸ mO so (h.keeps hk)
 have hsrc:=TV;unfold RA;refine aR func259 I I ?_
 (refine Jr<|Jy I I fun _ _=>Ja I<|Ji<|Jz I I fun _ _=>Jn<|Jq<|Jr<|bK I I ae ?_;refine JL I (.there .here) I<|JI I<|Jv I<|Jn<|J0 ?_)
 rename_i b3 tQ b7 UE;refine aP 244 2 ?_;refine yb ?_
 refine aY (ι:=Nat×Value×List Wy) (fun x=>x.1<=r.ti.length/\PL ((AT r v so x.1).map (fun i=>(0,[i]))) x.2.2)
  (fun x=>[(14,.int .i64 (x.1:Nat)),(13,.int .i64 (r.ti.length:Nat)),(12,.slice a r.ti.length cp),(7,.pointer (some ⟨b7,0,none⟩)),(3,.pointer (some ⟨b3,0,none⟩)),(1,.int .i64 v),(2,.string so)])
  (fun x=>[bC b7 (.cells #[x.2.1] 329 (0,0)),row 244 2 x.2.1 x.2.2.length (nk x.2.2),iP x.2.2,JP b3 r (.slice a2 r.sr.length l8) d (.slice a r.ti.length cp) p]) (fun x=>r.ti.length-x.1) ?_ ?_
 ·apply aK (0,.slice none 0 0,[]) ⟨Zi _,I,fun y hy=>by cases hy⟩
  case hs1=>exact cj
  case ht=>
   exact .cons bT (.cons (.there .here) (.cons .here (.cons .here .nil)))
 rintro ⟨k,wv,W⟩ ⟨hk,hW⟩;dsimp only at hk hW ⊢;have RG:(nk W).length=W.length*2:=pE W;by_cases aL:k<r.ti.length
 ·have cM:=ha (eO aL);have aF:=(hc k _ (dY aL)).2;unfold Ti.cells at aF;have o7:=lV aL;have tI:dG r k=(r.ti[k]).nm:=by unfold dG;rw [o7]
  have ZJ:W.length<=k:=by
   have:=congrArg List.length hW.1;rw [Zd,Zd] at this;rw [this];have:=List.length_filter_le (xb r v so) (List.range k);rw [List.length_range] at this;exact this
  have v8:∀ w',aD [] w w'->aj T_ 121 [.agg #[.int .i64 r.lv,.int .i64 r.ma,.slice a2 r.sr.length l8,d,.slice a r.ti.length cp,p],.int .i64 v,.string (r.ti[k]).nm] w' (.bool (gC r.po v (r.ti[k]).nm)):=fun w' hk=>pz v _ (h.keeps hk)
  have sS:∀ w',aD [] w w'->aj T_ 126 [.agg #[.int .i64 r.lv,.int .i64 r.ma,.slice a2 r.sr.length l8,d,.slice a r.ti.length cp,p],.int .i64 v,.string (r.ti[k]).nm] w' (.string (jX r v (r.ti[k]).nm)):=fun w' hk=>nb v _ (h.keeps hk) (by omega)
  cases sq:gC r.po v (r.ti[k]).nm with
  | false =>
   have tP:∀ w',aD [] w w'->aj T_ 121 [.agg #[.int .i64 r.lv,.int .i64 r.ma,.slice a2 r.sr.length l8,d,.slice a r.ti.length cp,p],.int .i64 v,.string (r.ti[k]).nm] w' (.bool false):=fun w' hk=>sq ▸ v8 w' hk
   have hq:xb r v so k=false:=by unfold xb;rw [tI,sq];rfl
   have I5:AT r v so (k+1)=AT r v so k:=by rw [wG,if_neg (by rw [hq];decide),List.append_nil]
   (refine Jr<|JA I<|Jn<|Jq<|Jd I fun ar=>Jk<|Jq<|J0<|Jr<|Jv I<|ab (gj cM ar) I ?_;refine ab (iI (eU.base aF I)) I ?_;refine Jz I I fun _ _=>Ja I<|au (.of I) (.of I) .here I I (fx I I I) (bF I) an ?_;refine Ji<|ab (cr fg) I ?_;refine Jv I<|bK I I ae ?_;refine JL I .here I<|ai dH I (fun w' aq=>(tP w' (Mem.keeps aq))) ?_;refine Jv I<|aC I I inferInstance (fun hg br=>(cm (.of I) fg an (by rfl))) I ?_;refine fM I I I I ?_;refine aC I I inferInstance (fun hg br=>(ao (.of I) ae)) I ?_;refine aC I I inferInstance (fun hg br=>(ag (.bL br I) (At.lit .here I))) I ?_;refine cR I I I I ?_;refine fM I I I I ?_;refine cR I I I I ?_;refine ab (bB (.of I) (.of I) (.of I) I) I ?_;refine Jn<|bR (.of I) ?_;refine Jw<|Jj<|Jt<|Jg<|JB I (by omega)<|Jv I<|Jn ?_)
   apply aJ (k+1,wv,W) ⟨show k+1<=r.ti.length by omega,by rw [I5];exact hW⟩ (show r.ti.length-(k+1)<r.ti.length-k by omega)
   case hs1=>exact cj
   case ht=>(try simp only [Ze,Zf,Za]);exact .cons (.there .here) (.cons (.there .here) (.cons (.there .here) (.cons (.there .here) .nil)))
  | true =>
   have tP:∀ w',aD [] w w'->aj T_ 121 [.agg #[.int .i64 r.lv,.int .i64 r.ma,.slice a2 r.sr.length l8,d,.slice a r.ti.length cp,p],.int .i64 v,.string (r.ti[k]).nm] w' (.bool true):=fun w' hk=>sq ▸ v8 w' hk
   by_cases uP:jX r v (r.ti[k]).nm=so
   ·have hq:xb r v so k=true:=by unfold xb;rw [tI,sq,decide_eq_true uP];rfl
    have I5:AT r v so (k+1)=AT r v so k++[k]:=by rw [wG,if_pos hq]
    (refine Jr<|JA I<|Jn<|Jq<|Jd I fun ar=>Jk<|Jq<|J0<|Jr<|Jv I<|ab (gj cM ar) I ?_;refine ab (iI (eU.base aF I)) I ?_;refine Jz I I fun _ _=>Ja I<|au (.of I) (.of I) .here I I (fx I I I) (bF I) an ?_;refine Ji<|ab (cr fg) I ?_;refine Jv I<|bK I I ae ?_;refine JL I .here I<|ai dH I (fun w' aq=>(tP w' (Mem.keeps aq))) ?_;refine Jv I<|JK I I<|ab (cr fg) I ?_;refine JK I I<|Jv I<|JK I I<|bK I I ae ?_;refine JK I I<|JL I .here I<|JK I I<|ai dH I (fun w' aq=>(sS w' (Mem.keeps aq))) ?_;refine JK I I<|Jv I<|JK I I<|ab (rD (.of I) (.of I) uP) I ?_;refine ab (cK (.of I) (.of I) (.of I) I) I ?_;refine Jn<|cE (.of I) ?_;refine Jg<|JL I (.there .here) I<|Jv I<|bb (aB (.cons (.of I) .nil) I I I I) I fun _ _=>?_;refine ab (aT (.cons (.of I) (.cons (.of I) .nil)) an) I ?_;refine bb (bu (.cons (.of I) .nil) I I bW bW an) I fun _ _=>?_)
    rename_i b9 ZE bq mA bl Pg;have Kh:=hW.add ⟨.slice (some ⟨bq,0,none⟩) 1 1,[k],0⟩ I;have TP:nk (W++[⟨.slice (some ⟨bq,0,none⟩) 1 1,[k],0⟩])=nk W++[.slice (some ⟨bq,0,none⟩) 1 1,.int .i64 0]:=zk W _;have TO:(W++[(⟨.slice (some ⟨bq,0,none⟩) 1 1,[k],0⟩:Wy)]).length=W.length+1:=by simp
    refine bE (.of I) (.of I) fg .here an (by rfl) (ie I I) (by rfl) (by rfl) (by rfl) eV (by rfl) ?_;intro v';refine aW (by exact .here) fun a' iu e=>?_;subst e
    (refine au (.of I) (.of I) fg I I (eF I) (bF I) an ?_;refine Jx<|Jj<|Jt<|Jg<|JB I (by omega)<|Jv I<|Jn ?_)
    refine bY (g:=bq) (E:=3) (ys:=[.int .i64 (k:Nat)]) 1 1 db I I I ?_;refine pH (W:=W) ⟨.slice (some ⟨bq,0,none⟩) 1 1,[k],0⟩ (n:=1) (x:=[.int .i64 (k:Nat)]) fy (by exact .here) I I ?_;apply aJ (k+1,.slice a' (W.length+1) iu,W++[⟨.slice (some ⟨bq,0,none⟩) 1 1,[k],0⟩]) ⟨show k+1<=r.ti.length by omega,by rw [I5,List.map_append];exact Kh⟩ (show r.ti.length-(k+1)<r.ti.length-k by omega)
    case hs1=>exact cj
    case ht=>
     show bn _ [bC b7 (.cells #[.slice a' (W.length+1) iu] 329 (0,0)),row 244 2 (.slice a' (W.length+1) iu) (W++[(⟨.slice (some ⟨bq,0,none⟩) 1 1,[k],0⟩:Wy)]).length (nk (W++[⟨.slice (some ⟨bq,0,none⟩) 1 1,[k],0⟩])),iP (W++[⟨.slice (some ⟨bq,0,none⟩) 1 1,[k],0⟩]),JP b3 r (.slice a2 r.sr.length l8) d (.slice a r.ti.length cp) p] _;rw [TO,TP];exact .cons (.there .here) (.cons (.there .here) (.cons .here (.cons bT .nil)))
   ·have hq:xb r v so k=false:=by unfold xb;rw [tI,sq,decide_eq_false uP];rfl
    have I5:AT r v so (k+1)=AT r v so k:=by rw [wG,if_neg (by rw [hq];decide),List.append_nil]
    (refine Jr<|JA I<|Jn<|Jq<|Jd I fun ar=>Jk<|Jq<|J0<|Jr<|Jv I<|ab (gj cM ar) I ?_;refine ab (iI (eU.base aF I)) I ?_;refine Jz I I fun _ _=>Ja I<|au (.of I) (.of I) .here I I (fx I I I) (bF I) an ?_;refine Ji<|ab (cr fg) I ?_;refine Jv I<|bK I I ae ?_;refine JL I .here I<|ai dH I (fun w' aq=>(tP w' (Mem.keeps aq))) ?_;refine Jv I<|JK I I<|ab (cr fg) I ?_;refine JK I I<|Jv I<|JK I I<|bK I I ae ?_;refine JK I I<|JL I .here I<|JK I I<|ai dH I (fun w' aq=>(sS w' (Mem.keeps aq))) ?_;refine JK I I<|Jv I<|JK I I<|ab (vm (.of I) (.of I) uP) I ?_;refine ab (bB (.of I) (.of I) (.of I) I) I ?_;refine Jn<|bR (.of I) ?_;refine Jw<|Jj<|Jt<|Jg<|JB I (by omega)<|Jv I<|Jn ?_)
    apply aJ (k+1,wv,W) ⟨show k+1<=r.ti.length by omega,by rw [I5];exact hW⟩ (show r.ti.length-(k+1)<r.ti.length-k by omega)
    case hs1=>exact cj
    case ht=>(try simp only [Ze,Zf,Za]);exact .cons (.there .here) (.cons (.there .here) (.cons (.there .here) (.cons (.there .here) .nil)))
 ·obtain rfl:k=r.ti.length:=by omega
  refine Jr<|JA I<|Jn<|Jq<|Jc I fun ar=>Jp<|Jl<|Jo<|Jt<|Jq<|Jq ?_;have ql:=iT (gL Ai);have eB:=(jL i0 _ (fk Ai)).2;unfold Sr.cells at eB;have O6:=eB 1 _ I
  with_reducible refine cW 10 (by kernel_rfl) ?_
  (refine aA (cr db) I ?_;refine iv I I ?_;refine mG I I ae ?_;refine aA (gD db) I ?_;refine aA (cr db) I ?_;refine iv I I ?_;refine c6 aX I (fun w' aq=>(hsrc w' (Mem.keeps aq))) ?_;refine aA (az (.of I) (.of I) ql (by omega) (by omega) ba) I ?_;refine mG I I ae ?_;refine aA (ag (.of I) (At.base O6 I)) I ?_)
  with_reducible refine cZ ?_
  rw [<- xy]
  with_reducible apply jh
  case hr=>exact dH
  case hd=>rfl
  case ht=>exact bn.nil
  case hc=>
   intro w1 fp aS _ hs1;obtain rfl:fp=[]:=hs1;exact sO (s:=.slice a2 r.sr.length l8) (d:=d) (t:=.slice a r.ti.length cp) (p:=p) v (mi r so) (h.keeps aS.keeps)
  intro y _;dsimp only [id_eq,Zb,Za];refine Jn<|J0 ?_;have tN:(fJ r v (mi r so) r.ti.length).length<=r.ti.length:=by
   have:=List.length_filter_le (B5 r v (mi r so)) (List.range r.ti.length);rw [List.length_range] at this;exact this
  have iH:(AT r v so r.ti.length).length<=r.ti.length:=by
   have:=List.length_filter_le (xb r v so) (List.range r.ti.length);rw [List.length_range] at this;exact this
  refine jt (ps:=[51,52]) (f:=240) (first:=[]) (cap:=[.pointer (some ⟨y.1,0,none⟩),.pointer (some ⟨y.2.1,0,none⟩),.pointer (some ⟨y.2.2,0,none⟩)]) (ι:=Value×List Wy) (κ:=Empty) (rst:=[JP b3 r (.slice a2 r.sr.length l8) d (.slice a r.ti.length cp) p]) ?hg
   [JP y.1 r (.slice a2 r.sr.length l8) d (.slice a r.ti.length cp) p,bC y.2.1 (.cells #[.int .i64 (mi r so)] 3 (0,0)),bC y.2.2 (.cells #[.int .i64 v] 3 (0,0))] (Lu r v (mi r so)) ?hit
   (fun k x=>PL ((AT r v so r.ti.length).map (fun i=>(0,[i]))++((fJ r v (mi r so) r.ti.length).take k).map (fun i=>(1,[i]))) x.2)
   (fun x=>[bC b7 (.cells #[x.1] 329 (0,0)),row 244 2 x.1 x.2.length (nk x.2),iP x.2])
   (fun _=>False) (fun _=>[]) (fun _=>.ret) (wv,W) (by rw [Ze,Zf,List.append_nil];exact hW) ?ht ?hlen ?hps ?round ?kn ?kj
  case hg=>exact Is.of I
  case hit=>intro w' aq;exact ID v (mi r so) h RO.nil (by omega)
  case ht=>
   dsimp only [Zb,Za];exact .cons db (.cons db (.cons db (.cons .here (.cons .here (.cons .here .nil)))))
  case hlen=>intro vs o6;obtain ⟨x,_,rfl⟩:=List.mem_map.1 o6;rfl
  case hps=>intro t ht;simp only [List.mem_cons,List.not_mem_nil,or_false] at ht;rcases ht with rfl | rfl <;> exact Nat.le_of_ble_eq_true rfl
  case kj=>intro y;cases y
  case kn=>
   rintro ⟨wv,W⟩ D hq;dsimp only [Zb,Za] at hq ⊢;rw [uN,List.take_length] at hq;refine aW (E:=244) (sz:=2) (by exact Take.there .here) fun va vc e=>?_;subst e;refine Jj<|Jt<|Jr<|JL I .here I<|Ja I<|Jn<|Je ?_
   first | with_reducible apply aN | with_reducible apply aO
   case he=>exact dJ I I
   case hR=>
    intro w' aq;exact aG (.slice va W.length vc,W) hq (by exact .cons (.there .here) (.cons (.there .here) .nil)) aq I
  case round=>
   rintro l2 rc W2 UW k ⟨wv,W⟩ vs hsz hk hq hB hF;dsimp only at hq;obtain ⟨i,hi,rfl,il,Rp⟩:=Dp hk;obtain ⟨wZ,J7⟩:=List.getElem?_eq_some_iff.1 hi;have htk:(fJ r v (mi r so) r.ti.length).take (k+1)=(fJ r v (mi r so) r.ti.length).take k++[i]:=by rw [List.take_succ_eq_append_getElem wZ,J7]
   have RG:(nk W).length=W.length*2:=pE W;have ZJ:W.length<=2000:=by
    have:=congrArg List.length hq.1;rw [Zd,Zg,Zd,Zd,List.length_take] at this;omega
   dsimp only [Ti.cells,List.zip_cons_cons,List.zip_nil_right,mq,Zb,Za];refine Jg<|Ja I<|Jn ?_
   with_reducible apply mL
   case ht=>exact .here
   refine aW (E:=244) (sz:=2) bT fun v1 v2 e=>?_;subst e
   (refine J0<|Jg<|JL I (.there .here) I<|Jv I<|bb (aB (.cons (.of I) .nil) I I I I) I fun _ _=>?_;refine ab (aT (.cons (.of I) (.cons (.of I) .nil)) an) I ?_;refine bb (bu (.cons (.of I) .nil) I I bW bW an) I fun _ _=>?_)
   rename_i bq mA bl Pg;have Kh:=hq.add ⟨.slice (some ⟨bq,0,none⟩) 1 1,[i],1⟩ I;have TP:nk (W++[⟨.slice (some ⟨bq,0,none⟩) 1 1,[i],1⟩])=nk W++[.slice (some ⟨bq,0,none⟩) 1 1,.int .i64 1]:=zk W _;have TO:(W++[(⟨.slice (some ⟨bq,0,none⟩) 1 1,[i],1⟩:Wy)]).length=W.length+1:=by simp
   refine bE (.of I) (.of I) fg .here an (by rfl) (ie I I) (by rfl) (by rfl) (by rfl) eV (by rfl) ?_;intro v';refine aW (by exact .here) fun a' iu e=>?_;subst e
   (refine au (.of I) (.of I) fg I I (eF I) (bF I) an ?_;refine Jx<|Jj ?_)
   refine bY (g:=bq) (E:=3) (ys:=[.int .i64 (i:Nat)]) 1 1 db I I I ?_;refine pH (W:=W) ⟨.slice (some ⟨bq,0,none⟩) 1 1,[i],1⟩ (n:=1) (x:=[.int .i64 (i:Nat)]) fy (by exact .here) I I ?_;apply lT (.slice a' (W.length+1) iu,W++[⟨.slice (some ⟨bq,0,none⟩) 1 1,[i],1⟩])
   case ht=>exact fg
   case hx=>
    show PL _ _;rw [htk,List.map_append,<- Zh];exact Kh
   case h2=>
    show bn _ [bC b7 (.cells #[.slice a' (W.length+1) iu] 329 (0,0)),row 244 2 (.slice a' (W.length+1) iu) (W++[(⟨.slice (some ⟨bq,0,none⟩) 1 1,[i],1⟩:Wy)]).length (nk (W++[⟨.slice (some ⟨bq,0,none⟩) 1 1,[i],1⟩])),iP (W++[⟨.slice (some ⟨bq,0,none⟩) 1 1,[i],1⟩])] _;rw [TO,TP];exact .cons (.there .here) (.cons (.there .here) (.cons .here .nil))
end Go.Proofs.A1
