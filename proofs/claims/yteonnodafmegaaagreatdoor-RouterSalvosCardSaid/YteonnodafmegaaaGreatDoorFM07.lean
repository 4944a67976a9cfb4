/- Parts of the proof: KE KF KV GkOff GkSortK TryzSortF KG KH KI KJq. -/
import Derived.Test.YteonnodafmegaaaGreatDoorFM06
import Derived.Test.YteonnodafmegaaaGreatDoorFM04
import Derived.Test.YteonnodafmegaaaGreatDoorFM03
import Derived.Test.YteonnodafmegaaaGreatDoorFM02
import Derived.ArgAppend
import Derived.Shelf.SlSortCmp.WholeK
import Derived.Shelf.SlSortCmp.NoneTotal
import Derived.Shelf.SlicesG.Cmp
import Derived.Ground.SlsfProg
import Derived.Ground.SlgcProg
import Derived.Ground.NamesProg
import Derived.Ground.Names2Prog
import Derived.Test.YteonnodafmegaaaGreatDoorProg
set_option linter.unusedSectionVars false
set_option linter.unusedVariables false
set_option linter.unusedSimpArgs false
namespace Go.Proofs.A1
open Go Go.SL
open Tryz
open Tryz renaming prog->T_
theorem eL {w w':World} {a:Addr} {v:Value} {md:List Nat} (h:w.cell? a=some v) (hs:a.spot=none) (hn:a.block ∉ md) (hk:aJ md w w'):w'.cell? a=some v:=by
 have hb:=World.block_lt_of_cell? w a h;obtain ⟨b,o,s⟩:=a;subst hs;have:=hk.block b hb hn;rw [<- h];simp [World.cell?,this]
variable {B:Nat->ByteArray} {cap:List Value} {d:Value} {f:FuncId} {first:List Value} {fp:List Nat} {lv:Value} {o:ByteArray} {p:Value} {q:ByteArray->Bool} {r:Ro} {s t:Value} {vs:List Value} {w:World}
theorem MT {q:Bool} [bV T_ f] {b5:Nat} {w:World} (f5:w.cell? ⟨b5,0,none⟩=some (.func (.func f) first.toArray cap.toArray))
  (cF:∀ w',aJ [] w w'->ak T_ f (first++[.string o]++cap) w' (.bool q)) :
  ak T_ 225 [.string o,.p b5] w (.bool (!q)):=by
 refine ah func225 I I ?_
 (refine Jr<|Ja I<|Ji<|ab (ag (.of I) (At.base f5 I)) I<|Jv I ?_)
 refine aj bN I (fun w' aB=>cF w' aB.keeps) ?_;refine JH I<|Ja I<|Jn<|Je<|JT ?_
 rfl
theorem Fj {l:List Ti} [bV T_ f] {w:World} (h:Rd w lv 3 (vm l)) (hn:l.length<=1000000)
  (cF:∀ o w',aJ [] w w'->ak T_ f (first++[.string o]++cap) w' (.bool (q o))) :
  bh T_ 118 [lv,.func (.func 119) #[] #[],.func (.func f) first.toArray cap.toArray] w [] (fun _:Value=>True) id (fun v=>[row 9 1 v ((l.map Ti.nm).filter q).length (aP ((l.map Ti.nm).filter q))]):=by
 have tW:=Rd.one h;refine aR func118 I I ?_;refine Jr<|Jy I I fun _ _=>Ja I<|Ji<|Jv I<|Jv I ?_;rename_i b5 H7;refine JN bb I (fun w1 aT=>O8 (f:=119) (first:=[]) (cap:=[]) (g:=Ti.nm) (h.keeps aT.keeps) hn (fun x _ w2 _=>Li x w2)) ?_
 intro nv _;dsimp only [id_eq,Zb,Za];refine ab (bD .nil (.o I .nil)) I ?_
 with_reducible apply gq (As:=[row 9 1 nv l.length (aP (l.map Ti.nm))])
 case hr=>exact bb
 case hd=>rfl
 case ht=>exact iQ
 case hc=>
  intro w1 Bv aT u7 hs1 Dr lz;have h5:b5 ∉ Bv:=lz b5 _ _ (by exact .here);have f5:w1.cell? ⟨b5,0,none⟩=some (.func (.func f) first.toArray cap.toArray):=At.lit (by exact Take.there .here) I w1 aT
  exact MJ (f:=225) (p:=fun o=>!q o) (first:=[]) (cap:=[.p b5]) u7 hs1 (by rw [Zd]) hn
   (fun o _ w2 fo=>MT (eL f5 I h5 fo) (fun w3 hk3=>cF o w3 ((aT.keeps.over (fun b hb=>Dr b hb) fo).trans hk3)))
 intro v' _;dsimp only [id_eq,Zb,Za];simp only [Bool.not_not];refine Ja I<|Jn<|Je ?_
 first | with_reducible apply aO | with_reducible apply aQ
 case he=>exact dI I I
 case hR=>
  intro w' aB;exact aF v' trivial (by exact .h1 .nil) aB I
theorem MU {q:Bool} [bV T_ f] {b5:Nat} {w:World} (f5:w.cell? ⟨b5,0,none⟩=some (.func (.func f) first.toArray cap.toArray))
  (cF:∀ w',aJ [] w w'->ak T_ f (first++[.string o]++cap) w' (.bool q)) :
  ak T_ 226 [.string o,.p b5] w (.bool (!q)):=by
 refine ah func226 I I ?_
 (refine Jr<|Ja I<|Ji<|ab (ag (.of I) (At.base f5 I)) I<|Jv I ?_)
 refine aj bN I (fun w' aB=>cF w' aB.keeps) ?_;refine JH I<|Ja I<|Jn<|Je<|JT ?_
 rfl
theorem Fk {l:List De} [bV T_ f] {w:World} (h:Rd w lv 3 (vJ l)) (hn:l.length<=1000000)
  (cF:∀ o w',aJ [] w w'->ak T_ f (first++[.string o]++cap) w' (.bool (q o))) :
  bh T_ 123 [lv,.func (.func 124) #[] #[],.func (.func f) first.toArray cap.toArray] w [] (fun _:Value=>True) id (fun v=>[row 9 1 v ((l.map De.nm).filter q).length (aP ((l.map De.nm).filter q))]):=by
 have tW:=Rd.one h;refine aR func123 I I ?_;refine Jr<|Jy I I fun _ _=>Ja I<|Ji<|Jv I<|Jv I ?_;rename_i b5 H7;refine JN bb I (fun w1 aT=>Gq (f:=124) (first:=[]) (cap:=[]) (g:=De.nm) (h.keeps aT.keeps) hn (fun x _ w2 _=>EN x w2)) ?_
 intro nv _;dsimp only [id_eq,Zb,Za];refine ab (bD .nil (.o I .nil)) I ?_
 with_reducible apply gq (As:=[row 9 1 nv l.length (aP (l.map De.nm))])
 case hr=>exact bb
 case hd=>rfl
 case ht=>exact iQ
 case hc=>
  intro w1 Bv aT u7 hs1 Dr lz;have h5:b5 ∉ Bv:=lz b5 _ _ (by exact .here);have f5:w1.cell? ⟨b5,0,none⟩=some (.func (.func f) first.toArray cap.toArray):=At.lit (by exact Take.there .here) I w1 aT
  exact MJ (f:=226) (p:=fun o=>!q o) (first:=[]) (cap:=[.p b5]) u7 hs1 (by rw [Zd]) hn
   (fun o _ w2 fo=>MU (eL f5 I h5 fo) (fun w3 hk3=>cF o w3 ((aT.keeps.over (fun b hb=>Dr b hb) fo).trans hk3)))
 intro v' _;dsimp only [id_eq,Zb,Za];simp only [Bool.not_not];refine Ja I<|Jn<|Je ?_
 first | with_reducible apply aO | with_reducible apply aQ
 case he=>exact dI I I
 case hR=>
  intro w' aB;exact aF v' trivial (by exact .h1 .nil) aB I
theorem Qw (v:Int) (o:ByteArray) {b1 b2:Nat} {w:World} (h:RR w r s d t p) (hA:BR w b1 (RC r s d t p)) (f2:w.cell? ⟨b2,0,none⟩=some (.q v)) :
  ak T_ 120 [.string o,.p b1,.p b2] w (.bool (gM r.po v o)):=by
 obtain ⟨h1,h2,h3,h4⟩:=h.one;have lj:∀ (j:Nat) (u:Value),[Value.int .i64 r.lv,.int .i64 r.ma,s,d,t,p][j]? = some u->w.cell? ⟨b1,0+j,none⟩=some u:=hA;refine ah func120 I I ?_
 (refine Jr<|Ja I<|Ji<|ab (iU (eR.base lj I)) I<|ab (ag (.of I) (At.base f2 I)) I<|Jv I ?_)
 refine aj eo I (fun w' aB=>rV v o (h.keeps aB.keeps)) ?_;refine Ja I<|Jn<|Je<|JT ?_
 rfl
theorem JZ (v:Int) (o so:ByteArray) {b1 b2 b3:Nat} {w:World} (h:RR w r s d t p) (c8:r.ti.length<=1000000) (hA:BR w b1 (RC r s d t p)) (f2:w.cell? ⟨b2,0,none⟩=some (.q v)) (f3:w.cell? ⟨b3,0,none⟩=some (.string so)) :
  ak T_ 125 [.string o,.p b1,.p b2,.p b3] w (.bool (decide (jD r v o=so))):=by
 obtain ⟨h1,h2,h3,h4⟩:=h.one;have lj:∀ (j:Nat) (u:Value),[Value.int .i64 r.lv,.int .i64 r.ma,s,d,t,p][j]? = some u->w.cell? ⟨b1,0+j,none⟩=some u:=hA;refine ah func125 I I ?_;refine Jr<|Ja I<|Jn<|Jq ?_
 with_reducible refine cJ 6 (by kernel_rfl) ?_
 (refine ar (iU (eR.base lj I)) I<|ar (ag (.of I) (At.base f2 I)) I<|fW I I<|dp eo I (fun w' aB=>(qP v o (RR.keeps h (Mem.keeps aB)) c8))<|ar (ag (.of I) (At.base f3 I)) I<|ar (dB (.of I) (.of I)) I ?_)
 with_reducible refine cN ?_
 refine Ja I<|Jn<|Je<|JT ?_
 rfl
def M4 (r:Ro) (v:Int):Int:=aZ [fZ r,Gs r v]
def Ir (r:Ro) (v:Int):List ByteArray:=if M4 r v≠0 then [] else (cR r).filter (gM r.po v)
theorem U4 (v:Int) {w:World} (h:RR w r s d t p) (c8:og r):bh T_ 23 [RA r s d t p,.q v] w [] (fun _:Value=>True) (fun x=>.tuple #[x,.q (M4 r v)]) (fun x=>[row 9 1 x (Ir r v).length (aP (Ir r v))]):=by
 obtain ⟨h1,h2,h3,h4⟩:=h.one;have gD:∀ w',aJ [] w w'->ak T_ 34 [.agg #[.int .i64 r.lv,.int .i64 r.ma,s,d,t,p]] w' (.int .i64 (fZ r)):=fun w' hk=>fj (h.keeps hk) c8
 have hle:∀ w',aJ [] w w'->ak T_ 114 [.agg #[.q r.lv,.q r.ma,s,d,t,p],.q v] w' (.q (Gs r v)):=fun w' hk=>lS v (h.keeps hk)
 unfold RA;refine aR func23 I I ?_;refine Jr<|Jy I I fun _ _=>Jy I I fun _ _=>Ja I<|Ja I<|Jn<|Jq<|Jq ?_;rename_i b2 rf b3 uf
 with_reducible refine di 6 (by kernel_rfl) ?_
 (refine az (cm (.there .here)) I<|aY bN I (fun w' aB=>(gD w' (Mem.keeps aB)))<|az (cm (.there .here)) I<|az (iB .here) I<|aY bb I (fun w' aB=>(hle w' (Mem.keeps aB)))<|eN (aD (.o I (.o I .nil)) I I I I) I I ?_)
 with_reducible refine dN I fun bq nf=>?_
 (refine aj bN I (fun w' aB=>(ee (Mem.dH aB .here I I) (cg.cons (cg.cons cg.nil))))<|Ja I<|Ji<|Jv I<|JD I<|Jn<|gG I (fun au=>?_) fun au=>?_;refine Jr<|Jv I<|Ja I<|Ja I<|Jn<|Ju ?_;rotate_left;refine Jk<|Jr<|bG I I ae<|JL I bI I<|ab (bD .nil (.o I (.o I .nil))) I ?_;rotate_right)
 ·have e1:Ir r v=[]:=if_pos au;rw [e1];refine aN 9 1 ?_
  first | with_reducible apply aO | with_reducible apply aQ
  case he=>exact gF I I I
  case hR=>
   intro w' aB;exact aF (.z) trivial (by exact .h1 .nil) aB I
 have e1:Ir r v=(r.ti.map Ti.nm).filter (gM r.po v):=if_neg au;have e0:aZ [fZ r,Gs r v]=0:=Zo.1 au;have e2:M4 r v=0:=e0;rw [e1,e2]
 with_reducible apply jZ
 case hr=>exact eo
 case hd=>rfl
 case ht=>exact bC.nil
 case hc=>
  intro w1 fp aT _ hs1;obtain rfl:fp=[]:=hs1;have hA:BR w1 b2 [.int .i64 r.lv,.int .i64 r.ma,s,d,t,p]:=BR.of aT bI;have f2:w1.cell? ⟨b3,0,none⟩=some (.int .i64 v):=At.lit (by exact Take.there .here) I w1 aT;have hR:=h.keeps aT.keeps
  exact Fj (f:=120) (q:=gM r.po v) (first:=[]) (cap:=[.p b2,.p b3]) hR.ti (by have:=c8.2.2;omega)
   (fun o w2 fo=>Qw v o (hR.keeps fo) (hA.keeps fo) (cG f2 I fo))
 intro x _;dsimp only [id_eq,Zb,Za];refine Ja I<|Ja I<|Jn<|Je ?_
 first | with_reducible apply aO | with_reducible apply aQ
 case he=>exact gF I I I
 case hR=>
  intro w' aB;exact aF x trivial (by exact .h1 .nil) aB I
def J7 (r:Ro) (v:Int) (so:ByteArray):Int:=aZ [fZ r,Gs r v,SJ r so]
def Hd (r:Ro) (v:Int) (so:ByteArray):List ByteArray:=if J7 r v so≠0 then [] else (cy r).filter fun o=>decide (jD r v o=so)
theorem QB (v:Int) (so:ByteArray) {w:World} (h:RR w r s d t p) (c8:og r):bh T_ 24 [RA r s d t p,.q v,.string so] w [] (fun _:Value=>True) (fun x=>.tuple #[x,.q (J7 r v so)]) (fun x=>[row 9 1 x (Hd r v so).length (aP (Hd r v so))]):=by
 obtain ⟨h1,h2,h3,h4⟩:=h.one;have gD:∀ w',aJ [] w w'->ak T_ 34 [.agg #[.int .i64 r.lv,.int .i64 r.ma,s,d,t,p]] w' (.int .i64 (fZ r)):=fun w' hk=>fj (h.keeps hk) c8
 have hle:∀ w',aJ [] w w'->ak T_ 114 [.agg #[.q r.lv,.q r.ma,s,d,t,p],.q v] w' (.q (Gs r v)):=fun w' hk=>lS v (h.keeps hk)
 have Bk:∀ w',aJ [] w w'->ak T_ 122 [.agg #[.q r.lv,.q r.ma,s,d,t,p],.string so] w' (.q (SJ r so)):=fun w' hk=>rn so (h.keeps hk)
 unfold RA;refine aR func24 I I ?_;refine Jr<|Jy I I fun _ _=>Jy I I fun _ _=>Jy I I fun _ _=>Ja I<|Ja I<|Jn<|Jq<|Jq ?_;rename_i b2 rf b3 uf b4 uT
 with_reducible refine di 9 (by kernel_rfl) ?_
 (refine az (cm bI) I<|aY bN I (fun w' aB=>(gD w' (Mem.keeps aB)))<|az (cm bI) I<|az (iB (.there .here)) I<|aY bb I (fun w' aB=>(hle w' (Mem.keeps aB)))<|az (cm bI) I<|az (iB .here) I<|aY bb I (fun w' aB=>(Bk w' (Mem.keeps aB)))<|eN (aD (.o I (.o I (.o I .nil))) I I I I) I I ?_)
 with_reducible refine dN I fun bq nf=>?_
 (refine aj bN I (fun w' aB=>(ee (Mem.dH aB .here I I) (cg.cons (cg.cons (cg.cons cg.nil)))))<|Ja I<|Ji<|Jv I<|JD I<|Jn<|gG I (fun au=>?_) fun au=>?_;refine Jr<|Jv I<|Ja I<|Ja I<|Jn<|Ju ?_;rotate_left;refine Jk<|Jr<|bG I I ae<|JL I cZ I<|ab (bD .nil (.o I (.o I (.o I .nil)))) I ?_;rotate_right)
 ·have e1:Hd r v so=[]:=if_pos au;rw [e1];refine aN 9 1 ?_
  first | with_reducible apply aO | with_reducible apply aQ
  case he=>exact gF I I I
  case hR=>
   intro w' aB;exact aF (.z) trivial (by exact .h1 .nil) aB I
 have e1:Hd r v so=(r.de.map De.nm).filter (fun o=>decide (jD r v o=so)):=if_neg au
 have e0:aZ [fZ r,Gs r v,SJ r so]=0:=Zo.1 au;have e2:J7 r v so=0:=e0;rw [e1,e2]
 with_reducible apply jZ
 case hr=>exact eo
 case hd=>rfl
 case ht=>exact bC.nil
 case hc=>
  intro w1 fp aT _ hs1;obtain rfl:fp=[]:=hs1;have hA:BR w1 b2 [.int .i64 r.lv,.int .i64 r.ma,s,d,t,p]:=BR.of aT cZ;have f2:w1.cell? ⟨b3,0,none⟩=some (.int .i64 v):=At.lit bI I w1 aT;have f3:w1.cell? ⟨b4,0,none⟩=some (.string so):=At.lit (by exact Take.there .here) I w1 aT;have hR:=h.keeps aT.keeps
  exact Fk (f:=125) (q:=fun o=>decide (jD r v o=so)) (first:=[]) (cap:=[.p b2,.p b3,.p b4]) hR.de (by have:=c8.2.1;omega)
   (fun o w2 fo=>JZ v o so (hR.keeps fo) (by have:=c8.2.2;omega) (hA.keeps fo) (cG f2 I fo) (cG f3 I fo))
 intro x _;dsimp only [id_eq,Zb,Za];refine Ja I<|Ja I<|Jn<|Je ?_
 first | with_reducible apply aO | with_reducible apply aQ
 case he=>exact gF I I I
 case hR=>
  intro w' aB;exact aF x trivial (by exact .h1 .nil) aB I
theorem AL :∀ {cs cur:List Value} {o:Nat},o+vs.length<=cs.length->setCells (cs++cur) o vs=setCells cs o vs++cur:=by
 induction vs with
 | nil=>intro cs cur o _;rfl
 | cons v vs ih =>
  intro cs cur o h;simp only [ZE] at h;rw [setCells,setCells,List.set_append_left _ _ (by omega),ih (by simp;omega)]
theorem yr {cs vs:List Value} (h:vs.length=cs.length):setCells cs 0 vs=vs:=by
 apply Zax;intro k;rw [jl _ _ _ _ (by omega)];by_cases hk:k<vs.length
 ·rw [if_pos (by omega),Nat.sub_zero]
 ·rw [if_neg (by omega),Zan (by omega),Zan (by omega)]
theorem Om {n sz i:Nat} {f:Nat->List Value} (hf:∀ i,i<n->(f i).length=sz) (hi:i<n) (hv:vs.length=sz):setCells (uA n f) (i*sz) vs=uA n (fun k=>if k=i then vs else f k):=by
 have:=Ol (o:=0) hf hi (by omega:0+vs.length<=sz);rw [Zaz] at this;rw [this];apply nK;intro k _;show (if k=i then _ else _)=(if k=i then _ else _)
 split
 ·exact yr (by rw [hf i hi,hv])
 ·rfl
def swp (B:Nat->ByteArray) (m k:Nat):Nat->ByteArray:=fun x=>if x<k\/m-k<=x then B (m-1-x) else B x
def s1 (B:Nat->ByteArray):Nat->List Value:=fun i=>[.string (B i)]
theorem pz (B:Nat->ByteArray) (m:Nat):∀ i,i<m->(s1 B i).length=1:=fun _ _=>rfl
theorem KJ {m i:Nat} (cur:List Value) (h:i<m):(uA m (s1 B)++cur)[i*1]? = some (.string (B i)):=by
 have hl:=iX (pz B m);rw [ZD (by rw [hl];omega)];exact AF (j:=0) (pz B m) h (by omega)
theorem KI {B C:Nat->ByteArray} {m i:Nat} {v:ByteArray} (cur:List Value) (h:i<m) (hC:∀ k,k<m->C k=if k=i then v else B k):setCells (uA m (s1 B)++cur) (i*1) [.string v]=uA m (s1 C)++cur:=by
 have hl:=iX (pz B m);rw [AL (by rw [hl];simp;omega),Om (pz B m) h I];congr 1;apply nK;intro k hk;unfold s1;rw [hC k hk];split <;> rfl
set_option maxHeartbeats 4000000 in
theorem KP {v:Value} {m:Nat} (hm:0<m) (ahu:m<=1000000) (hn:fp.Nodup) (hs:cr (hp w) [row 9 1 v m (uA m (s1 B))] fp) :
  bh T_ 117 [v] w fp (fun _:Unit=>True) (fun _=>.tuple #[]) (fun _=>[row 9 1 v m (uA m (s1 fun i=>B (m-1-i)))]):=by
 refine eh func117 I I hn hs ?_;refine dA (by exact .here) hm ?_;rintro g cap cur rfl dy Bm hsz Py;have hlen:=iX (pz B m);refine Jr<|Jv I<|JI I<|JS I (by omega)<|Ja I<|Ja I<|Jn<|J0 ?_;refine aV (fun k:Nat=>2*k<=m) (fun k=>[(2,.int .i64 k),(3,.int .i64 ((m-1-k:Nat):Int)),(0,.slice (some ⟨g,0,none⟩) m cap)]) (fun k=>[bz g (.cells (uA m (s1 (swp B m k))++cur).toArray 9 (0,0))]) (fun k=>m-2*k) ?_ ?_
 ·apply aI 0 (by omega)
  case hs1=>exact .cons I (.MP I (by congr 1;omega) (.cons I .nil))
  case ht=>
   rw [show uA m (s1 (swp B m 0))=uA m (s1 B) from nK fun i hi=>by unfold s1 swp;rw [if_neg (by omega)]]
   exact .h1 .nil
 intro k hk;have mW:=iX (pz (swp B m k) m);by_cases aM:k<m-1-k
 ·have hj:m-1-k<m:=by omega
  have Mb:k<m:=by omega
  have c1:=KJ (B:=swp B m k) cur Mb;have c2:=KJ (B:=swp B m k) cur hj;have Mi:=KI (C:=fun i=>if i=k then swp B m k (m-1-k) else swp B m k i) cur Mb (v:=swp B m k (m-1-k)) (B:=swp B m k) fun i _=>rfl
  have Ug:=KI (C:=swp B m (k+1)) cur hj (v:=swp B m k k) (B:=fun i=>if i=k then swp B m k (m-1-k) else swp B m k i) fun i hi=>by
   symm;unfold swp;by_cases e1:i=m-1-k
   ·subst e1;rw [if_pos I,if_neg (by omega),if_pos (by omega)];congr 1;omega
   ·rw [if_neg e1];by_cases e2:i=k
    ·subst e2;rw [if_pos I,if_neg (by omega),if_pos (by omega)]
    ·rw [if_neg e2];by_cases e3:i<k\/m-k<=i
     ·rw [if_pos e3,if_pos (by omega)]
     ·rw [if_neg e3,if_neg (by omega)]
  have r9:k*1+1<=(uA m (s1 (swp B m k))++cur).length:=by rw [Zg,mW];omega
  have rf:(m-1-k)*1+1<=(uA m (s1 (fun i=>if i=k then swp B m k (m-1-k) else swp B m k i))++cur).length:=by rw [Zg,iX (pz _ m)];omega
  refine Jq<|Jr<|Jv I<|Jv I<|JA I<|Jn<|Jd I fun au=>Jk<|Jq<|J0 ?_
  with_reducible refine Oc 16 I ?_
  (refine fA 0 I nG nG nG (fun w ρ=>rfl) (fun w=>(aS (.of I))) I<|fA 1 I nG nG nG (fun w ρ=>rfl) (fun w=>(aS (.of I))) I<|fA 2 I nG nG nG (fun w ρ=>rfl) (fun w=>(aS (.of I))) I<|fA 3 I nG nG nG (fun w ρ=>rfl) (fun w=>(aS (.of I))) I<|fA 4 I nG nG nG (fun w ρ=>rfl) (fun w=>(aS (.of I))) I<|fA 5 I nG nG nG (fun w ρ=>rfl) (fun w=>(aS (.of I))) I<|fA 6 I nG nG nG (fun w ρ=>rfl) (fun w=>(an (.of I) (.of I) I (by omega) (by omega) aW)) I<|fA 8 I nG nG nG (fun w ρ=>rfl) (fun w=>(aS (.of I))) I<|fA 9 I nG nG nG (fun w ρ=>rfl) (fun w=>(aS (.of I))) I<|fA 10 I nG nG nG (fun w ρ=>rfl) (fun w=>(an (.of I) (.of I) I (by omega) (by omega) aW)) I ?_)
  refine bR (rs:=[7,11]) (by kernel_rfl) (by simp) (Zw.2 ⟨?_,Zw.2 ⟨?_,fun _ h=>absurd h Zp⟩⟩)
  ·refine cd I ?_
   (refine ab (ag (.of I) (At.mJ .here c2)) I<|Jn ?_)
   ·refine bR (rs:=[11]) (by kernel_rfl) (by simp) (Zw.2 ⟨?_,fun _ h=>absurd h Zp⟩);refine cd I ?_
    (refine ab (ag (.of I) (At.mJ .here c1)) I<|Jn ?_)
    refine fA 12 I nG nG nG (fun w ρ=>rfl) (fun w=>(an (.of I) (.of I) I (by omega) (by omega) aW)) I ?_;refine bR (rs:=[13]) (by kernel_rfl) (by simp) (Zw.2 ⟨?_,fun _ h=>absurd h Zp⟩);refine cd I ?_
    with_reducible apply ao
    case hx=>exact Is.of I
    case hy=>exact Is.of I
    case ht=>exact .here
    case hv=>exact I
    case hl=>rfl
    case h1=>exact bO I ir
    case h2=>exact r9
    case he=>exact Mi
    refine Jn ?_;refine fA 14 I nG nG nG (fun w ρ=>rfl) (fun w=>(an (.of I) (.of I) I (by omega) (by omega) aW)) I ?_;refine bR (rs:=[15]) (by kernel_rfl) (by simp) (Zw.2 ⟨?_,fun _ h=>absurd h Zp⟩);refine cd I ?_
    with_reducible apply ao
    case hx=>exact Is.of I
    case hy=>exact Is.of I
    case ht=>exact .here
    case hv=>exact I
    case hl=>rfl
    case h1=>exact bO I ir
    case h2=>exact rf
    case he=>exact Ug
    refine Jn ?_
    with_reducible refine cE (by kernel_rfl) ?_
    refine Jj<|Jt<|Jg<|Jv I<|JB I (by omega)<|Jv I<|JS I (by omega)<|Ja I<|Ja I<|Jn ?_;apply aG (k+1) (by omega) (by omega)
    case hs1=>exact .cons I (.MP I (by congr 1;omega) (.cons I .nil))
    case ht=>exact iQ
  ·refine cd I ?_
   (refine ab (ag (.of I) (At.mJ .here c1)) I<|Jn ?_)
   ·refine bR (rs:=[7]) (by kernel_rfl) (by simp) (Zw.2 ⟨?_,fun _ h=>absurd h Zp⟩);refine cd I ?_
    (refine ab (ag (.of I) (At.mJ .here c2)) I<|Jn ?_)
    refine fA 12 I nG nG nG (fun w ρ=>rfl) (fun w=>(an (.of I) (.of I) I (by omega) (by omega) aW)) I ?_;refine bR (rs:=[13]) (by kernel_rfl) (by simp) (Zw.2 ⟨?_,fun _ h=>absurd h Zp⟩);refine cd I ?_
    with_reducible apply ao
    case hx=>exact Is.of I
    case hy=>exact Is.of I
    case ht=>exact .here
    case hv=>exact I
    case hl=>rfl
    case h1=>exact bO I ir
    case h2=>exact r9
    case he=>exact Mi
    refine Jn ?_;refine fA 14 I nG nG nG (fun w ρ=>rfl) (fun w=>(an (.of I) (.of I) I (by omega) (by omega) aW)) I ?_;refine bR (rs:=[15]) (by kernel_rfl) (by simp) (Zw.2 ⟨?_,fun _ h=>absurd h Zp⟩);refine cd I ?_
    with_reducible apply ao
    case hx=>exact Is.of I
    case hy=>exact Is.of I
    case ht=>exact .here
    case hv=>exact I
    case hl=>rfl
    case h1=>exact bO I ir
    case h2=>exact rf
    case he=>exact Ug
    refine Jn ?_
    with_reducible refine cE (by kernel_rfl) ?_
    refine Jj<|Jt<|Jg<|Jv I<|JB I (by omega)<|Jv I<|JS I (by omega)<|Ja I<|Ja I<|Jn ?_;apply aG (k+1) (by omega) (by omega)
    case hs1=>exact .cons I (.MP I (by congr 1;omega) (.cons I .nil))
    case ht=>exact iQ
 ·have aa7:uA m (s1 (swp B m k))=uA m (s1 fun i=>B (m-1-i)):=nK fun i hi=>by
   unfold s1 swp;by_cases e:i<k\/m-k<=i
   ·rw [if_pos e]
   ·rw [if_neg e];show [Value.string (B i)]=[Value.string (B (m-1-i))];rw [show m-1-i=i by omega]
  rw [aa7];have E5:=iX (pz (fun i=>B (m-1-i)) m)
  refine dC (n:=m) (cap:=cap) (sz:=1) (show Take _ (bz g (.cells ((uA m (s1 fun i=>B (m-1-i)))++cur).toArray 9 (0,0))) _ by exact .here) dy Bm (by rw [Zg,E5];rw [Zg,Py] at hsz;omega) E5 ?_;refine Jq<|Jr<|Jv I<|Jv I<|JA I<|Jn<|Jc I fun au=>Jp<|Jl<|Jo ?_
  first | with_reducible apply aO | with_reducible apply aQ
  case he=>exact rk I
  case hR=>
   intro w' aB;exact aF () trivial (by exact .h1 .nil) aB I
theorem F2 (l:List ByteArray):aP l=uA l.length (s1 fun i=>l.getD i ⟨#[]⟩):=by
 rw [Ek];apply Zax;intro k;have h1:((List.range l.length).map (s1 fun i=>l.getD i ⟨#[]⟩)).flatten=(List.range l.length).map fun i=>Value.string (l.getD i ⟨#[]⟩):=by
  have:=mj ((List.range l.length).map fun i=>Value.string (l.getD i ⟨#[]⟩))
  rw [ZaI] at this;exact this
 rw [h1];unfold aP;by_cases h:k<l.length
 ·simp [h,Zk]
 ·simp [h]
theorem Oq (l:List ByteArray):aP l.reverse=uA l.length (s1 fun i=>l.getD (l.length-1-i) ⟨#[]⟩):=by
 rw [F2,List.length_reverse];apply nK;intro i hi;show [Value.string (l.reverse.getD i ⟨#[]⟩)]=[Value.string (l.getD (l.length-1-i) ⟨#[]⟩)];rw [Zk,Zk,List.getElem?_reverse hi]
theorem Ey {v:Value} {l:List ByteArray} {n:Nat} (hl:n=l.length) (hm:n<=1000000) (hn:fp.Nodup) (hs:cr (hp w) [row 9 1 v n (aP l)] fp) :
  bh T_ 117 [v] w fp (fun _:Unit=>True) (fun _=>.tuple #[]) (fun _=>[row 9 1 v n (aP l.reverse)]):=by
 subst hl;by_cases h0:0<l.length
 ·rw [F2] at hs;rw [Oq];exact KP h0 hm hn hs
 ·obtain rfl:l=[]:=Z6 (by omega);show bh T_ 117 [v] w fp (fun _:Unit=>True) (fun _=>.tuple #[]) (fun _=>[row 9 1 v 0 []])
  replace hs:cr (hp w) [row 9 1 v 0 []] fp:=hs
  refine eh func117 I I hn hs ?_;refine aK (E:=9) (sz:=1) (by exact .here) fun a cp e=>?_;subst e;refine Jr<|Jv I<|JI I<|JS I (by omega)<|Ja I<|Ja I<|Jn<|J0 ?_;refine aV (fun _:Nat=>True) (fun k=>[(2,.q 0),(3,.q (-1)),(0,.slice a 0 cp)]) (fun k=>[row 9 1 (.slice a 0 cp) 0 []]) (fun k=>k) ?_ ?_
  ·apply aI 0 trivial
   case hs1=>exact bS
   case ht=>exact iQ
  intro k _;refine Jq<|Jr<|Jv I<|Jv I<|JA I<|Jn<|Jc I fun au=>Jp<|Jl<|Jo ?_
  first | with_reducible apply aO | with_reducible apply aQ
  case he=>exact rk I
  case hR=>
   intro w' aB;exact aF () trivial (by exact .h1 .nil) aB I
theorem Ng (v:Int) (o:ByteArray) {y:Nat×Nat×Nat} {w:World} {fp:List Nat} (jq:fp.Nodup) (hs:cr (hp w) [bz y.1 (.cells #[.string o] 9 (0,0)),JP y.2.1 r s d t p,bz y.2.2 (.cells #[.q v] 3 (0,0))] fp)
  (h:RR w r s d t p) (hO:RO fp r s d t p) (c8:r.ti.length<=1000000) :
  bh T_ 221 [.z,.func (.func 222) #[] #[.pointer (some ⟨y.1,0,none⟩),.pointer (some ⟨y.2.1,0,none⟩),.pointer (some ⟨y.2.2,0,none⟩)]] w fp (fun _:Value=>True) id (fun v1=>[row 9 1 v1 (fJ r.po v (r.ti.length+1) o).length (aP (fJ r.po v (r.ti.length+1) o))]):=by
 have hlen:=kT r.po v (r.ti.length+1) o;refine eh func221 I I jq hs ?_;refine Jr<|Jy I I fun _ _=>Ja I<|Jn<|Jq<|Jr<|Jv I<|Jn<|J0 ?_;rename_i b2 rf;refine aN 9 1 ?_
 refine kb (ps:=[7]) (f:=222) (first:=[]) (cap:=[.pointer (some ⟨y.1,0,none⟩),.pointer (some ⟨y.2.1,0,none⟩),.pointer (some ⟨y.2.2,0,none⟩)]) (ι:=Nat×Value) (κ:=Empty) (rst:=[]) ?hg
  [bz y.1 (.cells #[.string o] 9 (0,0)),JP y.2.1 r s d t p,bz y.2.2 (.cells #[.q v] 3 (0,0))] (yw r.po v (r.ti.length+1) o) ?hit
  (fun k x=>x.1=k/\k<=(fJ r.po v (r.ti.length+1) o).length)
  (fun x=>[bz b2 (.cells #[x.2] 32 (0,0)),row 9 1 x.2 x.1 (aP ((fJ r.po v (r.ti.length+1) o).take x.1))])
  (fun _=>False) (fun _=>[]) (fun _=>.ret) (0,.z) ⟨I,Zi _⟩ ?ht ?hlen ?hps ?round ?kn ?kj
 case hg=>exact Is.of I
 case hit=>intro w' aB;exact EJ v o h hO c8
 case ht=>
  exact .cons (.there .here) (.h4 .nil)
 case hlen=>intro vs pQ;obtain ⟨x,_,rfl⟩:=Zy.1 pQ;rfl
 case hps=>intro t ht;simp only [ZT,Zp,or_false] at ht;subst ht;exact ZaD rfl
 case kj=>intro y;cases y
 case kn=>
  rintro ⟨n,v1⟩ D ⟨hq,_⟩;dsimp only [Zb,Za] at hq ⊢;rw [sK] at hq;subst hq;rw [ZO];refine Jj<|Jt<|Jr<|JL I .here I<|Ja I<|Jn<|Je ?_;refine aK (E:=9) (sz:=1) (by exact Take.there .here) fun va vc e=>?_;subst e
  skip
  first | with_reducible apply aO | with_reducible apply aQ
  case he=>exact dI I I
  case hR=>
   intro w' aB;exact aF (.slice va (fJ r.po v (r.ti.length+1) o).length vc) trivial (by exact .cons (.there .here) .nil) aB I
 case round=>
  rintro l2 rc W XR k ⟨n,v1⟩ vs hsz hk ⟨hq,PL⟩ hB hF;dsimp only at hq;subst hq;obtain ⟨a,hit,rfl,Dj⟩:=EI hk;obtain ⟨aM,Mf⟩:=Zl.1 Dj;have htk:aP ((fJ r.po v (r.ti.length+1) o).take (n+1))=aP ((fJ r.po v (r.ti.length+1) o).take n)++[.string a]:=by rw [Zm aM,Mf,eT];rfl
  have mW:(aP ((fJ r.po v (r.ti.length+1) o).take n)).length=n*1:=by rw [c6,ZaT (by omega),Zav]
  dsimp only [List.zip_cons_cons,List.zip_nil_right,ns,Zb,Za];refine Jg<|Ja I<|Jn ?_
  with_reducible apply nJ
  case ht=>exact .here
  refine aK (E:=9) (sz:=1) bI fun v1 v2 e=>?_;subst e;refine J0<|Jg<|JL I (.there .here) I<|Jv I<|a8 (aD (.o I .nil) I I I I) I fun _ _=>?_;refine bn (.of I) (.of I) cZ .here ai (by rfl) (dG I) (by rfl) (by rfl) (by rfl) dW (by rfl) ?_;intro v';refine aK (by exact .here) fun a' iz e=>?_;subst e
  (refine ao (.of I) (.of I) cZ I I (dG I) (bu I) ai<|Jx<|Jj ?_)
  apply mO (n+1,.slice a' (n+1) iz)
  case ht=>exact cZ
  case hx=>exact ⟨I,aM⟩
  case h2=>
   show bC _ [bz b2 (.cells #[.slice a' (n+1) iz] 32 (0,0)),row 9 1 (.slice a' (n+1) iz) (n+1) (aP ((fJ r.po v (r.ti.length+1) o).take (n+1)))] _;rw [htk];exact .h2 .nil
theorem MQ (v:Int) (o:ByteArray) {y:Nat×Nat×Nat} {w:World} {fp:List Nat} (jq:fp.Nodup) (hs:cr (hp w) [bz y.1 (.cells #[.string o] 9 (0,0)),JP y.2.1 r s d t p,bz y.2.2 (.cells #[.q v] 3 (0,0))] fp)
  (h:RR w r s d t p) (hO:RO fp r s d t p) (c8:r.ti.length<=1000000) :
  bh T_ 115 [.func (.func 222) #[] #[.pointer (some ⟨y.1,0,none⟩),.pointer (some ⟨y.2.1,0,none⟩),.pointer (some ⟨y.2.2,0,none⟩)]] w fp (fun _:Value=>True) id (fun v1=>[row 9 1 v1 (fJ r.po v (r.ti.length+1) o).length (aP (fJ r.po v (r.ti.length+1) o))]):=by
 refine eh func115 I I jq hs ?_;refine Jr<|Ja I<|Ji<|Jv I ?_
 with_reducible apply gq (As:=[bz y.1 (.cells #[.string o] 9 (0,0)),JP y.2.1 r s d t p,bz y.2.2 (.cells #[.q v] 3 (0,0))])
 case hr=>exact bb
 case hd=>rfl
 case ht=>exact iQ
 case hc=>
  intro w1 Bv aT u7 hs1 Dr _;exact Ng v o u7 hs1 (h.ko hO aT.keeps) (h.out hO Dr) c8
 intro v1 _;dsimp only [id_eq,Zb,Za];refine Ja I<|Jn<|Je ?_
 first | with_reducible apply aO | with_reducible apply aQ
 case he=>exact dI I I
 case hR=>
  intro w' aB;exact aF v1 trivial (by exact .h1 .nil) aB I
def Kj (r:Ro) (v:Int) (o:ByteArray):Int:=aZ [fZ r,Gs r v,rm r o]
def Sv (r:Ro) (v:Int) (o:ByteArray):List ByteArray:=if fJ r.po v (r.ti.length+1) o=[] then [] else (fJ r.po v (r.ti.length+1) o).reverse++[o]
def Hj (r:Ro) (v:Int) (o:ByteArray):List ByteArray:=if Kj r v o≠0 then [] else Sv r v o
theorem QC (v:Int) (o:ByteArray) {w:World} (h:RR w r s d t p) (c8:og r):bh T_ 22 [RA r s d t p,.q v,.string o] w [] (fun _:Value=>True) (fun x=>.tuple #[x,.q (Kj r v o)]) (fun x=>[row 9 1 x (Hj r v o).length (aP (Hj r v o))]):=by
 obtain ⟨h1,h2,h3,h4⟩:=h.one;have aiw:=c8.2.2;have gD:∀ w',aJ [] w w'->ak T_ 34 [.agg #[.int .i64 r.lv,.int .i64 r.ma,s,d,t,p]] w' (.int .i64 (fZ r)):=fun w' hk=>fj (h.keeps hk) c8
 have hle:∀ w',aJ [] w w'->ak T_ 114 [.agg #[.q r.lv,.q r.ma,s,d,t,p],.q v] w' (.q (Gs r v)):=fun w' hk=>lS v (h.keeps hk)
 have nA:∀ w',aJ [] w w'->ak T_ 112 [.agg #[.q r.lv,.q r.ma,s,d,t,p],.string o] w' (.q (rm r o)):=fun w' hk=>eZ o (h.keeps hk)
 unfold RA;refine aR func22 I I ?_;refine Jr<|Jy I I fun _ _=>Ja I<|Ja I<|Jn<|Jq<|Jq ?_;rename_i b3 uf
 with_reducible refine di 9 (by kernel_rfl) ?_
 (refine az (cm .here) I<|aY bN I (fun w' aB=>(gD w' (Mem.keeps aB)))<|az (cm .here) I<|az mB I<|aY bb I (fun w' aB=>(hle w' (Mem.keeps aB)))<|az (cm .here) I<|az mB I<|aY bb I (fun w' aB=>(nA w' (Mem.keeps aB)))<|eN (aD (.o I (.o I (.o I .nil))) I I I I) I I ?_)
 with_reducible refine dN I fun bq nf=>?_
 (refine aj bN I (fun w' aB=>(ee (Mem.dH aB .here I I) (cg.cons (cg.cons (cg.cons cg.nil)))))<|Ja I<|Ji<|Jv I<|JD I<|Jn<|gG I (fun au=>?_) fun au=>?_;refine Jr<|Jv I<|Ja I<|Ja I<|Jn<|Ju ?_;rotate_left;refine Jk<|Jr<|ab (cm (.there .here)) I<|Jv I<|Jv I ?_;rotate_right)
 ·have e1:Hj r v o=[]:=if_pos au;rw [e1];refine aN 9 1 ?_
  first | with_reducible apply aO | with_reducible apply aQ
  case he=>exact gF I I I
  case hR=>
   intro w' aB;exact aF (.z) trivial (by exact .h1 .nil) aB I
 have e1:Hj r v o=Sv r v o:=if_neg au;have e0:aZ [fZ r,Gs r v,rm r o]=0:=Zo.1 au;have e2:Kj r v o=0:=e0;clear au;rw [e1,e2];refine JN eo I (fun w1 aT=>wC v o (h.keeps aT.keeps)) ?_;intro y _;dsimp only [id_eq,Zb,Za]
 skip
 with_reducible apply gq (As:=[bz y.1 (.cells #[.string o] 9 (0,0)),JP y.2.1 r s d t p,bz y.2.2 (.cells #[.q v] 3 (0,0))])
 case hr=>exact bN
 case hd=>rfl
 case ht=>exact iQ
 case hc=>
  intro w1 Bv aT u7 hs1 Dr _;exact MQ v o u7 hs1 (h.keeps aT.keeps) (h.out (md:=[]) RO.nil (fun b hb=>Dr b hb)) (by omega)
 intro v1 _;have hlen:=kT r.po v (r.ti.length+1) o;dsimp only [id_eq,Zb,Za];refine aK (E:=9) (sz:=1) (by exact .here) fun va vc e=>?_;subst e;unfold Sv;generalize hL:fJ r.po v (r.ti.length+1) o=L at hlen ⊢
 (refine Ja I<|Jn<|Jq<|Jr<|Jv I<|JI I<|JC I<|Jn<|gG I (fun au=>?_) fun au=>?_;refine Jr<|Ja I<|Ja I<|Jn<|Ju ?_;rotate_left;refine Jk<|Jr<|Jv I ?_;rotate_right)
 ·have L6:L=[]:=Z6 (by omega);rw [if_pos L6];refine aN 9 1 ?_
  first | with_reducible apply aO | with_reducible apply aQ
  case he=>exact gF I I I
  case hR=>
   intro w' aB;exact aF (.z) trivial (by exact .h1 .nil) aB I
 have hnn:¬ L=[]:=fun e=>by rw [e] at au;exact au I
 rw [if_neg hnn]
 with_reducible apply gq (As:=[row 9 1 (.slice va L.length vc) L.length (aP L)])
 case hr=>exact bN
 case hd=>rfl
 case ht=>exact iQ
 case hc=>
  intro w1 Bv aT u7 hs1 Dr _;exact Ey I (by omega) u7 hs1
 intro _ _;have a7:aP (L.reverse++[o])=aP L.reverse++[.string o]:=by rw [eT];rfl
 have hlr:(aP L.reverse).length=L.length*1:=by rw [c6,List.length_reverse,Zav]
 have E5:(L.reverse++[o]).length=L.length+1:=by simp
 rw [E5,a7];dsimp only [id_eq,Zb,Za];refine Ji<|Jv I<|Jv I<|a8 (aD (.o I .nil) I I I I) I fun _ _=>?_;refine bn (.of I) (.of I) (.there .here) .here ai (by rfl) (dG I) (by rfl) (by rfl) (by rfl) dW (by rfl) ?_;intro v';refine Ja I<|Ja I<|Jn<|Je ?_
 first | with_reducible apply aO | with_reducible apply aQ
 case he=>exact gF I I I
 case hR=>
  intro w' aB;exact aF v' trivial (by exact .h1 .nil) aB I
theorem HE {α:Type} {R:α->α->Prop} (ht:∀ a b c,R a b->R b c->R a c):∀ {l:List α},(∀ k (h:k+1<l.length),R l[k] l[k+1])->l.Pairwise R:=by
 intro l h;rw [Zac];intro i j hi hj yC;obtain ⟨d,rfl⟩:∃ d,j=i+1+d:=⟨j-(i+1),by omega⟩;clear yC
 induction d with
 | zero=>exact h i hj
 | succ d ih=>exact ht _ _ _ (ih (by omega)) (h (i+1+d) hj)
theorem qh {a b c d:Int}:¬ mI [a,b] [c,d]<=0↔c<a\/c=a/\d<b:=by
 unfold mI;by_cases h1:lA a c=0
 ·rw [if_neg (not_not_intro h1)];have:=js.1 h1;unfold mI;by_cases h2:lA b d=0
  ·rw [if_neg (not_not_intro h2)];have:=js.1 h2;unfold mI;omega
  ·rw [if_pos h2];unfold lA at h2 ⊢;split at h2 <;> split <;> first | omega | (split <;> omega)
 ·rw [if_pos h1];have Bq:a≠c:=fun e=>h1 (js.2 e)
  unfold lA;split
  ·omega
  ·split <;> omega
theorem Ll (hd:D4 r) (h6:r.ti.length<=6):oT r:=by
 obtain ⟨_,_,_,d1,d2,d3⟩:=hd.parts;exact ⟨d1,d2,d3,by unfold cR;rw [Zd];exact h6⟩
structure sg (r:Ro):Prop where
 lim:1<=r.lv/\r.lv<=3/\1<=r.ma/\r.ma<=4
 RU:D4 r
 len:r.sr.length<=8/\r.de.length<=8/\r.ti.length<=6
 sm:∀ x∈r.sr,0<=x.mx/\x.mx<r.ma
 dm:∀ x∈r.de,0<=x.mx/\x.mx<r.ma
 tm:∀ x∈r.ti,(0<=x.fr/\x.fr<r.ma)/\(0<=x.to/\x.to<r.ma)/\x.fr≠x.to
 val:jP r r.po
theorem sg.wJ (h:sg r):oT r:=Ll h.RU h.len.2.2
theorem kc {m:Int}:fM r m=0↔0<=m/\m<r.ma:=by
 unfold fM;rw [bW (by decide)];simp
theorem Lf (hd:∀ x∈r.de,0<=x.mx) (ht:∀ x∈r.ti,0<=x.fr) {s:ByteArray} (h:0<=k6 r s):s∈cy r\/s∈cR r:=by
 by_cases h1:s∈cy r
 ·exact .inl h1
 ·by_cases h2:s∈cR r
  ·exact .inr h2
  ·unfold k6 at h;have f1:=cM.2 h1;have f2:=cM.2 h2;rw [if_neg (by omega),if_neg (by omega)] at h;omega
theorem LK {s:ByteArray} (h:0<=kI r s):s∈cK r\/s∈cR r:=by
 by_cases h1:s∈cK r
 ·exact .inl h1
 ·by_cases h2:s∈cR r
  ·exact .inr h2
  ·unfold kI at h;have f1:=cM.2 h1;have f2:=cM.2 h2;rw [if_neg (by omega),if_neg (by omega)] at h;omega
theorem oq {x:Po} (h:nu r x=0):(0<=x.lv/\x.lv<r.lv)/\0<=k6 r x.ou/\0<=kI r x.ip/\k6 r x.ou=kI r x.ip:=by
 unfold nu at h;rw [cI] at h;have h1:=jj.1 (h _ Zs);have h2:=(bW (by decide)).1 (h (cn (decide (k6 r x.ou<0)) 10) (by simp));have h3:=(bW (by decide)).1 (h (cn (decide (kI r x.ip<0)) 10) (by simp));have h4:=(bW (by decide)).1 (h (cn (decide (k6 r x.ou≠kI r x.ip)) 24) (by simp));simp only [decide_eq_false_iff_not,ne_eq,Zo] at h2 h3 h4;exact ⟨by omega,by omega,by omega,h4⟩
theorem mu {q:Int->Bool}:kN r q=false↔∀ v:Int,0<=v->v<r.lv->q v=false:=by
 unfold kN;rw [Zas];constructor
 ·intro h v h0 h1;have:=h v.toNat (ZX.2 (by omega));rw [show ((v.toNat:Nat):Int)=v by omega] at this;simpa using this
 ·intro h i hi;have:=ZX.1 hi;rw [h i (by omega) (by omega)];decide
theorem BY (h:fZ r=0):sg r:=by
 obtain ⟨h1,h2,h3,h4⟩:=uu h;obtain ⟨lz,hlen,hs,hd,ht⟩:=AZ h2;have NK:∀ x∈r.de,0<=x.mx/\x.mx<r.ma:=fun x hx=>kc.1 (hd x hx)
 have Vg:∀ x∈r.ti,(0<=x.fr/\x.fr<r.ma)/\(0<=x.to/\x.to<r.ma)/\x.fr≠x.to:=fun x hx=>by
  have:=ht x hx;unfold oU at this;rw [cI] at this;have g3:=(bW (by decide)).1 (this (cn (decide (x.fr=x.to)) 24) (by simp));exact ⟨kc.1 (this _ (by simp)),kc.1 (this _ (by simp)),by simpa using g3⟩
 have hp:∀ k (hk:k<r.po.length),nu r r.po[k]=0/\¬ mI [(r.po[k]).lv,eC r (r.po[k]).ou] (Fq r (if k=0 then none else r.po[k-1]?))<=0:=fun k hk=>by
  have:=ew.1 h3 k hk;rw [sJ hk] at this;by_cases e:nu r r.po[k]=0
  ·rw [if_neg (not_not_intro e)] at this;by_cases e2:mI [(r.po[k]).lv,eC r (r.po[k]).ou] (Fq r (if k=0 then none else r.po[k-1]?))<=0
   ·rw [if_pos e2] at this;exact absurd this (by decide)
   ·exact ⟨e,e2⟩
  ·rw [if_pos e] at this;exact absurd this e
 have DW:∀ p∈r.po,nu r p=0:=fun p mF=>by
  obtain ⟨k,hk,rfl⟩:=ZA mF;exact (hp k hk).1
 have T7:∀ p∈r.po,0<=p.lv/\p.lv<r.lv:=fun p mF=>(oq (DW p mF)).1
 have hti:(cR r).length=r.ti.length:=by unfold cR;rw [Zd]
 unfold Be at h4;rw [cI] at h4;have Xq:=mu.1 ((bW (by decide)).1 (h4 (cn (kN r fun v=>r.ti.any (NM r v)) 33) (by simp)))
 have hop:=mu.1 ((bW (by decide)).1 (h4 (cn (kN r fun v=>r.ti.any (Le r v)) 32) (by simp)))
 have yz:∀ v:Int,¬ (0<=v/\v<r.lv)->∀ o,eB r.po v o=none:=fun v hv o=>jf.2 fun p mF e=>hv (e.1 ▸ T7 p mF)
 refine ⟨wQ h1,lz,hlen,fun x hx=>kc.1 (hs x hx),NK,Vg,?_,T7,?_,?_,?_,?_,?_⟩
 ·refine HE (R:=fun a b=>nF r a b=true) (fun a b c h h'=>zH h h') fun k hk=>?_;have:=(hp (k+1) hk).2;rw [if_neg (by omega),ZaA,Zc (by omega)] at this;have:=qh.1 this;unfold nF;simp only [ZR,Zn,decide_eq_true_eq];exact this
 ·exact fun p mF=>Lf (fun x hx=>(NK x hx).1) (fun x hx=>(Vg x hx).1.1) (oq (DW p mF)).2.1
 ·exact fun p mF=>LK (oq (DW p mF)).2.2.1
 ·exact fun p mF=>(oq (DW p mF)).2.2.2
 ·rintro v ⟨t,HU,hc⟩;rw [hti] at hc;by_cases hv:0<=v/\v<r.lv
  ·obtain ⟨x,hx,rfl⟩:=Zy.1 HU;have:=Zas.1 (Xq v hv.1 hv.2) x hx;exact this (fG.2 hc)
  ·rw [xI (yz v hv t)] at hc;cases hc
 ·intro v t HU;by_cases hv:0<=v/\v<r.lv
  ·obtain ⟨x,hx,rfl⟩:=Zy.1 HU;have:=Zas.1 (hop v hv.1 hv.2) x hx;unfold Le at this;cases h1:gM r.po v x.nm <;> cases h2:nD r.po v x.nm <;> rw [h1,h2] at this <;> simp at this <;> simp
  ·have e1:gM r.po v t=false:=by unfold gM;rw [yz v hv t];rfl
   have e2:nD r.po v t=false:=by
    unfold nD;rw [Zas];intro p mF e;unfold yx at e;simp only [Zn,decide_eq_true_eq] at e;exact hv (e.1 ▸ T7 p mF)
   rw [e1,e2]
theorem xL (hn:oT r) (h:jP r r.po) (v:Int) (o:ByteArray):jD r v o=qK r.po v (cK r) o:=by
 have hti:(cR r).length=r.ti.length:=by unfold cR;rw [Zd]
 have:=Ig hn h v o;rw [hti] at this;unfold jD qK;rw [this];by_cases hm:iL r.po v 7 o∈cK r
 ·have h0:=dS hm;obtain ⟨x,hx,e⟩:=Zy.1 hm;rw [if_pos (ZQ.2 ⟨x,hx,by simpa using e⟩),if_neg (by omega)]
 ·have h0:=cM.2 hm;rw [if_neg (fun e=>by
   obtain ⟨x,hx,e⟩:=ZQ.1 e;exact hm (Zy.2 ⟨x,hx,by simpa using e⟩)),if_pos h0]
end Go.Proofs.A1
namespace Go.SL
open Go
def lI (E:TypeId) (sz:Nat) (v:Value) (n:Nat) (xs:List Value):bd where
 sat h fp:=xs.length=n*sz/\((fp=[]/\v=.z/\n=0) \/
  ∃ g off cap cur,fp=[g]/\v=.slice (some ⟨g,off,none⟩) n cap/\h g=some (.cells cur E (0,0))/\n<=cap/\cap<=maxLen/\off+cap*sz<=cur.size/\(cur.toList.drop off).take (n*sz)=xs)
 loc:=by
  rintro h h' fp ⟨hl,h1⟩ hb;refine ⟨hl,h1.imp id ?_⟩;rintro ⟨g,off,cap,cur,rfl,rfl,hg,r⟩;exact ⟨g,off,cap,cur,I,I,by rw [hb g (by simp)];exact hg,r⟩
 own:=by
  rintro h fp ⟨hl,h1⟩ b hb;rcases h1 with ⟨rfl,_⟩ | ⟨g,off,cap,cur,rfl,rfl,hg,_⟩
  ·cases hb
  ·rw [ZG] at hb;subst hb;exact ⟨_,hg⟩
theorem pA {h:Nat->Option Obj} {E:TypeId} {sz:Nat} {v:Value} {n:Nat} {xs:List Value} {fp:List Nat} (hr:(row E sz v n xs).sat h fp):(lI E sz v n xs).sat h fp:=by
 obtain ⟨e,hl,h1⟩:=hr;rcases h1 with ⟨rfl,h0⟩ | ⟨g,cap,cur,rfl,hg,h2,h3,h4,h5⟩
 ·exact ⟨hl,.inl ⟨by simpa [Value.ownBlock] using e,I,h0⟩⟩
 ·exact ⟨hl,.inr ⟨g,0,cap,cur,by simpa [Value.ownBlock] using e,I,hg,h2,h3,by omega,by simpa using h5⟩⟩
section
variable {c:Cx} {D:List Nat} {sl:aL} {hs hs':List bd} {X:Act->World->Prop} {E:TypeId} {sz:Nat} {v:Value} {n:Nat} {xs:List Value}
theorem vi {A B:bd} (ht:Take hs A hs') (hc:∀ h fp,A.sat h fp->B.sat h fp) (k:Tr c D sl (B::hs') X):Tr c D sl hs X:=fun a w a7=>
 k a w (a7.heap (by
  obtain ⟨kk,fp,jq,⟨f1,f2,rfl,h1,h2⟩,hb⟩:=a7.mem.take (ht.append _);exact ⟨kk,f1++f2,jq,⟨f1,f2,I,hc _ _ h1,h2⟩,hb⟩))
theorem Hl (ht:Take hs (row E sz v n xs) hs') (k:Tr c D sl (lI E sz v n xs::hs') X):Tr c D sl hs X:=vi ht (fun _ _ h=>pA h) k
theorem y7 (ht:Take hs (lI E sz v n xs) hs') (k:∀ a cap,v=.slice a n cap->n<=cap->cap<=maxLen->Tr c D sl hs X):Tr c D sl hs X:=fun a w a7=>by
 obtain ⟨kk,fp,jq,⟨f1,f2,rfl,⟨_,h1⟩,h2⟩,hb⟩:=a7.mem.take (ht.append _);rcases h1 with ⟨_,e,h0⟩ | ⟨g,off,cap,cur,_,e,_,hc,hm,_⟩
 ·subst h0;exact k none 0 e (Zz _) (by unfold maxLen;omega) a w a7
 ·exact k _ cap e hc hm a w a7
theorem Ci (ht:Take hs (lI E sz v n xs) hs') (hn:0<n)
  (k:∀ g off cap pre cur,v=.slice (some ⟨g,off,none⟩) n cap->pre.length=off->n<=cap->cap<=maxLen->off+cap*sz<=(pre++xs++cur).length->xs.length=n*sz->Tr c D sl (bz g (.cells (pre++xs++cur).toArray E (0,0))::hs') X):Tr c D sl hs X:=fun a w a7=>by
 obtain ⟨kk,fp,jq,⟨f1,f2,rfl,⟨hl,h1⟩,h2⟩,hb⟩:=a7.mem.take (ht.append _);rcases h1 with ⟨_,_,h0⟩ | ⟨g,off,cap,cur,rfl,e,hg,hc,hm,hfit,htk⟩
 ·omega
 ·have hsz:n*sz<=cap*sz:=Zaa _ hc;have Ru:cur.size=cur.toList.length:=by simp
  have oE:cur=(cur.toList.take off++xs++cur.toList.drop (off+n*sz)).toArray:=by
   apply Array.ext';show cur.toList=_;rw [<- htk]
   conv=>lhs;rw [<- Z5 off cur.toList]
   rw [Zh];congr 1
   conv=>lhs;rw [<- Z5 (n*sz) (cur.toList.drop off)]
   rw [Zbl]
  refine k g off cap (cur.toList.take off) (cur.toList.drop (off+n*sz)) e ?_ hc hm ?_ hl a w (a7.heap ⟨kk,[g]++f2,jq,⟨[g],f2,I,⟨I,by rw [<- oE];exact hg⟩,h2⟩,hb⟩)
  ·rw [Zq];omega
  ·have:=congrArg (fun x:Array Value=>x.toList.length) oE
   simp only [ZaV] at this;rw [<- this];exact hfit
theorem zo {h:Nat->Option Obj} {g off cap:Nat} {pre cur:List Value} {fp:List Nat} (hb:(bz g (.cells (pre++xs++cur).toArray E (0,0))).sat h fp) (hp:pre.length=off) (hc:n<=cap) (hm:cap<=maxLen) (hfit:off+cap*sz<=(pre++xs++cur).length) (hl:xs.length=n*sz):(lI E sz (.slice (some ⟨g,off,none⟩) n cap) n xs).sat h fp:=by
 obtain ⟨e,hg⟩:=hb;refine ⟨hl,.inr ⟨g,off,cap,_,e,I,hg,hc,hm,by rw [Zbr];exact hfit,?_⟩⟩;show ((pre++xs++cur).drop off).take (n*sz)=xs;rw [Zh,<- hp,List.drop_left,<- hl,List.take_left]
theorem Ch {g off cap:Nat} {pre cur:List Value} (ht:Take hs (bz g (.cells (pre++xs++cur).toArray E (0,0))) hs') (hp:pre.length=off) (hc:n<=cap) (hm:cap<=maxLen) (hfit:off+cap*sz<=(pre++xs++cur).length) (hl:xs.length=n*sz)
  (k:Tr c D sl (lI E sz (.slice (some ⟨g,off,none⟩) n cap) n xs::hs') X):Tr c D sl hs X:=vi ht (fun _ _ h=>zo h hp hc hm hfit hl) k
theorem Cg {a:Option Addr} {cap:Nat} (ht:Take hs (lI E sz (.slice a (n+1) cap) (n+1) xs) hs') (k:Tr c D sl (lI E sz (Go.sliced a 1 (n+1) cap sz) n (xs.drop sz)::hs') X):Tr c D sl hs X:=
 vi ht (fun h fp hr=>by
  obtain ⟨hl,h1⟩:=hr;rcases h1 with ⟨_,_,h0⟩ | ⟨g,off,iz,cur,rfl,e,hg,hc,hm,hfit,htk⟩
  ·omega
  ·obtain ⟨rfl,-,rfl⟩:=Value.slice.inj e;have E5:(xs.drop sz).length=n*sz:=by rw [Zbj,hl,Zaj];omega
   refine ⟨E5,.inr ?_⟩;have WB:(cur.toList.drop (off+sz)).take (n*sz)=xs.drop sz:=by
    rw [<- htk,List.drop_take,Zbl,show (n+1)*sz-sz=n*sz by rw [Zaj];omega]
   by_cases Y9:cap=1
   ·subst Y9;have HZ:n=0:=by omega
    subst HZ;refine ⟨g,off,0,cur,I,?_,hg,Zz _,by omega,by omega,?_⟩
    ·simp [Go.sliced]
    ·rw [<- WB];simp
   ·refine ⟨g,off+sz,cap-1,cur,I,?_,hg,by omega,by omega,?_,WB⟩
    ·simp only [Go.sliced,if_neg Y9,Zbp,Addr.add,Nat.one_mul,ZaA];by_cases h0:sz=0
     ·rw [if_pos h0,h0];rfl
     ·rw [if_neg h0]
    ·have:cap*sz=(cap-1)*sz+sz:=by
      rw [<- Zaj];congr 1;omega
     omega) k
end
end Go.SL
namespace Go.SL
open Go Go.Shelf Go.RowKit Go.Proofs Go.Lib Go.Sort
theorem aJ.grown {w w':World} (h:aJ [] w w'):∃ q os',w'=Go.Sort.grow (w.drewN q) os':=by
 refine ⟨w'.drawn-w.drawn,w'.heap.extract w.heap.size w'.heap.size,?_⟩;have hd:=h.dr;have hh:w'.heap=w.heap++w'.heap.extract w.heap.size w'.heap.size:=by
  apply Array.ext_getElem?;intro k;by_cases hk:k<w.heap.size
  ·rw [Array.getElem?_append_left hk];exact h.block k hk (by simp)
  ·rw [Array.getElem?_append_right (by omega),Array.getElem?_extract];have hs:=h.size;by_cases fo:k<w'.heap.size
   ·rw [if_pos (by omega)];congr 1;omega
   ·rw [if_neg (by omega),Zby (by omega)]
 cases w';cases w;have h1:=h.os;have h2:=h.tape;have h3:=h.output;simp only at h1 h2 h3 hh hd;subst h1;subst h2;subst h3;simp only [Go.Sort.grow,World.drewN];congr 1;omega
section
variable {P:Program} {α:Type} [Inhabited α]
theorem xx {enc:α->List Value} {k:Nat} (hk:∀ x,(enc x).length=k) (l:List α):(Go.Sort.flatK enc k l.toArray).toList=(l.map enc).flatten:=by
 have tz:=jM hk l;apply Zax;intro t;by_cases ht:t<l.length*k
 ·have NG:0<k:=by
   rcases Nat.eq_zero_or_pos k with e | e
   ·rw [e] at ht;omega
   ·exact e
  have h1:t / k<l.length:=by rw [Nat.div_lt_iff_lt_mul NG];exact ht
  have h2:t % k<k:=Nat.mod_lt _ NG;have e3:=MB hk h1 h2 [];rw [ZN,Nat.div_add_mod' t k] at e3;rw [e3,ZaM];have hsz:t<(Go.Sort.flatK enc k l.toArray).size:=by rw [Go.Sort.size_flatK];simpa using ht
  have e4:(Go.Sort.flatK enc k l.toArray)[t]? = some ((Go.Sort.flatK enc k l.toArray)[t]!):=by
   rw [getElem!_pos _ t hsz];exact getElem?_pos _ t hsz
  rw [e4,Go.Sort.get_flatK _ _ _ _ (by simpa using ht),getElem!_pos l.toArray (t / k) (by simpa using h1)];have h5:t % k<(enc l[t / k]).length:=by rw [hk];exact h2
  rw [Zc h5];congr 1;show (enc (l.toArray[t / k]'_))[t % k]! = _;rw [show l.toArray[t / k]'(by simpa using h1)=l[t / k] from I,getElem!_pos _ (t % k) h5]
 ·rw [Zan (by rw [ZaV,Go.Sort.size_flatK];simpa using ht),Zan (by rw [tz];omega)]
theorem CQ (pre cur vs ws:List Value) (h:ws.length=vs.length):Go.Sort.putCells id pre.length ws.toArray (pre++vs++cur).toArray=(pre++ws++cur).toArray:=by
 apply Array.ext_getElem?;intro j;unfold Go.Sort.putCells;rw [Array.getElem?_mapIdx];simp only [List.getElem?_toArray,Zbr];by_cases h1:j<pre.length
 ·rw [Zh,Zh,ZD h1,ZD h1];rw [Zc h1];simp only [Zbp];rw [if_neg (by omega)]
 ·by_cases h2:j<pre.length+ws.length
  ·have e1:(pre++vs++cur)[j]? = some ((pre++vs++cur)[j]'(by simp;omega)):=Zc _;rw [e1,Zbp,if_pos (by omega)];rw [Zh,ZH (by omega),ZD (by omega),Zc (by omega)];congr 1;show ws.toArray[j-pre.length]! = _;rw [getElem!_pos ws.toArray (j-pre.length) (by simp;omega)]
   rfl
  ·rw [ZH (by simp;omega),ZH (by simp;omega)];simp only [Zg,h];cases cur[j-(pre.length+vs.length)]? with
   | none=>rfl
   | some x =>
    rw [Zbp,if_neg (by omega)]
theorem Cs {ρ:Ren} (L:SlLaysF0.n6 P ρ) {k:Nat} (aE:∀ w,(isAgg (ρ.t 24)).run P w=.ok true w) (zE:∀ w,(Go.sizeOf (ρ.t 24)).run P w=.ok k w) {enc:α->List Value} (hk:∀ x,(enc x).length=k) (h1:∀ x,∀ v∈enc x,v.oneCell'=true) {cf:α->α->Int} (hO:Go.Sort.SWO (ltOf cf))
  {g b cap:Nat} {cb:Array Value} {l:List α} {pre cur:List Value} {E:TypeId} {w:World} (eg:∀ args w,(callFunc g args).run P w=.ok (.enter g args) w) (hb:w.heap[b]? = some (.cells (pre++(l.map enc).flatten++cur).toArray E (0,0))) (hsz:l.length<4611686018427387904)
  (ab1:∀ w',aJ [b] w w'->∀ x y:α,Calls P g (#[.agg (enc x).toArray,.agg (enc y).toArray]++cb) w' fun e vP=>e=.returned (.q (cf x y))/\aJ [] w' vP) :
  Calls P (ρ.f 6) #[.slice (some ⟨b,pre.length,none⟩) l.length cap,.func (.func g) #[] cb] w fun e w'=>
   e=.returned (.tuple #[])/\∃ l':List α,l'.Perm l/\l'.Pairwise (fun x y=>ltOf cf y x=false)/\aJ [b] w w'/\w'.heap[b]? = some (.cells (pre++(l'.map enc).flatten++cur).toArray E (0,0)):=by
 have Ry:b<w.heap.size:=(Z1.1 hb).1;have WS:∀ (m:Nat) (d:Array α) (os:Array Obj),aJ [b] w (sortWorldK enc k w b pre.length m d os):=by
  intro m d os;unfold sortWorldK putRowK;refine ⟨I,I,I,Nat.le_add_right _ _,by simp,fun q hq hne=>?_⟩;rw [Go.Sort.heap_grow_old _ _ (by simpa using hq)];have:b≠q:=fun e=>hne (by rw [e];simp)
  simp [Go.Sort.putRow,Go.Sort.mapBlock,Go.Sort.ahead,Zbo,this]
 have hC:CmpLays P g cb enc k cf b pre.length l.toArray.size w:=fun m os dk _ x y=>(ab1 _ (WS m dk os) x y).mono fun e w' ⟨he,qH⟩=>⟨he,qH.grown⟩
 have tz:=jM hk l;have hH:HoldsK enc k w b pre.length l.toArray:=by
  intro j hj;rw [Go.Sort.size_flatK] at hj;have ly:j<l.length*k:=by simpa using hj
  refine ⟨?_,by simp [World.frozen?,hb]⟩;have h0:=xx hk l;simp only [World.cell?,hb,Option.isSome_none,ZaX,if_false,List.getElem?_toArray];rw [Zh,ZH (by omega),Zbx,ZD (by omega),<- h0,ZaM];have hs:j<(Go.Sort.flatK enc k l.toArray).size:=by rw [Go.Sort.size_flatK];exact hj
  rw [getElem!_pos _ j hs];exact getElem?_pos _ j hs
 have key:=AnyQ.slices_SortFunc L k aE zE enc hk h1 cf hO g cb b pre.length cap l.toArray w eg hC hH Ry (by simpa using hsz);refine Calls.mono key ?_;rintro e w' ⟨he,d',m,os,hp,Bk,hw⟩;subst hw;obtain ⟨B1,_,hp3⟩:=hp;have hd:List.Perm d'.toList l:=by
  rw [show (l.toArray.extract 0 l.toArray.size)=l.toArray by simp,show d'.extract 0 l.toArray.size=d' by rw [<- B1];simp] at hp3;exact hp3
 refine ⟨he,d'.toList,hd,?_,WS m d' os,?_⟩
 ·rw [Zac];intro i j hi hj yC;rw [ZaV] at hi hj;have Xm:d'.size=l.length:=by rw [B1];simp
  have:=Bk i j (Zi _) yC (by simp;omega);rw [getElem!_pos d' i hi,getElem!_pos d' j hj] at this;simpa using this
 ·unfold sortWorldK putRowK;rw [Go.Sort.heap_grow_old _ _ (by simpa using Ry)];have hpc:=CQ pre cur (l.map enc).flatten (Go.Sort.flatK enc k d').toList (by
   rw [ZaV,Go.Sort.size_flatK,tz,B1];simp)
  have PQ:=xx hk d'.toList;rw [Zbb] at PQ hpc;rw [PQ] at hpc;simp [Go.Sort.putRow,Go.Sort.mapBlock,Go.Sort.ahead,Zbo,hb,Go.Sort.onCells];simpa using hpc
end
end Go.SL
namespace Go.Proofs
open Go.Shelf
def Tryz.En:Go.Shelf.Ren:=⟨fun | 6=>260 | 15=>245 | 14=>320 | 28=>312 | 29=>313 | 20=>349 | 21=>350 | 22=>351 | 23=>352 | 24=>353 | 25=>354 | 26=>355 | 27=>356 | 46=>376 | 47=>344 | 48=>345 | 49=>377 | 50=>378 | 57=>392 | n=>n,fun | 22=>329 | 24=>244 | 25=>332 | 3=>3 | 39=>318 | 0=>0 | 53=>381 | 55=>383 | 4=>4 | 46=>374 | 45=>373 | 50=>272 | 5=>5 | 9=>9 | 66=>409 | 70=>413 | 76=>428 | 77=>359 | n=>n,fun | n=>n⟩
theorem Tryz.Eo:Go.Proofs.SlLaysF0.n6 Tryz.prog Tryz.En:={
 mixed:=by kernel_rfl
 f6:=⟨Tryz.f260.name,by decide,Tryz.func260.trans (congrArg some (by kernel_rfl))⟩
 f14:=⟨Tryz.f320.name,by decide,Tryz.func320.trans (congrArg some (by kernel_rfl))⟩
 f15:=Tryz.func245.trans (congrArg some (by kernel_rfl))
 f20:=⟨Tryz.f349.name,by decide,Tryz.func349.trans (congrArg some (by kernel_rfl))⟩
 f21:=⟨Tryz.f350.name,by decide,Tryz.func350.trans (congrArg some (by kernel_rfl))⟩
 f22:=⟨Tryz.f351.name,by decide,Tryz.func351.trans (congrArg some (by kernel_rfl))⟩
 f23:=⟨Tryz.f352.name,by decide,Tryz.func352.trans (congrArg some (by kernel_rfl))⟩
 f24:=⟨Tryz.f353.name,by decide,Tryz.func353.trans (congrArg some (by kernel_rfl))⟩
 f25:=⟨Tryz.f354.name,by decide,Tryz.func354.trans (congrArg some (by kernel_rfl))⟩
 f26:=⟨Tryz.f355.name,by decide,Tryz.func355.trans (congrArg some (by kernel_rfl))⟩
 f27:=⟨Tryz.f356.name,by decide,Tryz.func356.trans (congrArg some (by kernel_rfl))⟩
 f28:=Tryz.func312.trans (congrArg some (by kernel_rfl))
 f29:=Tryz.func313.trans (congrArg some (by kernel_rfl))
 f46:=⟨Tryz.f376.name,by decide,Tryz.func376.trans (congrArg some (by kernel_rfl))⟩
 f47:=Tryz.func344.trans (congrArg some (by kernel_rfl))
 f48:=Tryz.func345.trans (congrArg some (by kernel_rfl))
 f49:=⟨Tryz.f377.name,by decide,Tryz.func377.trans (congrArg some (by kernel_rfl))⟩
 f50:=⟨Tryz.f378.name,by decide,Tryz.func378.trans (congrArg some (by kernel_rfl))⟩
 f57:=⟨Tryz.f392.name,by decide,Tryz.func392.trans (congrArg some (by kernel_rfl))⟩
 t0:=Tryz.underlying0
 a0:=Tryz.isAgg0
 z0:=Tryz.sizeOf0
 v0:=Tryz.zeroValue0
 t3:=Tryz.underlying3
 a3:=Tryz.isAgg3
 z3:=Tryz.sizeOf3
 v3:=Tryz.zeroValue3
 t4:=Tryz.underlying4
 a4:=Tryz.isAgg4
 z4:=Tryz.sizeOf4
 v4:=Tryz.zeroValue4
 t5:=Tryz.underlying5
 a5:=Tryz.isAgg5
 z5:=Tryz.sizeOf5
 v5:=Tryz.zeroValue5
 t9:=Tryz.underlying9
 a9:=Tryz.isAgg9
 z9:=Tryz.sizeOf9
 v9:=Tryz.zeroValue9
 t22:=Tryz.underlying329
 a22:=Tryz.isAgg329
 z22:=Tryz.sizeOf329
 v22:=Tryz.zeroValue329
 t25:=Tryz.underlying332
 a25:=Tryz.isAgg332
 z25:=Tryz.sizeOf332
 v25:=Tryz.zeroValue332
 t39:=Tryz.underlying318
 a39:=Tryz.isAgg318
 z39:=Tryz.sizeOf318
 v39:=Tryz.zeroValue318
 t45:=Tryz.underlying373
 a45:=Tryz.isAgg373
 z45:=Tryz.sizeOf373
 v45:=Tryz.zeroValue373
 t46:=Tryz.underlying374
 a46:=Tryz.isAgg374
 z46:=Tryz.sizeOf374
 v46:=Tryz.zeroValue374
 t50:=Tryz.underlying272
 a50:=Tryz.isAgg272
 z50:=Tryz.sizeOf272
 v50:=Tryz.zeroValue272
 t53:=Tryz.underlying381
 a53:=Tryz.isAgg381
 z53:=Tryz.sizeOf381
 v53:=Tryz.zeroValue381
 t55:=Tryz.underlying383
 a55:=Tryz.isAgg383
 z55:=Tryz.sizeOf383
 v55:=Tryz.zeroValue383
 t66:=Tryz.underlying409
 a66:=Tryz.isAgg409
 z66:=Tryz.sizeOf409
 v66:=Tryz.zeroValue409
 t70:=Tryz.underlying413
 a70:=Tryz.isAgg413
 z70:=Tryz.sizeOf413
 v70:=Tryz.zeroValue413
 t76:=Tryz.underlying428
 a76:=Tryz.isAgg428
 z76:=Tryz.sizeOf428
 v76:=Tryz.zeroValue428
 t77:=Tryz.underlying359
 a77:=Tryz.isAgg359
 z77:=Tryz.sizeOf359
 v77:=Tryz.zeroValue359 }
def Tryz.Ep:Go.Shelf.Ren:=⟨fun | 6=>317 | 15=>245 | 14=>348 | 28=>312 | 29=>313 | 20=>368 | 21=>369 | 22=>370 | 23=>371 | 24=>372 | 25=>373 | 26=>374 | 27=>375 | 46=>389 | 47=>344 | 48=>345 | 49=>390 | 50=>391 | 57=>399 | n=>n,fun | 22=>39 | 24=>188 | 25=>388 | 3=>3 | 39=>318 | 0=>0 | 53=>381 | 55=>383 | 4=>4 | 46=>374 | 45=>373 | 50=>272 | 5=>5 | 9=>9 | 66=>409 | 70=>413 | 76=>428 | 77=>359 | n=>n,fun | n=>n⟩
theorem Tryz.Er:Go.Proofs.SlLaysF0.n6 Tryz.prog Tryz.Ep:={
 mixed:=by kernel_rfl
 f6:=⟨Tryz.f317.name,by decide,Tryz.func317.trans (congrArg some (by kernel_rfl))⟩
 f14:=⟨Tryz.f348.name,by decide,Tryz.func348.trans (congrArg some (by kernel_rfl))⟩
 f15:=Tryz.func245.trans (congrArg some (by kernel_rfl))
 f20:=⟨Tryz.f368.name,by decide,Tryz.func368.trans (congrArg some (by kernel_rfl))⟩
 f21:=⟨Tryz.f369.name,by decide,Tryz.func369.trans (congrArg some (by kernel_rfl))⟩
 f22:=⟨Tryz.f370.name,by decide,Tryz.func370.trans (congrArg some (by kernel_rfl))⟩
 f23:=⟨Tryz.f371.name,by decide,Tryz.func371.trans (congrArg some (by kernel_rfl))⟩
 f24:=⟨Tryz.f372.name,by decide,Tryz.func372.trans (congrArg some (by kernel_rfl))⟩
 f25:=⟨Tryz.f373.name,by decide,Tryz.func373.trans (congrArg some (by kernel_rfl))⟩
 f26:=⟨Tryz.f374.name,by decide,Tryz.func374.trans (congrArg some (by kernel_rfl))⟩
 f27:=⟨Tryz.f375.name,by decide,Tryz.func375.trans (congrArg some (by kernel_rfl))⟩
 f28:=Tryz.func312.trans (congrArg some (by kernel_rfl))
 f29:=Tryz.func313.trans (congrArg some (by kernel_rfl))
 f46:=⟨Tryz.f389.name,by decide,Tryz.func389.trans (congrArg some (by kernel_rfl))⟩
 f47:=Tryz.func344.trans (congrArg some (by kernel_rfl))
 f48:=Tryz.func345.trans (congrArg some (by kernel_rfl))
 f49:=⟨Tryz.f390.name,by decide,Tryz.func390.trans (congrArg some (by kernel_rfl))⟩
 f50:=⟨Tryz.f391.name,by decide,Tryz.func391.trans (congrArg some (by kernel_rfl))⟩
 f57:=⟨Tryz.f399.name,by decide,Tryz.func399.trans (congrArg some (by kernel_rfl))⟩
 t0:=Tryz.underlying0
 a0:=Tryz.isAgg0
 z0:=Tryz.sizeOf0
 v0:=Tryz.zeroValue0
 t3:=Tryz.underlying3
 a3:=Tryz.isAgg3
 z3:=Tryz.sizeOf3
 v3:=Tryz.zeroValue3
 t4:=Tryz.underlying4
 a4:=Tryz.isAgg4
 z4:=Tryz.sizeOf4
 v4:=Tryz.zeroValue4
 t5:=Tryz.underlying5
 a5:=Tryz.isAgg5
 z5:=Tryz.sizeOf5
 v5:=Tryz.zeroValue5
 t9:=Tryz.underlying9
 a9:=Tryz.isAgg9
 z9:=Tryz.sizeOf9
 v9:=Tryz.zeroValue9
 t22:=Tryz.underlying39
 a22:=Tryz.isAgg39
 z22:=Tryz.sizeOf39
 v22:=Tryz.zeroValue39
 t25:=Tryz.underlying388
 a25:=Tryz.isAgg388
 z25:=Tryz.sizeOf388
 v25:=Tryz.zeroValue388
 t39:=Tryz.underlying318
 a39:=Tryz.isAgg318
 z39:=Tryz.sizeOf318
 v39:=Tryz.zeroValue318
 t45:=Tryz.underlying373
 a45:=Tryz.isAgg373
 z45:=Tryz.sizeOf373
 v45:=Tryz.zeroValue373
 t46:=Tryz.underlying374
 a46:=Tryz.isAgg374
 z46:=Tryz.sizeOf374
 v46:=Tryz.zeroValue374
 t50:=Tryz.underlying272
 a50:=Tryz.isAgg272
 z50:=Tryz.sizeOf272
 v50:=Tryz.zeroValue272
 t53:=Tryz.underlying381
 a53:=Tryz.isAgg381
 z53:=Tryz.sizeOf381
 v53:=Tryz.zeroValue381
 t55:=Tryz.underlying383
 a55:=Tryz.isAgg383
 z55:=Tryz.sizeOf383
 v55:=Tryz.zeroValue383
 t66:=Tryz.underlying409
 a66:=Tryz.isAgg409
 z66:=Tryz.sizeOf409
 v66:=Tryz.zeroValue409
 t70:=Tryz.underlying413
 a70:=Tryz.isAgg413
 z70:=Tryz.sizeOf413
 v70:=Tryz.zeroValue413
 t76:=Tryz.underlying428
 a76:=Tryz.isAgg428
 z76:=Tryz.sizeOf428
 v76:=Tryz.zeroValue428
 t77:=Tryz.underlying359
 a77:=Tryz.isAgg359
 z77:=Tryz.sizeOf359
 v77:=Tryz.zeroValue359 }
end Go.Proofs
namespace Go.Proofs.A1
open Go Go.SL Go.Shelf Go.Proofs
open Go.Proofs.Tryz
open Go.Proofs.Tryz renaming prog->T_
structure Wy where
 v:Value
 p:List Nat
 f:Nat
def Wy.cells (x:Wy):List Value:=[x.v,.q (x.f:Nat)]
def nz (p:List Nat):List Int:=p.map fun i:Nat=>(i:Int)
def gV (p:List Nat):List Value:=p.map fun i=>.q (i:Nat)
def VG (l:List Wy):List (List Value):=l.map Wy.cells
def od (l:List Wy):List Value:=(VG l).flatten
theorem zG (p:List Nat):(gV p).map (fun u=>[u])=ints (nz p):=by simp [gV,ints,nz]
theorem tQ (p:List Nat):(nz p).length=p.length:=by simp [nz]
def VJ (a b:Nat×List Nat):Int:=aZ [lA a.1 b.1,lA (a.2.length:Nat) (b.2.length:Nat),mI (nz a.2) (nz b.2)]
def wl (a b:Nat×List Nat):Bool:=decide (a.1<b.1)||(decide (a.1=b.1)&&(decide (a.2.length<b.2.length)||(decide (a.2.length=b.2.length)&&lexB a.2 b.2)))
theorem xG {x y:Int}:lA x y<0↔x<y:=by
 unfold lA;split
 ·constructor <;> intro _ <;> omega
 ·split <;> constructor <;> intro _ <;> omega
theorem DA:∀ {a b:List Nat},a.length=b.length->(mI (nz a) (nz b)<0↔lexB a b=true)
 | [],[],_=>by simp [nz,mI,lexB]
 | [],_::_,h=>by simp at h
 | _::_,[],h=>by simp at h
 | x :: a, y :: b, h => by
  have ih:=DA (a:=a) (b:=b) (by simpa using h);show (if lA x y≠0 then lA x y else mI (nz a) (nz b))<0↔_
  unfold lexB;by_cases e:(x:Int)=y
  ·rw [if_neg (not_not_intro (js.2 e)),ih];have e':x=y:=by exact_mod_cast e
   simp [e']
  ·rw [if_pos (fun q=>e (js.1 q)),xG]
   have e':¬ x=y:=fun q=>e (by rw [q])
   simp [e']
theorem FI (a b:Nat×List Nat):VJ a b<0↔wl a b=true:=by
 unfold VJ wl aZ;by_cases h1:(a.1:Int)=b.1
 ·rw [if_neg (not_not_intro (js.2 h1))];have Bq:a.1=b.1:=by exact_mod_cast h1
  unfold aZ;by_cases h2:((a.2.length:Nat):Int)=(b.2.length:Nat)
  ·rw [if_neg (not_not_intro (js.2 h2))];have H8:a.2.length=b.2.length:=by exact_mod_cast h2
   have h3:=DA H8;unfold aZ;by_cases h4:mI (nz a.2) (nz b.2)=0
   ·rw [if_neg (not_not_intro h4)];rw [h4] at h3;simp [aZ,Bq,H8];have:=h3.symm;simpa using this
   ·rw [if_pos h4,h3];simp [Bq,H8]
  ·rw [if_pos (fun q=>h2 (js.1 q)),xG]
   have H8:¬ a.2.length=b.2.length:=fun q=>h2 (by rw [q])
   simp [Bq,H8]
 ·rw [if_pos (fun q=>h1 (js.1 q)),xG]
  have Bq:¬ a.1=b.1:=fun q=>h1 (by rw [q])
  simp [Bq]
theorem yS (a:Nat×List Nat):wl a a=false:=by unfold wl;rw [pL];simp
theorem B7 {a b c:Nat×List Nat} (h1:wl a b=true) (h2:wl b c=true):wl a c=true:=by
 unfold wl at *;simp only [ZR,Zn,decide_eq_true_eq] at *;rcases h1 with h1 | ⟨e1,h1 | ⟨e2,h1⟩⟩ <;> rcases h2 with h2 | ⟨g1,h2 | ⟨g2,h2⟩⟩
 ·exact .inl (by omega)
 ·exact .inl (by omega)
 ·exact .inl (by omega)
 ·exact .inl (by omega)
 ·exact .inr ⟨by omega,.inl (by omega)⟩
 ·exact .inr ⟨by omega,.inl (by omega)⟩
 ·exact .inl (by omega)
 ·exact .inr ⟨by omega,.inl (by omega)⟩
 ·exact .inr ⟨by omega,.inr ⟨by omega,rJ h1 h2⟩⟩
theorem I9 {a b:Nat×List Nat} (h:a≠b):wl a b=true\/wl b a=true:=by
 unfold wl;simp only [ZR,Zn,decide_eq_true_eq];rcases Zal a.1 b.1 with h1 | h1 | h1
 ·exact .inl (.inl h1)
 ·rcases Zal a.2.length b.2.length with h2 | h2 | h2
  ·exact .inl (.inr ⟨h1,.inl h2⟩)
  ·have hne:a.2≠b.2:=fun e=>h (Prod.ext h1 e)
   rcases rK h2 hne with h3 | h3
   ·exact .inl (.inr ⟨h1,.inr ⟨h2,h3⟩⟩)
   ·exact .inr (.inr ⟨h1.symm,.inr ⟨h2.symm,h3⟩⟩)
  ·exact .inr (.inr ⟨h1.symm,.inl h2⟩)
 ·exact .inr (.inl h1)
theorem Sk {α:Type} (g:α->Nat×List Nat):Go.Sort.SWO (ltOf fun x y:α=>VJ (g x) (g y)):=by
 have e:∀ x y:α,ltOf (fun x y:α=>VJ (g x) (g y)) x y=wl (g x) (g y):=fun x y=>by
  unfold ltOf;rw [ZaW,decide_eq_true_eq];exact FI _ _
 constructor
 ·intro x;rw [e];exact yS _
 ·intro x y z h1 h2;rw [e] at *;exact B7 h1 h2
 ·intro x y z h1 h2;rw [e] at *;by_cases h:wl (g x) (g z)=true
  ·by_cases e1:g x=g y
   ·rw [e1,h2] at h;cases h
   ·rcases I9 e1 with h3 | h3
    ·rw [h1] at h3;cases h3
    ·rw [B7 h3 h] at h2;cases h2
  ·simpa using h
variable {fp:List Nat} {w:World}
theorem Wi {v:Value} {cs:List Value} {es:List Int} (h:Rd w v 1 (cs.map fun v=>[v])) (hl:cg cs es):ak T_ 319 [v] w (.q (aZ es)):=
 Wj (by rw [<- hl.eq];exact h)
theorem Sl {v1 v2:Value} {p q:List Nat} {f1 f2:Nat} (h1:Rd w v1 1 (ints (nz p))) (h2:Rd w v2 1 (ints (nz q))) :
  ak T_ 261 [.agg #[v1,.q (f1:Nat)],.agg #[v2,.q (f2:Nat)]] w (.q (VJ (f1,p) (f2,q))):=by
 have ab2:∀ w',aJ [] w w'->ak T_ 236 [v1,v2] w' (.q (mI (nz p) (nz q))):=fun w' hk=>z7 (h1.keeps hk) (h2.keeps hk)
 obtain ⟨a,cp,b,o,rfl,dy,bT,ha,hc⟩:=h1;rw [dz,tQ] at *;obtain ⟨a',VD,b',o',rfl,oQ,Rn,cu,Y1⟩:=h2;rw [dz,tQ] at *;have jK:=ab2;refine ah func261 I I ?_;refine Jr<|Jy I I fun _ _=>Jy I I fun _ _=>Ja I<|Jn<|Jq ?_
 with_reducible refine di 18 (by kernel_rfl) ?_
 (refine az lV I<|az (iB (.there .here)) I<|az lV I<|az (iB .here) I<|aY bb I (fun w' aB=>(Dz _ _ w'))<|az lV I<|az (iB (.there .here)) I<|az (cq (.of I)) I<|az lV I<|az (iB .here) I<|az (cq (.of I)) I<|aY bb I (fun w' aB=>(Dz _ _ w'))<|az lV I<|az (iB (.there .here)) I<|az lV I<|az (iB .here) I<|aY bb I (fun w' aB=>(jK w' (Mem.keeps aB)))<|eN (aD (.o I (.o I (.o I .nil))) I I I I) I I ?_)
 with_reducible refine dN I fun bq nf=>?_
 (refine aj bN I (fun w' aB=>(Wi (Mem.dH aB .here I I) (cg.cons (cg.cons (cg.cons cg.nil)))))<|Ja I<|Jn<|Je<|JT ?_)
 rfl
theorem Sg (l:List Wy):∀ r∈VG l,r.length=2:=fun r hr=>by obtain ⟨x,_,rfl⟩:=Zy.1 hr;rfl
theorem qn (l:List Wy):(od l).length=l.length*2:=by unfold od;rw [fH (Sg l)];unfold VG;rw [Zd]
theorem NX (a b:List Wy):od (a++b)=od a++od b:=by unfold od VG;rw [Zt,Zaf]
def jt (lB:List Wy):bd:=gY 3 (lB.map Wy.v) (lB.map fun x=>gV x.p)
theorem G2 {lB:List Wy} (hn:fp.Nodup) (hs:cr (hp w) [jt lB] fp) {x:Wy} (hx:x∈lB):Rd w x.v 1 (ints (nz x.p)):=by
 obtain ⟨j,hj,rfl⟩:=ZA hx;have hm:Mem ⟨w,fp,0⟩ [jt lB] w:=⟨.refl _ _,fp,hn,hs,fun b hb=>.inr hb⟩
 have:=hm.wA (j:=j) (v:=(lB[j]).v) (x:=gV (lB[j]).p) .here (by simp [hj]) (by simp [hj]);rwa [zG] at this
theorem Fs {c:Cx} {hs hs':List bd} (hm:Mem c hs w) {lB:List Wy} (ht:Take hs (jt lB) hs') {x:Wy} (hx:x∈lB):Rd w x.v 1 (ints (nz x.p)):=by
 obtain ⟨j,hj,rfl⟩:=ZA hx;have:=hm.wA (j:=j) (v:=(lB[j]).v) (x:=gV (lB[j]).p) ht (by simp [hj]) (by simp [hj]);rwa [zG] at this
theorem Kz {v:Value} {n:Nat} {l lB:List Wy} (jq:fp.Nodup) (hs:cr (hp w) [lI 244 2 v n (od l),jt lB] fp) (hn:n=l.length) (jI:∀ x∈l,x∈lB) (c8:n<=1000000) (Y9:∀ x∈lB,x.v.oneCell'=true) :
  bh T_ 260 [v,.func (.func 261) #[] #[]] w fp (fun l':List Wy=>l'.Perm l/\l'.Pairwise (fun x y=>wl (y.f,y.p) (x.f,x.p)=false)) (fun _=>.tuple #[]) (fun l'=>[lI 244 2 v n (od l'),jt lB]):=by
 obtain ⟨f1,f2,rfl,h1,h2⟩:=hs;obtain ⟨hlen,h1⟩:=h1;have T4:=(ZK.1 jq).2.1;have lz:=(ZK.1 jq).2.2;rcases h1 with ⟨rfl,rfl,h0⟩ | ⟨g,off,cap,cur,rfl,rfl,hg,kS,kr,hfit,htk⟩
 ·have mX:l=[]:=Z6 (by omega);subst mX;refine (AnyF.slices_SortFunc_none Tryz.Eo none 0 (.func (.func 261) #[] #[]) w).mono fun e w' ⟨he,hw⟩=>?_;subst hw;exact ⟨[],he,⟨.refl _,.nil⟩,.refl _ _,[]++f2,by simpa using T4,⟨[],f2,I,⟨hlen,.inl ⟨I,I,h0⟩⟩,h2⟩,fun b hb=>.inl hb⟩
 ·subst hn;have Ul:g<w.heap.size:=(Z1.1 hg).1;by_cases mX:l=[]
  ·subst mX;refine (AnyF.slices_SortFunc_none Tryz.Eo (some ⟨g,off,none⟩) cap (.func (.func 261) #[] #[]) w).mono fun e w' ⟨he,hw⟩=>?_;subst hw;exact ⟨[],he,⟨.refl _,.nil⟩,.refl _ _,[g]++f2,jq,⟨[g],f2,I,⟨hlen,.inr ⟨g,off,cap,cur,I,I,hg,kS,kr,hfit,htk⟩⟩,h2⟩,fun b hb=>.inl hb⟩
  obtain ⟨x0,TC⟩:=List.exists_mem_of_ne_nil l mX
  let α:={x:Wy // x∈lB}
  let _:Inhabited α:=⟨⟨x0,jI x0 TC⟩⟩
  let enc:α->List Value:=fun x=>x.1.cells
  have hle:l.length*2<=cap*2:=Zaa _ kS;have Ru:cur.size=cur.toList.length:=by simp
  have oE:cur=(cur.toList.take off++od l++cur.toList.drop (off+l.length*2)).toArray:=by
   apply Array.ext';show cur.toList=_;rw [<- htk]
   conv=>lhs;rw [<- Z5 off cur.toList]
   rw [Zh];congr 1
   conv=>lhs;rw [<- Z5 (l.length*2) (cur.toList.drop off)]
   rw [Zbl]
  have xg:(cur.toList.take off).length=off:=by rw [Zq];omega
  generalize kL:cur.toList.take off=pre at oE xg;generalize WT:cur.toList.drop (off+l.length*2)=post at oE
  let la:List α:=l.attach.map fun x=>⟨x.1,jI x.1 x.2⟩
  have T8:la.map (fun x:α=>x.1)=l:=by
   show (l.attach.map fun x=>(⟨x.1,jI x.1 x.2⟩:α)).map (fun x:α=>x.1)=l
   rw [ZaI];exact List.attach_map_subtype_val l
  have Dg:∀ m:List α,(m.map enc).flatten=od (m.map fun x:α=>x.1):=fun m=>by
   unfold od VG;rw [ZaI];rfl
  have E4:la.length=l.length:=by
   show (l.attach.map fun x=>(⟨x.1,jI x.1 x.2⟩:α)).length=_
   rw [Zd,List.length_attach]
  have rf:w.heap[g]? = some (.cells (pre++(la.map enc).flatten++post).toArray 244 (0,0)):=by rw [Dg,T8,<- oE];exact hg
  have key:=Cs Tryz.Eo (k:=2) isAgg244 sizeOf244 (enc:=enc) (fun _=>rfl)
   (fun x u hu=>by
    have hx:=Y9 x.1 x.2;simp only [enc,Wy.cells,ZT,Zp,or_false] at hu;rcases hu with rfl | rfl
    ·exact hx
    ·rfl)
   (Sk (fun x:α=>(x.1.f,x.1.p))) (g:=261) (b:=g) (cap:=cap) (cb:=#[]) (l:=la) (pre:=pre) (cur:=post) (E:=244) (w:=w)
   (enters_of func261 (by kernel_rfl) I) rf (by rw [E4];omega)
   (fun w' hk x y=>by
    have hp:cr (hp w') [jt lB] f2:=cr.loc h2 fun b hb=>by
     have Ry:b<w.heap.size:=by
      obtain ⟨o,ho⟩:=cr.own h2 b hb;exact lg ho
     exact hk.block b Ry (fun e=>lz g (by simp) b hb (ZG.1 e).symm)
    exact Sl (G2 T4 hp x.2) (G2 T4 hp y.2))
  rw [E4,xg] at key;refine Calls.mono key ?_;rintro e w' ⟨he,l',iH,hpw,hk,dM⟩;have zO:(l'.map fun x:α=>x.1).length=l.length:=by rw [Zd,iH.length_eq,E4]
  rw [Dg] at dM;refine ⟨l'.map fun x:α=>x.1,he,⟨?_,?_⟩,hk.mono (by simp),[g]++f2,jq,⟨[g],f2,I,?_,cr.loc h2 fun b hb=>?_⟩,fun b hb=>.inl hb⟩
  ·have:=iH.map (fun x:α=>x.1)
   rwa [T8] at this
  ·rw [ZbB];refine hpw.imp fun {x y} h=>?_;unfold ltOf at h;rw [decide_eq_false_iff_not,FI] at h;simpa using h
  ·have hr:=zo (n:=l.length) (sz:=2) (cap:=cap) (fp:=[g]) (h:=hp w') ⟨I,dM⟩ xg kS kr (by
    have:=congrArg (fun x:Array Value=>x.toList.length) oE
    simp only [ZaV,Zg,qn] at this;rw [Zg,Zg,qn,zO,<- this];exact hfit) (by rw [qn,zO])
   exact hr
  ·have Ry:b<w.heap.size:=by
    obtain ⟨o,ho⟩:=cr.own h2 b hb;exact lg ho
   exact hk.block b Ry (fun e=>lz g (by simp) b hb (ZG.1 e).symm)
end Go.Proofs.A1
namespace Go.Proofs.A1
open Go Go.SL
open Tryz
open Tryz renaming prog->T_
theorem MC {α:Type} {q:α->Bool} {l:List α} {k:Nat} (h:k<l.length) (hq:q l[k]=true):(l.filter q)[((l.take k).filter q).length]? = some l[k]:=by
 have e:l=l.take k++l[k]::l.drop (k+1):=by rw [<- Zu h,Z5]
 have:l.filter q=(l.take k).filter q++l[k]::(l.drop (k+1)).filter q:=by
  conv=>lhs;rw [e]
  rw [ZaP,Zbv hq]
 rw [this,ZH (Zz _),Nat.sub_self];rfl
def Ds (r:Ro) (v m:Int) (i:Nat):Bool:=decide ((ig r i).fr=m)&&!gM r.po v (dw r i)
def fX (r:Ro) (v m:Int) (k:Nat):List Nat:=(List.range k).filter (Ds r v m)
def Ny (r:Ro) (v m:Int):List (List Value):=(fX r v m r.ti.length).map fun i=>[.q (i:Nat),.agg (ig r i).cells.toArray]
theorem vC (r:Ro) (v m:Int):(Ny r v m).length=(fX r v m r.ti.length).length:=by simp [Ny]
theorem uh (r:Ro) (v m:Int) (k:Nat):fX r v m (k+1)=fX r v m k++if Ds r v m k then [k] else []:=by
 unfold fX;rw [Zbq,ZaP];congr 1;by_cases h:Ds r v m k=true
 ·rw [Zbv h,if_pos h];rfl
 ·rw [List.filter_cons_of_neg h,if_neg h];rfl
variable {N:Wn} {af:Array Edge} {dm:Int} {dst:Option Tmp} {g:Option (Nat×Bool)} {i:Nat} {k:IntKind} {pos:String} {q:Bool} {r:Ro} {so:ByteArray} {x y:Operand}
theorem Pa {v m:Int} {k:Nat} (h:k<r.ti.length) (hq:Ds r v m k=true):(Ny r v m)[(fX r v m k).length]? = some [.q (k:Nat),.agg (ig r k).cells.toArray]:=by
 have h1:=MC (l:=List.range r.ti.length) (q:=Ds r v m) (k:=k) (by rw [ZaF];exact h) (by rw [Zbz];exact hq);rw [List.take_range,Zbf (by omega),Zbz] at h1;unfold Ny fX;rw [ZI,h1];rfl
theorem EP {v m:Int} {k:Nat} {vs:List Value} (h:(Ny r v m)[k]? = some vs):∃ i,(fX r v m r.ti.length)[k]? = some i/\vs=[.q (i:Nat),.agg (ig r i).cells.toArray]/\i<r.ti.length/\Ds r v m i=true:=by
 unfold Ny at h;rw [ZI,Zaq] at h;obtain ⟨i,hi,rfl⟩:=h;have hm:=ZV hi;unfold fX at hm;rw [Zr,ZX] at hm;exact ⟨i,hi,I,hm.1,hm.2⟩
theorem om (h:i<r.ti.length):ig r i=r.ti[i]:=by
 unfold ig;rw [Zk,Zc h];rfl
theorem qC {P:Program} {c:Cx} {sl:aL} {hs:List bd} {ty:TypeId} {t u:TypeId} {a b:Int} (hx:Is sl x (.int k a)) (hy:Is sl y (.int k b)) (e:a=b) :
  du P c sl hs ⟨dst,.binOp .eql t x y u,ty,pos,af,g⟩ (.bool true):=by
 have:=oo (P:=P) (c:=c) (hs:=hs) (dst:=dst) (ty:=ty) (pos:=pos) (af:=af) (g:=g) (t:=t) (u:=u) hx hy;rwa [decide_eq_true e] at this
theorem ON {P:Program} {c:Cx} {sl:aL} {hs:List bd} {ty:TypeId} {t u:TypeId} {a b:Int} (hx:Is sl x (.int k a)) (hy:Is sl y (.int k b)) (e:a≠b) :
  du P c sl hs ⟨dst,.binOp .eql t x y u,ty,pos,af,g⟩ (.bool false):=by
 have:=oo (P:=P) (c:=c) (hs:=hs) (dst:=dst) (ty:=ty) (pos:=pos) (af:=af) (g:=g) (t:=t) (u:=u) hx hy;rwa [decide_eq_false e] at this
theorem df {P:Program} {c:Cx} {sl:aL} {hs:List bd} {ty:TypeId} {x y z:Operand} {v u:Value} (hx:Is sl x (.bool q)) (hy:Is sl y v) (hz:Is sl z u) (e:(bif q then v else u)=Value.bool false):du P c sl hs ⟨dst,.pick x y z,ty,pos,af,g⟩ (.bool false):=e ▸ vq hx hy hz
theorem fx {P:Program} {c:Cx} {sl:aL} {hs:List bd} {ty:TypeId} {x y z:Operand} {v u:Value} (hx:Is sl x (.bool q)) (hy:Is sl y v) (hz:Is sl z u) (e:(bif q then v else u)=Value.bool true):du P c sl hs ⟨dst,.pick x y z,ty,pos,af,g⟩ (.bool true):=e ▸ vq hx hy hz
theorem tT {s d t p:Value} (v m:Int) {w w1:World} (h:RR w1 r s d t p) :
  bh T_ 153 [RA r s d t p,.q v,.q m] w [] (fun _:Nat×Nat×Nat=>True) (fun x=>.func (.func 240) #[] #[.pointer (some ⟨x.1,0,none⟩),.pointer (some ⟨x.2.1,0,none⟩),.pointer (some ⟨x.2.2,0,none⟩)])
   (fun x=>[JP x.1 r s d t p,bz x.2.1 (.cells #[.q m] 3 (0,0)),bz x.2.2 (.cells #[.q v] 3 (0,0))]):=by
 obtain ⟨h1,h2,h3,h4⟩:=h.one;unfold RA;refine aR func153 I I ?_
 (refine Jr<|Jy I I fun _ _=>Jy I I fun _ _=>Jy I I fun _ _=>Ja I<|Ji<|ab (bD .nil (.o I (.o I (.o I .nil)))) I<|Ja I<|Jn<|Je ?_)
 rename_i b3 uf b4 uT b5 H7
 first | with_reducible apply aO | with_reducible apply aQ
 case he=>exact dI I I
 case hR=>
  intro w' aB;exact aF (b3,b5,b4) trivial (by exact .cons bI (.h2 .nil)) aB I
set_option maxHeartbeats 1000000 in
theorem Lo {s d t p:Value} {b1 b2 b3:Nat} (v m:Int) {w0 w:World} {md:List Nat} (h:RR w0 r s d t p) (hn:RO md r s d t p) (c8:r.ti.length<=1000000) :
  Iter T_ 240 [] [.p b1,.p b2,.p b3] [JP b1 r s d t p,bz b2 (.cells #[.q m] 3 (0,0)),bz b3 (.cells #[.q v] 3 (0,0))] (Ny r v m) w0 md w:=by
 intro l fp J E hB hF jq hs hy;have hR:=h.ko hn hB;have hO:=h.out hn hF;rw [vC];have h1:=Rd.one hR.sr;have h2:=Rd.one hR.de;have h4:=Rd.one hR.po;have hti:=hR.ti;have oti:=hO.ti;obtain ⟨a,cp,b,o',rfl,dy,bT,ha,hc⟩:=hti;rw [bQ] at *;unfold maxLen at bT;refine eh func240 I I jq hs ?_
 (refine Jr<|bG I I ae<|JL I (.there .here) I<|JI I<|Jv I<|Jn<|J0 ?_)
 refine aV (fun k:Nat=>k<=r.ti.length) (fun k=>[(10,.q (k:Nat)),(9,.q (r.ti.length:Nat)),(8,.slice a r.ti.length cp),(0,.func (.yield l) #[] #[]),(1,.p b1),(2,.p b2),(3,.p b3)])
  (fun k=>[J (fX r v m k).length,JP b1 r s d (.slice a r.ti.length cp) p,bz b2 (.cells #[.q m] 3 (0,0)),bz b3 (.cells #[.q v] 3 (0,0))]) (fun k=>r.ti.length-k) ?_ ?_
 ·apply aI 0 (by omega)
  case hs1=>exact bS
  case ht=>
   exact .h4 .nil
 intro k hk;by_cases aM:k<r.ti.length
 ·have cu:=ha (fm aM);have aC:=(hc k _ (ef aM)).2;have hnb:b ∉ fp:=oti (fm aM) b (by rw [cu];rfl);unfold Ti.cells at aC;have Dm:∀ w',aJ fp w w'->ak T_ 121 [.agg #[.q r.lv,.q r.ma,s,d,.slice a r.ti.length cp,p],.q v,.string (r.ti[k]).nm] w' (.bool (gM r.po v (r.ti[k]).nm)):=fun w' hk=>rV v _ (hR.ko hO hk)
  have Bj:=om aM;have tx:dw r k=(r.ti[k]).nm:=by unfold dw;rw [Bj]
  by_cases tZ:(r.ti[k]).fr=m
  ·cases B4:gM r.po v (r.ti[k]).nm with
   | true =>
    have Dn:∀ w',aJ fp w w'->ak T_ 121 [.agg #[.q r.lv,.q r.ma,s,d,.slice a r.ti.length cp,p],.q v,.string (r.ti[k]).nm] w' (.bool true):=fun w' hk=>B4 ▸ Dm w' hk
    have hq:Ds r v m k=false:=by unfold Ds;rw [tx,B4];simp
    have LR:fX r v m (k+1)=fX r v m k:=by rw [uh,if_neg (by rw [hq];decide),ZN]
    (refine Jr<|JA I<|Jn<|Jq<|Jd I fun au=>Jk<|Jq<|J0<|Jr<|Jv I<|ab (fY cu au) I<|ab (ja (.of I) (eR.DJ aC hnb) I) I<|Jz I I fun _ _=>Ja I<|ao (.of I) (.of I) .here I I (fv I I I) (bu I) ai<|Ji<|bG I I ae<|JL I .here I<|JL I cZ I<|ab (qC (.of I) (.of I) tZ) I<|Jv I<|JK I I<|ab (cm bI) I<|JK I I<|JL I dL I<|JK I I<|bG I I ae<|JK I I<|JL I .here I<|JK I I<|aj eo I (fun w' aB=>(Dn w' (Mem.keeps aB)))<|JK I I<|JH I<|ab (df (.of I) (.of I) (.of I) I) I<|Jv I<|jz I I I I<|jz I I I I<|aH I I inferInstance (fun hg bE=>(bK (.of I) .here ai (by rfl))) I<|eS I I I I<|aH I I inferInstance (fun hg bE=>(eF (.bM bE I))) I<|ab (df (.of I) (.of I) (.of I) I) I<|Jn<|bZ (.of I)<|Jw<|Jj<|Jt<|Jg<|JB I (by omega)<|Jv I<|Jn ?_)
    apply aG (k+1) (by omega) (by omega)
    case hs1=>exact bS
    case ht=>
     rw [LR];exact .cons (.there .here) (.cons (.there .here) (.cons (.there .here) (.cons (.there .here) .nil)))
   | false =>
    have Dn:∀ w',aJ fp w w'->ak T_ 121 [.agg #[.q r.lv,.q r.ma,s,d,.slice a r.ti.length cp,p],.q v,.string (r.ti[k]).nm] w' (.bool false):=fun w' hk=>B4 ▸ Dm w' hk
    have hq:Ds r v m k=true:=by unfold Ds;rw [tx,B4,Bj,decide_eq_true tZ];rfl
    have LR:fX r v m (k+1)=fX r v m k++[k]:=by rw [uh,if_pos hq]
    have Xa:(fX r v m (k+1)).length=(fX r v m k).length+1:=by rw [LR];simp
    have Ws:=hy _ _ (Pa aM hq);rw [Bj] at Ws
    (refine Jr<|JA I<|Jn<|Jq<|Jd I fun au=>Jk<|Jq<|J0<|Jr<|Jv I<|ab (fY cu au) I<|ab (ja (.of I) (eR.DJ aC hnb) I) I<|Jz I I fun _ _=>Ja I<|ao (.of I) (.of I) .here I I (fv I I I) (bu I) ai<|Ji<|bG I I ae<|JL I .here I<|JL I cZ I<|ab (qC (.of I) (.of I) tZ) I<|Jv I<|JK I I<|ab (cm bI) I<|JK I I<|JL I dL I<|JK I I<|bG I I ae<|JK I I<|JL I .here I<|JK I I<|aj eo I (fun w' aB=>(Dn w' (Mem.keeps aB)))<|JK I I<|JH I<|ab (fx (.of I) (.of I) (.of I) I) I<|Jv I<|JK I I<|Jv I<|JK I I<|Jv I<|JK I I<|ab (cm .here) I<|JK I I ?_)
    unfold Ti.cells at Ws
    with_reducible apply yZ hB hF Ws
    case hx=>exact Is.of I
    case ha=>exact .o I (.o I .nil)
    case hd=>rfl
    case ht=>exact Take.there .here
    intro q;cases q with
    | false =>
     simp only [cond_false]
     (refine JK I I<|JH I<|ab (fx (.of I) (.of I) (.of I) I) I<|Jn<|cY (.of I)<|Je<|Jm<|Jh<|Jh<|Jm ?_)
     first | with_reducible apply aO | with_reducible apply aQ
     case he=>exact rk I
     case hR=>
      intro w' aB;exact aF false trivial (by exact .h1 (.cons (.there .here) (.cons (.there .here) (.cons (.there .here) .nil)))) aB I
    | true =>
     simp only [cond_true]
     (refine JK I I<|JH I<|ab (df (.of I) (.of I) (.of I) I) I<|Jn<|bZ (.of I)<|Jw<|Jj<|Jt<|Jg<|JB I (by omega)<|Jv I<|Jn ?_)
     apply aG (k+1) (by omega) (by omega)
     case hs1=>exact bS
     case ht=>
      rw [Xa];exact .h1 (.cons (.there .here) (.cons (.there .here) (.cons (.there .here) .nil)))
  ·have hq:Ds r v m k=false:=by unfold Ds;rw [Bj,decide_eq_false tZ];rfl
   have LR:fX r v m (k+1)=fX r v m k:=by rw [uh,if_neg (by rw [hq];decide),ZN]
   (refine Jr<|JA I<|Jn<|Jq<|Jd I fun au=>Jk<|Jq<|J0<|Jr<|Jv I<|ab (fY cu au) I<|ab (ja (.of I) (eR.DJ aC hnb) I) I<|Jz I I fun _ _=>Ja I<|ao (.of I) (.of I) .here I I (fv I I I) (bu I) ai<|Ji<|bG I I ae<|JL I .here I<|JL I cZ I<|ab (ON (.of I) (.of I) tZ) I<|Jv I<|aH I I inferInstance (fun hg bE=>(bK (.of I) bI ai (by rfl))) I<|aH I I inferInstance (fun hg bE=>(ag (.of I) (At.lit dL I))) I<|aH I I inferInstance (fun hg bE=>(aq (.of I) ae)) I<|aH I I inferInstance (fun hg bE=>(ag (.bM bE I) (At.lit .here I))) I<|eS I I I I<|aH I I inferInstance (fun hg bE=>(eF (.bM bE I))) I<|ab (df (.of I) (.of I) (.of I) I) I<|Jv I<|jz I I I I<|jz I I I I<|aH I I inferInstance (fun hg bE=>(bK (.of I) .here ai (by rfl))) I<|eS I I I I<|aH I I inferInstance (fun hg bE=>(eF (.bM bE I))) I<|ab (df (.of I) (.of I) (.of I) I) I<|Jn<|bZ (.of I)<|Jw<|Jj<|Jt<|Jg<|JB I (by omega)<|Jv I<|Jn ?_)
   apply aG (k+1) (by omega) (by omega)
   case hs1=>exact bS
   case ht=>
    rw [LR];exact .cons (.there .here) (.cons (.there .here) (.cons (.there .here) (.cons (.there .here) .nil)))
 ·obtain rfl:k=r.ti.length:=by omega
  refine Jr<|JA I<|Jn<|Jq<|Jc I fun au=>Jp<|Jl<|Jo ?_
  first | with_reducible apply aO | with_reducible apply aQ
  case he=>exact rk I
  case hR=>
   intro w' aB;exact aF true trivial (by exact .h4 .nil) aB I
theorem LI (l:List Int):∀ r∈ints l,∀ u∈r,u.oneCell'=true:=fun r hr=>by obtain ⟨x,_,rfl⟩:=Zy.1 hr;exact bO rfl ir
theorem zL (l:List Int):l.map (Value.int .i64)=(ints l).flatten:=by
 induction l with
 | nil=>rfl
 | cons x l ih=>show [Value.int .i64 x]++l.map (Value.int .i64)=_;rw [ih];rfl
theorem Qo {lv:Value} {l:List Int} {w:World} (h:Rd w lv 1 (ints l)) (hl:l.length<=1000) :
  bh T_ 262 [lv] w [] (fun _:Value=>True) id (fun v=>[row 3 1 v l.length (l.map (.int .i64))]):=by
 have h':=h;obtain ⟨a,cp,b,o,rfl,dy,bT,ha,hc⟩:=h;refine aR func262 I I ?_;cases a with
 | none =>
  have mX:l=[]:=by
   cases l with
   | nil=>rfl
   | cons x r=>exact absurd (ha (by simp [ints])) (by simp)
  subst mX
  (refine Jr<|Ja I<|Jn<|Jq<|Jr<|Jv I<|ab (iE (.of I) (.of I)) I<|Jn<|cY (.of I)<|Jr<|Ja I<|Jn<|Ju ?_)
  refine aN 3 1 ?_
  first | with_reducible apply aO | with_reducible apply aQ
  case he=>exact dI I I
  case hR=>
   intro w' aB;exact aF (.z) trivial (by exact .h1 .nil) aB I
 | some ad =>
  (refine Jr<|Ja I<|Jn<|Jq<|Jr<|Jv I<|ab (iE (.of I) (.of I)) I<|Jn<|bZ (.of I)<|Jk<|Jr<|a8 (aD .nil I I I I) I fun _ _=>Jv I ?_)
  rename_i bq nf;refine bP (g:=bq) (E:=3) (ys:=[]) 0 1 (by exact .here) I I I ?_
  with_reducible apply eX
  case hx=>exact Is.of I
  case hy=>exact Is.of I
  case ht=>exact .here
  case hsrc=>exact fun w' aB=>h'.keeps aB.keeps
  case h1=>exact LI l
  case hz=>exact I
  case hsz=>exact I
  case hb0=>exact I
  case hb=>rw [dz];omega
  case hd=>rfl
  intro v';rw [dz,<- zL,Zx,Za];refine Ja I<|Jn<|Je ?_
  first | with_reducible apply aO | with_reducible apply aQ
  case he=>exact dI I I
  case hR=>
   intro w' aB;exact aF v' trivial (by exact .h1 .nil) aB I
theorem wu {P:Program} {c:Cx} {sl:aL} {hs:List bd} {ty:TypeId} {t u:TypeId} {a b:ByteArray} (hx:Is sl x (.string a)) (hy:Is sl y (.string b)) (e:a=b) :
  du P c sl hs ⟨dst,.binOp .eql t x y u,ty,pos,af,g⟩ (.bool true):=by
 have:=dB (P:=P) (c:=c) (hs:=hs) (dst:=dst) (ty:=ty) (pos:=pos) (af:=af) (g:=g) (t:=t) (u:=u) hx hy;rwa [decide_eq_true e] at this
theorem CO {P:Program} {c:Cx} {sl:aL} {hs:List bd} {ty:TypeId} {t u:TypeId} {a b:ByteArray} (hx:Is sl x (.string a)) (hy:Is sl y (.string b)) (e:a≠b) :
  du P c sl hs ⟨dst,.binOp .eql t x y u,ty,pos,af,g⟩ (.bool false):=by
 have:=dB (P:=P) (c:=c) (hs:=hs) (dst:=dst) (ty:=ty) (pos:=pos) (af:=af) (g:=g) (t:=t) (u:=u) hx hy;rwa [decide_eq_false e] at this
def yk (r:Ro) (v:Int) (so:ByteArray) (i:Nat):Bool:=gM r.po v (dw r i)&&decide (jD r v (dw r i)=so)
def B6 (r:Ro) (v:Int) (so:ByteArray) (k:Nat):List Nat:=(List.range k).filter (yk r v so)
theorem xK (r:Ro) (v:Int) (so:ByteArray) (k:Nat):B6 r v so (k+1)=B6 r v so k++if yk r v so k then [k] else []:=by
 unfold B6;rw [Zbq,ZaP];congr 1;by_cases h:yk r v so k=true
 ·rw [Zbv h,if_pos h];rfl
 ·rw [List.filter_cons_of_neg h,if_neg h];rfl
def oV (r:Ro) (so:ByteArray):Int:=(r.sr.getD (bA (cK r) so).toNat ⟨⟨#[]⟩,0⟩).mx
def wk (x:Wy):Nat×List Nat:=(x.f,x.p)
def R8 (L:List (Nat×List Nat)) (W:List Wy):Prop:=W.map wk=L/\∀ y∈W,y.v.oneCell'=true
theorem R8.add {L:List (Nat×List Nat)} {W:List Wy} (h:R8 L W) (y:Wy) (hy:y.v.oneCell'=true):R8 (L++[wk y]) (W++[y]):=by
 refine ⟨by rw [Zt,h.1];rfl,fun z hz=>?_⟩;rcases ZB.1 hz with hz | hz
 ·exact h.2 z hz
 ·rw [ZG.1 hz];exact hy
theorem M8 (W:List Wy) (y:Wy):jt (W++[y])=gY 3 (W.map Wy.v++[y.v]) ((W.map fun x=>gV x.p)++[gV y.p]):=by unfold jt;rw [Zt,Zt];rfl
theorem Aj (W:List Wy) (y:Wy):od (W++[y])=od W++[y.v,.q (y.f:Nat)]:=by rw [NX];rfl
theorem qq {c:Cx} {D:List Nat} {sl:aL} {hs h1 h2:List bd} {X:Act->World->Prop} {W:List Wy} (y:Wy) {n:Nat} {x:List Value} (ht:Take hs (jt W) h1) (ht2:Take h1 (row 3 1 y.v n x) h2) (hn:n=y.p.length) (hx:x=gV y.p)
  (k:Tr c D sl (jt (W++[y])::h2) X):Tr c D sl hs X:=by
 subst hx;refine j7 (vs:=W.map Wy.v) (xs:=W.map fun x=>gV x.p) (v:=y.v) (show Take hs (gY 3 (W.map Wy.v) (W.map fun x=>gV x.p)) h1 from ht) ht2 (by rw [hn];unfold gV;rw [Zd]) (by rw [Zd,Zd]) ?_;rw [<- M8];exact k
theorem y9 {c:Cx} {D:List Nat} {sl:aL} {hs:List bd} {X:Act->World->Prop} (k:Tr c D sl (jt []::hs) X):Tr c D sl hs X:=ie 3 k
set_option maxHeartbeats 1000000 in
theorem M6 {s d t p:Value} (v:Int) (so:ByteArray) {w:World} (h:RR w r s d t p) (c8:r.ti.length<=1000) (TQ:so∈cK r) :
  bh T_ 259 [RA r s d t p,.q v,.string so] w [] (fun x:Value×List Wy=>R8 ((B6 r v so r.ti.length).map (fun i=>(0,[i]))++(fX r v (oV r so) r.ti.length).map (fun i=>(1,[i]))) x.2) (fun x=>x.1)
   (fun x=>[row 244 2 x.1 x.2.length (od x.2),jt x.2]):=by
 obtain ⟨h1,h2,h3,h4⟩:=h.one;have hti:=h.ti;obtain ⟨a,cp,b,o',rfl,dy,bT,ha,hc⟩:=hti;have TN:=h.sr;obtain ⟨a2,pb,b2,o2,rfl,kq,eU,jB,kr⟩:=TN;rw [bQ] at *;rw [ct] at *;unfold maxLen at bT eU;obtain ⟨i0,r7⟩:∃ i:Nat,bA (cK r) so=(i:Nat):=⟨(bA (cK r) so).toNat,by have:=dS TQ;omega⟩;have E6:i0<r.sr.length:=by
  obtain ⟨hl,_⟩:=fB (l:=cK r) (s:=so) (by omega);rw [r7,ZL] at hl;unfold cK at hl;rwa [Zd] at hl
 have Bm:oV r so=(r.sr[i0]).mx:=by unfold oV;rw [r7,ZL,Zk,Zc E6];rfl
 have WE:∀ w',aJ [] w w'->ak T_ 180 [.agg #[.q r.lv,.q r.ma,.slice a2 r.sr.length pb,d,.slice a r.ti.length cp,p],.string so] w' (.q (i0:Nat)):=fun w' hk=>r7 ▸ px so (h.keeps hk)
 have hsrc:=WE;unfold RA;refine aR func259 I I ?_
 (refine Jr<|Jy I I fun _ _=>Ja I<|Ji<|Jz I I fun _ _=>Jn<|Jq<|Jr<|bG I I ae<|JL I (.there .here) I<|JI I<|Jv I<|Jn<|J0 ?_)
 rename_i b3 uf b7 Um;refine aN 244 2 ?_;refine y9 ?_
 refine aV (ι:=Nat×Value×List Wy) (fun x=>x.1<=r.ti.length/\R8 ((B6 r v so x.1).map (fun i=>(0,[i]))) x.2.2)
  (fun x=>[(14,.q (x.1:Nat)),(13,.q (r.ti.length:Nat)),(12,.slice a r.ti.length cp),(7,.p b7),(3,.p b3),(1,.q v),(2,.string so)])
  (fun x=>[bz b7 (.cells #[x.2.1] 329 (0,0)),row 244 2 x.2.1 x.2.2.length (od x.2.2),jt x.2.2,JP b3 r (.slice a2 r.sr.length pb) d (.slice a r.ti.length cp) p]) (fun x=>r.ti.length-x.1) ?_ ?_
 ·apply aI (0,.z,[]) ⟨Zi _,I,fun y hy=>by cases hy⟩
  case hs1=>exact bS
  case ht=>
   exact .cons bI (.cons (.there .here) (.h2 .nil))
 rintro ⟨k,wv,W⟩ ⟨hk,hW⟩;dsimp only at hk hW ⊢;have NL:(od W).length=W.length*2:=qn W;by_cases aM:k<r.ti.length
 ·have cu:=ha (fm aM);have aC:=(hc k _ (ef aM)).2;unfold Ti.cells at aC;have Bj:=om aM;have tx:dw r k=(r.ti[k]).nm:=by unfold dw;rw [Bj]
  have hWk:W.length<=k:=by
   have:=congrArg List.length hW.1;rw [Zd,Zd] at this;rw [this];have:=ZY (yk r v so) (List.range k);rw [ZaF] at this;exact this
  have Dm:∀ w',aJ [] w w'->ak T_ 121 [.agg #[.q r.lv,.q r.ma,.slice a2 r.sr.length pb,d,.slice a r.ti.length cp,p],.q v,.string (r.ti[k]).nm] w' (.bool (gM r.po v (r.ti[k]).nm)):=fun w' hk=>rV v _ (h.keeps hk)
  have r8:∀ w',aJ [] w w'->ak T_ 126 [.agg #[.q r.lv,.q r.ma,.slice a2 r.sr.length pb,d,.slice a r.ti.length cp,p],.q v,.string (r.ti[k]).nm] w' (.string (jD r v (r.ti[k]).nm)):=fun w' hk=>qP v _ (h.keeps hk) (by omega)
  cases B4:gM r.po v (r.ti[k]).nm with
  | false =>
   have Dn:∀ w',aJ [] w w'->ak T_ 121 [.agg #[.q r.lv,.q r.ma,.slice a2 r.sr.length pb,d,.slice a r.ti.length cp,p],.q v,.string (r.ti[k]).nm] w' (.bool false):=fun w' hk=>B4 ▸ Dm w' hk
   have hq:yk r v so k=false:=by unfold yk;rw [tx,B4];rfl
   have LR:B6 r v so (k+1)=B6 r v so k:=by rw [xK,if_neg (by rw [hq];decide),ZN]
   (refine Jr<|JA I<|Jn<|Jq<|Jd I fun au=>Jk<|Jq<|J0<|Jr<|Jv I<|ab (fY cu au) I<|ab (iU (eR.base aC I)) I<|Jz I I fun _ _=>Ja I<|ao (.of I) (.of I) .here I I (fv I I I) (bu I) ai<|Ji<|ab (cm dL) I<|Jv I<|bG I I ae<|JL I .here I<|aj eo I (fun w' aB=>(Dn w' (Mem.keeps aB)))<|Jv I<|aH I I inferInstance (fun hg bE=>(bK (.of I) dL ai (by rfl))) I<|jz I I I I<|aH I I inferInstance (fun hg bE=>(aq (.of I) ae)) I<|aH I I inferInstance (fun hg bE=>(ag (.bM bE I) (At.lit .here I))) I<|eS I I I I<|jz I I I I<|eS I I I I<|ab (df (.of I) (.of I) (.of I) I) I<|Jn<|bZ (.of I)<|Jw<|Jj<|Jt<|Jg<|JB I (by omega)<|Jv I<|Jn ?_)
   apply aG (k+1,wv,W) ⟨show k+1<=r.ti.length by omega,by rw [LR];exact hW⟩ (show r.ti.length-(k+1)<r.ti.length-k by omega)
   case hs1=>exact bS
   case ht=>(try simp only [Ze,Zf,Za]);exact .cons (.there .here) (.cons (.there .here) (.cons (.there .here) (.cons (.there .here) .nil)))
  | true =>
   have Dn:∀ w',aJ [] w w'->ak T_ 121 [.agg #[.q r.lv,.q r.ma,.slice a2 r.sr.length pb,d,.slice a r.ti.length cp,p],.q v,.string (r.ti[k]).nm] w' (.bool true):=fun w' hk=>B4 ▸ Dm w' hk
   by_cases Bk:jD r v (r.ti[k]).nm=so
   ·have hq:yk r v so k=true:=by unfold yk;rw [tx,B4,decide_eq_true Bk];rfl
    have LR:B6 r v so (k+1)=B6 r v so k++[k]:=by rw [xK,if_pos hq]
    (refine Jr<|JA I<|Jn<|Jq<|Jd I fun au=>Jk<|Jq<|J0<|Jr<|Jv I<|ab (fY cu au) I<|ab (iU (eR.base aC I)) I<|Jz I I fun _ _=>Ja I<|ao (.of I) (.of I) .here I I (fv I I I) (bu I) ai<|Ji<|ab (cm dL) I<|Jv I<|bG I I ae<|JL I .here I<|aj eo I (fun w' aB=>(Dn w' (Mem.keeps aB)))<|Jv I<|JK I I<|ab (cm dL) I<|JK I I<|Jv I<|JK I I<|bG I I ae<|JK I I<|JL I .here I<|JK I I<|aj eo I (fun w' aB=>(r8 w' (Mem.keeps aB)))<|JK I I<|Jv I<|JK I I<|ab (wu (.of I) (.of I) Bk) I<|ab (fx (.of I) (.of I) (.of I) I) I<|Jn<|cY (.of I)<|Jg<|JL I (.there .here) I<|Jv I<|a8 (aD (.o I .nil) I I I I) I fun _ _=>ab (aU (.o I (.o I .nil)) ai) I<|a8 (ba (.o I .nil) I I bB bB ai) I fun _ _=>?_)
    rename_i b9 hb9 bq nf bl Ry;have Mt:=hW.add ⟨.w bq 1 1,[k],0⟩ I;have TE:od (W++[⟨.w bq 1 1,[k],0⟩])=od W++[.w bq 1 1,.q 0]:=Aj W _;have Ww:(W++[(⟨.w bq 1 1,[k],0⟩:Wy)]).length=W.length+1:=by simp
    refine bn (.of I) (.of I) dL .here ai (by rfl) (gO I I) (by rfl) (by rfl) (by rfl) dW (by rfl) ?_;intro v';refine aK (by exact .here) fun a' iz e=>?_;subst e
    (refine ao (.of I) (.of I) dL I I (dG I) (bu I) ai<|Jx<|Jj<|Jt<|Jg<|JB I (by omega)<|Jv I<|Jn ?_)
    refine bP (g:=bq) (E:=3) (ys:=[.q (k:Nat)]) 1 1 cZ I I I ?_;refine qq (W:=W) ⟨.w bq 1 1,[k],0⟩ (n:=1) (x:=[.q (k:Nat)]) eD (by exact .here) I I ?_;apply aG (k+1,.slice a' (W.length+1) iz,W++[⟨.w bq 1 1,[k],0⟩]) ⟨show k+1<=r.ti.length by omega,by rw [LR,Zt];exact Mt⟩ (show r.ti.length-(k+1)<r.ti.length-k by omega)
    case hs1=>exact bS
    case ht=>
     show bC _ [bz b7 (.cells #[.slice a' (W.length+1) iz] 329 (0,0)),row 244 2 (.slice a' (W.length+1) iz) (W++[(⟨.w bq 1 1,[k],0⟩:Wy)]).length (od (W++[⟨.w bq 1 1,[k],0⟩])),jt (W++[⟨.w bq 1 1,[k],0⟩]),JP b3 r (.slice a2 r.sr.length pb) d (.slice a r.ti.length cp) p] _;rw [Ww,TE];exact .cons (.there .here) (.cons (.there .here) (.h1 (.cons bI .nil)))
   ·have hq:yk r v so k=false:=by unfold yk;rw [tx,B4,decide_eq_false Bk];rfl
    have LR:B6 r v so (k+1)=B6 r v so k:=by rw [xK,if_neg (by rw [hq];decide),ZN]
    (refine Jr<|JA I<|Jn<|Jq<|Jd I fun au=>Jk<|Jq<|J0<|Jr<|Jv I<|ab (fY cu au) I<|ab (iU (eR.base aC I)) I<|Jz I I fun _ _=>Ja I<|ao (.of I) (.of I) .here I I (fv I I I) (bu I) ai<|Ji<|ab (cm dL) I<|Jv I<|bG I I ae<|JL I .here I<|aj eo I (fun w' aB=>(Dn w' (Mem.keeps aB)))<|Jv I<|JK I I<|ab (cm dL) I<|JK I I<|Jv I<|JK I I<|bG I I ae<|JK I I<|JL I .here I<|JK I I<|aj eo I (fun w' aB=>(r8 w' (Mem.keeps aB)))<|JK I I<|Jv I<|JK I I<|ab (CO (.of I) (.of I) Bk) I<|ab (df (.of I) (.of I) (.of I) I) I<|Jn<|bZ (.of I)<|Jw<|Jj<|Jt<|Jg<|JB I (by omega)<|Jv I<|Jn ?_)
    apply aG (k+1,wv,W) ⟨show k+1<=r.ti.length by omega,by rw [LR];exact hW⟩ (show r.ti.length-(k+1)<r.ti.length-k by omega)
    case hs1=>exact bS
    case ht=>(try simp only [Ze,Zf,Za]);exact .cons (.there .here) (.cons (.there .here) (.cons (.there .here) (.cons (.there .here) .nil)))
 ·obtain rfl:k=r.ti.length:=by omega
  refine Jr<|JA I<|Jn<|Jq<|Jc I fun au=>Jp<|Jl<|Jo<|Jt<|Jq<|Jq ?_;have qU:=jB (iK E6);have fE:=(kr i0 _ (fV E6)).2;unfold Sr.cells at fE;have Vl:=fE 1 _ I
  with_reducible refine cJ 10 (by kernel_rfl) ?_
  (refine ar (cm cZ) I<|fW I I<|lU I I ae<|ar (iB cZ) I<|ar (cm cZ) I<|fW I I<|dp bb I (fun w' aB=>(hsrc w' (Mem.keeps aB)))<|ar (an (.of I) (.of I) qU (by omega) (by omega) aW) I<|lU I I ae<|ar (ag (.of I) (At.base Vl I)) I ?_)
  with_reducible refine cN ?_
  rw [<- Bm]
  with_reducible apply jZ
  case hr=>exact eo
  case hd=>rfl
  case ht=>exact bC.nil
  case hc=>
   intro w1 fp aT _ hs1;obtain rfl:fp=[]:=hs1;exact tT (s:=.slice a2 r.sr.length pb) (d:=d) (t:=.slice a r.ti.length cp) (p:=p) v (oV r so) (h.keeps aT.keeps)
  intro y _;dsimp only [id_eq,Zb,Za];refine Jn<|J0 ?_;have tz:(fX r v (oV r so) r.ti.length).length<=r.ti.length:=by
   have:=ZY (Ds r v (oV r so)) (List.range r.ti.length);rw [ZaF] at this;exact this
  have jK:(B6 r v so r.ti.length).length<=r.ti.length:=by
   have:=ZY (yk r v so) (List.range r.ti.length);rw [ZaF] at this;exact this
  refine kb (ps:=[51,52]) (f:=240) (first:=[]) (cap:=[.pointer (some ⟨y.1,0,none⟩),.pointer (some ⟨y.2.1,0,none⟩),.pointer (some ⟨y.2.2,0,none⟩)]) (ι:=Value×List Wy) (κ:=Empty) (rst:=[JP b3 r (.slice a2 r.sr.length pb) d (.slice a r.ti.length cp) p]) ?hg
   [JP y.1 r (.slice a2 r.sr.length pb) d (.slice a r.ti.length cp) p,bz y.2.1 (.cells #[.q (oV r so)] 3 (0,0)),bz y.2.2 (.cells #[.q v] 3 (0,0))] (Ny r v (oV r so)) ?hit
   (fun k x=>R8 ((B6 r v so r.ti.length).map (fun i=>(0,[i]))++((fX r v (oV r so) r.ti.length).take k).map (fun i=>(1,[i]))) x.2)
   (fun x=>[bz b7 (.cells #[x.1] 329 (0,0)),row 244 2 x.1 x.2.length (od x.2),jt x.2])
   (fun _=>False) (fun _=>[]) (fun _=>.ret) (wv,W) (by rw [Ze,Zf,ZN];exact hW) ?ht ?hlen ?hps ?round ?kn ?kj
  case hg=>exact Is.of I
  case hit=>intro w' aB;exact Lo v (oV r so) h RO.nil (by omega)
  case ht=>
   dsimp only [Zb,Za];exact .cons cZ (.cons cZ (.cons cZ (.h3 .nil)))
  case hlen=>intro vs pQ;obtain ⟨x,_,rfl⟩:=Zy.1 pQ;rfl
  case hps=>intro t ht;simp only [ZT,Zp,or_false] at ht;rcases ht with rfl | rfl <;> exact ZaD rfl
  case kj=>intro y;cases y
  case kn=>
   rintro ⟨wv,W⟩ D hq;dsimp only [Zb,Za] at hq ⊢;rw [vC,ZO] at hq;refine aK (E:=244) (sz:=2) (by exact Take.there .here) fun va vc e=>?_;subst e;refine Jj<|Jt<|Jr<|JL I .here I<|Ja I<|Jn<|Je ?_
   first | with_reducible apply aO | with_reducible apply aQ
   case he=>exact dI I I
   case hR=>
    intro w' aB;exact aF (.slice va W.length vc,W) hq (by exact .cons (.there .here) (.cons (.there .here) .nil)) aB I
  case round=>
   rintro l2 rc W2 XR k ⟨wv,W⟩ vs hsz hk hq hB hF;dsimp only at hq;obtain ⟨i,hi,rfl,iw,Uc⟩:=EP hk;obtain ⟨mW,Mf⟩:=Zl.1 hi;have htk:(fX r v (oV r so) r.ti.length).take (k+1)=(fX r v (oV r so) r.ti.length).take k++[i]:=by rw [Zm mW,Mf]
   have NL:(od W).length=W.length*2:=qn W;have hWk:W.length<=2000:=by
    have:=congrArg List.length hq.1;rw [Zd,Zg,Zd,Zd,Zq] at this;omega
   dsimp only [Ti.cells,List.zip_cons_cons,List.zip_nil_right,ns,Zb,Za];refine Jg<|Ja I<|Jn ?_
   with_reducible apply nJ
   case ht=>exact .here
   refine aK (E:=244) (sz:=2) bI fun v1 v2 e=>?_;subst e
   (refine J0<|Jg<|JL I (.there .here) I<|Jv I<|a8 (aD (.o I .nil) I I I I) I fun _ _=>ab (aU (.o I (.o I .nil)) ai) I<|a8 (ba (.o I .nil) I I bB bB ai) I fun _ _=>?_)
   rename_i bq nf bl Ry;have Mt:=hq.add ⟨.w bq 1 1,[i],1⟩ I;have TE:od (W++[⟨.w bq 1 1,[i],1⟩])=od W++[.w bq 1 1,.q 1]:=Aj W _;have Ww:(W++[(⟨.w bq 1 1,[i],1⟩:Wy)]).length=W.length+1:=by simp
   refine bn (.of I) (.of I) dL .here ai (by rfl) (gO I I) (by rfl) (by rfl) (by rfl) dW (by rfl) ?_;intro v';refine aK (by exact .here) fun a' iz e=>?_;subst e
   (refine ao (.of I) (.of I) dL I I (dG I) (bu I) ai<|Jx<|Jj ?_)
   refine bP (g:=bq) (E:=3) (ys:=[.q (i:Nat)]) 1 1 cZ I I I ?_;refine qq (W:=W) ⟨.w bq 1 1,[i],1⟩ (n:=1) (x:=[.q (i:Nat)]) eD (by exact .here) I I ?_;apply mO (.slice a' (W.length+1) iz,W++[⟨.w bq 1 1,[i],1⟩])
   case ht=>exact dL
   case hx=>
    show R8 _ _;rw [htk,Zt,<- Zh];exact Mt
   case h2=>
    show bC _ [bz b7 (.cells #[.slice a' (W.length+1) iz] 329 (0,0)),row 244 2 (.slice a' (W.length+1) iz) (W++[(⟨.w bq 1 1,[i],1⟩:Wy)]).length (od (W++[⟨.w bq 1 1,[i],1⟩])),jt (W++[⟨.w bq 1 1,[i],1⟩])] _;rw [Ww,TE];exact .cons (.there .here) (.cons (.there .here) (.h1 .nil))
def yO (r:Ro) (v:Int) (so:ByteArray):List (Nat×List Nat):=(B6 r v so r.ti.length).map (fun i=>(0,[i]))++(fX r v (oV r so) r.ti.length).map (fun i=>(1,[i]))
theorem py (h:so∈cK r):kI r so=oV r so:=by
 unfold kI oV;rw [if_pos (dS h)]
theorem rU (hn:oT r) (h:jP r r.po) (v:Int) (so:ByteArray) (i:Nat):yk r v so i=(dJ r r.po v so).ca i:=by
 unfold yk dJ;rw [xL hn h]
theorem rN (v:Int) (so:ByteArray) (m:Int) (i:Nat):Ds r v m i=(decide ((dJ r r.po v so).fr i=m)&&(dJ r r.po v so).fe i):=rfl
theorem M1 {v:Int} (h:(dJ r r.po v so).ca i=true):(dJ r r.po v so).fe i=false:=by
 unfold dJ at h ⊢;simp only [Zn] at h;simp [h.1]
theorem GJ (N:Wn) (i:Nat):N.sV [i]=if N.fe i then 1 else 0:=by
 unfold Wn.sV;cases h:N.fe i <;> simp [h]
theorem Mx (N:Wn) (p:List Nat) {i:Nat} (h:N.fe i=true):N.sV (p++[i])=N.sV p+1:=by
 unfold Wn.sV;rw [List.countP_append];simp [h]
theorem Kv (N:Wn) (j:Nat):N.step [] j=(decide (j<N.n)&&(N.ca j||(N.fe j&&decide (N.fr j=N.Fu)))):=by
 unfold Wn.step;simp [Wn.P7];rfl
theorem step_cons (N:Wn) {x:List Nat} (h:x≠[]) (j:Nat):N.step x j=(decide (j<N.n)&&(!x.contains j&&(N.fe j&&decide (N.fr j=N.fin x)))):=by
 unfold Wn.step;cases x with
 | nil=>exact absurd rfl h
 | cons a l=>simp
theorem M7 (hn:oT r) (h:jP r r.po) (v:Int) {so:ByteArray} (hs:so∈cK r) (q:List Nat):q∈(yO r v so).map Prod.snd↔q∈(dJ r r.po v so).exts []:=by
 unfold yO Wn.exts Wn.Va;rw [Zt,ZB,ZaI,ZaI];simp only [Zy,Za,Function.comp,Zr,ZX,B6,fX];have a7:∀ j,(dJ r r.po v so).step [] j=true↔j<r.ti.length/\(yk r v so j=true\/Ds r v (oV r so) j=true):=fun j=>by
  rw [Kv,rU hn h,rN v so];have e0:(dJ r r.po v so).Fu=oV r so:=py hs;rw [e0];simp only [Zn,ZR,decide_eq_true_eq];constructor
  ·rintro ⟨h1,h2 | ⟨h3,h4⟩⟩
   ·exact ⟨h1,.inl h2⟩
   ·exact ⟨h1,.inr ⟨h4,h3⟩⟩
  ·rintro ⟨h1,h2 | ⟨h3,h4⟩⟩
   ·exact ⟨h1,.inl h2⟩
   ·exact ⟨h1,.inr ⟨h4,h3⟩⟩
 constructor
 ·rintro (⟨j,⟨h1,h2⟩,rfl⟩ | ⟨j,⟨h1,h2⟩,rfl⟩)
  ·exact ⟨j,⟨h1,(a7 j).2 ⟨h1,.inl h2⟩⟩,I⟩
  ·exact ⟨j,⟨h1,(a7 j).2 ⟨h1,.inr h2⟩⟩,I⟩
 ·rintro ⟨j,⟨h1,h2⟩,rfl⟩;rcases ((a7 j).1 h2).2 with h3 | h3
  ·exact .inl ⟨j,⟨h1,h3⟩,I⟩
  ·exact .inr ⟨j,⟨h1,h3⟩,I⟩
theorem UQ (hn:oT r) (h:jP r r.po) (v:Int) {so:ByteArray} {x:Nat×List Nat} (hx:x∈yO r v so):x.1=(dJ r r.po v so).sV x.2:=by
 unfold yO at hx;rcases ZB.1 hx with hx | hx
 ·obtain ⟨i,hi,rfl⟩:=Zy.1 hx;have:=(Zr.1 hi).2;rw [rU hn h] at this;rw [GJ,M1 this];rfl
 ·obtain ⟨i,hi,rfl⟩:=Zy.1 hx;have:=(Zr.1 hi).2;rw [rN v so,Zn] at this;rw [GJ,this.2];rfl
theorem Qy (hn:oT r) (h:jP r r.po) (v:Int) {so:ByteArray} (h6:r.ti.length<=6):(dJ r r.po v so).wt ((yO r v so).map Prod.snd)<=1957:=by
 have e:(yO r v so).map Prod.snd=(B6 r v so r.ti.length++fX r v (oV r so) r.ti.length).map (fun i=>([]:List Nat)++[i]):=by
  unfold yO;rw [Zt,ZaI,ZaI,Zt];rfl
 rw [e,Wn.D6];have hl:(B6 r v so r.ti.length++fX r v (oV r so) r.ti.length).length<=r.ti.length:=by
  refine lY _ _ ?_ ?_
  ·rw [ZK];refine ⟨List.nodup_range.filter _,List.nodup_range.filter _,?_⟩;intro a ha b hb e;subst e;have h1:=(Zr.1 ha).2;have h2:=(Zr.1 hb).2;rw [rU hn h] at h1;rw [rN v so,Zn] at h2;rw [M1 h1] at h2;cases h2.2
  ·intro x hx;rcases ZB.1 hx with hx | hx <;> exact ZX.1 (Zr.1 hx).1
 have hN:(dJ r r.po v so).n=r.ti.length:=rfl;rw [hN];generalize (B6 r v so r.ti.length++fX r v (oV r so) r.ti.length).length=k at hl;generalize r.ti.length=n at hl h6;have:∀ n,n<=6->n*qY (n-1)<=1957:=by decide
 exact ZS (Zaa _ hl) (by simpa using this n h6)
theorem Ie {v:Int} {x:List Nat} (hx:x≠[]):(dJ r r.po v so).exts x=((fX r v ((dJ r r.po v so).fin x) r.ti.length).filter fun i=>!x.contains i).map fun i=>x++[i]:=by
 unfold Wn.exts Wn.Va fX;rw [ZbA];congr 1;apply Zbe;intro j hj;have ly:=ZX.1 hj;rw [step_cons _ hx,rN v so];have:decide (j<(dJ r r.po v so).n)=true:=decide_eq_true ly;rw [this,Zau];congr 1;exact Bool.and_comm _ _
theorem Wm {v:Int} (p q:List Nat):(dJ r r.po v so).lt p q=wl ((dJ r r.po v so).sV p,p) ((dJ r r.po v so).sV q,q):=rfl
def lo (r:Ro) (de:ByteArray):Int:=(r.de.getD (bA (cy r) de).toNat ⟨⟨#[]⟩,0,false⟩).mx
theorem MI {de:ByteArray} (h:de∈cy r):k6 r de=lo r de:=by
 unfold k6 lo;rw [if_pos (dS h)]
structure qW (N:Wn) (dm:Int) (Q lB:List Wy):Prop where
 sub:∀ x∈Q,x∈lB
 one:∀ x∈lB,x.v.oneCell'=true
 sV:∀ x∈Q,x.f=N.sV x.p
 inv:N.Inv dm (Q.map Wy.p)
 Bz:N.wt (Q.map Wy.p)<=1957
theorem qW.len {Q lB:List Wy} (h:qW N dm Q lB):Q.length<=1957:=by
 have:=N.I5 (Q.map Wy.p);rw [Zd] at this;exact ZS this h.Bz
theorem qW.begin (hn:oT r) (hv:jP r r.po) (v:Int) {so de:ByteArray} (hs:so∈cK r) (h6:r.ti.length<=6) (hne:oV r so≠lo r de) {W:List Wy} (hW:R8 (yO r v so) W):qW (dJ r r.po v so) (lo r de) W W:=by
 have hp:W.map Wy.p=(yO r v so).map Prod.snd:=by rw [<- hW.1,ZaI];rfl
 refine ⟨fun _ h=>h,hW.2,fun x hx=>?_,?_,?_⟩
 ·have:wk x∈yO r v so:=by rw [<- hW.1];exact Z0 hx
  exact UQ hn hv v this
 ·refine Wn.HT (by rw [show (dJ r r.po v so).Fu=kI r so from I,py hs];exact hne) fun q=>?_;rw [hp];exact M7 hn hv v hs q
 ·rw [hp];exact Qy hn hv v h6
theorem qW.perm {Q Q' lB:List Wy} (h:qW N dm Q lB) (hp:Q'.Perm Q):qW N dm Q' lB:=by
 have hm:=hp.map Wy.p;refine ⟨fun x hx=>h.sub x (hp.mem_iff.1 hx),h.one,fun x hx=>h.sV x (hp.mem_iff.1 hx),⟨fun q hq=>h.inv.ok q (hm.mem_iff.1 hq),fun p h1 h2=>?_⟩,by rw [Wn.FE hm];exact h.Bz⟩;obtain ⟨q,hq,h3⟩:=h.inv.cover p h1 h2;exact ⟨q,hm.mem_iff.2 hq,h3⟩
theorem qW.found {v:Int} {x:Wy} {R lB:List Wy} (h:qW (dJ r r.po v so) dm (x::R) lB) (hs:(x::R).Pairwise (fun x y=>wl (y.f,y.p) (x.f,x.p)=false)) (hf:(dJ r r.po v so).fin x.p=dm):(dJ r r.po v so).least dm x.p:=by
 refine Wn.HS h.inv (by simp) (fun q hq=>?_) hf;obtain ⟨y,hy,rfl⟩:=Zy.1 hq;rw [Wm,<- h.sV x (by simp),<- h.sV y hy];rcases ZT.1 hy with rfl | hy
 ·exact yS _
 ·exact (ZaZ.1 hs).1 y hy
theorem qW.next {v:Int} {x:Wy} {R W lB oZ:List Wy} (h:qW (dJ r r.po v so) dm (x::R) lB) (hf:(dJ r r.po v so).fin x.p≠dm) (jI:∀ y∈R++W,y∈oZ) (gi:∀ y∈oZ,y.v.oneCell'=true)
  (hW:W.map wk=((fX r v ((dJ r r.po v so).fin x.p) r.ti.length).filter fun i=>!x.p.contains i).map fun i=>(x.f+1,x.p++[i])):qW (dJ r r.po v so) dm (R++W) oZ/\(dJ r r.po v so).wt ((R++W).map Wy.p)<(dJ r r.po v so).wt ((x::R).map Wy.p):=by
 have hx:=h.inv.ok x.p (by simp);have hWp:W.map Wy.p=(dJ r r.po v so).exts x.p:=by
  rw [Ie hx.2];have:=congrArg (fun l=>l.map Prod.snd) hW
  simp only [ZaI] at this;exact this
 have aM:(dJ r r.po v so).wt ((R++W).map Wy.p)<(dJ r r.po v so).wt ((x::R).map Wy.p):=by
  rw [Zt,hWp,Wn.yR,Z9,Wn.wt];have:=Wn.NY hx.1;omega
 refine ⟨⟨jI,gi,fun y hy=>?_,?_,ZS (Nat.le_of_lt aM) h.Bz⟩,aM⟩
 ·rcases ZB.1 hy with hy | hy
  ·exact h.sV y (ZP _ hy)
  ·have h1:wk y∈W.map wk:=Z0 hy;rw [hW] at h1;obtain ⟨i,hi,e⟩:=Zy.1 h1;have e1:x.f+1=y.f:=congrArg Prod.fst e;have e2:x.p++[i]=y.p:=congrArg Prod.snd e;have h2:=(Zr.1 (Zr.1 hi).1).2;rw [rN v so,Zn] at h2;rw [<- e1,<- e2,Mx _ _ h2.2,h.sV x (by simp)]
 ·rw [Zt,hWp];refine Wn.LH h.inv (fun q=>?_) hf;rw [Z9,ZT]
end Go.Proofs.A1
