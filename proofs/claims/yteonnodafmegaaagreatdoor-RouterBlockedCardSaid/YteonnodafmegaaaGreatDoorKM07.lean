/- Parts of the proof: KF KV GkOff GkSortK TryzSortF KG KH KI KJq GkAppO. -/
import Derived.Test.YteonnodafmegaaaGreatDoorKM06
import Derived.Test.YteonnodafmegaaaGreatDoorKM04
import Derived.Test.YteonnodafmegaaaGreatDoorKM03
import Derived.Test.YteonnodafmegaaaGreatDoorKM02
import Derived.ArgAppend
import Derived.Shelf.SlSortCmp.WholeK
import Derived.Shelf.SlSortCmp.NoneTotal
import Derived.Shelf.SlicesG.Cmp
import Derived.Ground.SlsfProg
import Derived.Ground.SlgcProg
import Derived.Ground.NamesProg
import Derived.Ground.Names2Prog
import Derived.Test.YteonnodafmegaaaGreatDoorProg
set_option linter.unusedSectionVars false
set_option linter.unusedVariables false
set_option linter.unusedSimpArgs false
namespace Go.Proofs.A1
open Go Go.SL
open Tryz
open Tryz renaming prog->T_
variable {B:Nat->ByteArray} {fp:List Nat} {vs:List Value} {w:World}
theorem z6 :∀ {cs cur:List Value} {o:Nat},o+vs.length<=cs.length->setCells (cs++cur) o vs=setCells cs o vs++cur:=by
 induction vs with
 | nil=>intro cs cur o _;rfl
 | cons v vs ih =>
  intro cs cur o h;simp only [ZL] at h;rw [setCells,setCells,List.set_append_left _ _ (by omega),ih (by simp;omega)]
theorem xK {cs vs:List Value} (h:vs.length=cs.length):setCells cs 0 vs=vs:=by
 apply Zat;intro k;rw [iH _ _ _ _ (by omega)];by_cases hk:k<vs.length
 ·rw [if_pos (by omega),Nat.sub_zero]
 ·rw [if_neg (by omega),Zaa (by omega),Zaa (by omega)]
theorem M0 {n sz i:Nat} {f:Nat->List Value} (hf:∀ i,i<n->(f i).length=sz) (hi:i<n) (hv:vs.length=sz):setCells (tG n f) (i*sz) vs=tG n (fun k=>if k=i then vs else f k):=by
 have:=MZ (o:=0) hf hi (by omega:0+vs.length<=sz);rw [Zay] at this;rw [this];apply mH;intro k _;show (if k=i then _ else _)=(if k=i then _ else _)
 split
 ·exact xK (by rw [hf i hi,hv])
 ·rfl
def swp (B:Nat->ByteArray) (m k:Nat):Nat->ByteArray:=fun x=>if x<k\/m-k<=x then B (m-1-x) else B x
def s1 (B:Nat->ByteArray):Nat->List Value:=fun i=>[.string (B i)]
theorem oC (B:Nat->ByteArray) (m:Nat):∀ i,i<m->(s1 B i).length=1:=fun _ _=>rfl
theorem Iw {m i:Nat} (cur:List Value) (h:i<m):(tG m (s1 B)++cur)[i*1]? = some (.string (B i)):=by
 have hl:=iu (oC B m);rw [ZG (by rw [hl];omega)];exact zV (j:=0) (oC B m) h (by omega)
theorem Iv {B C:Nat->ByteArray} {m i:Nat} {v:ByteArray} (cur:List Value) (h:i<m) (hC:∀ k,k<m->C k=if k=i then v else B k):setCells (tG m (s1 B)++cur) (i*1) [.string v]=tG m (s1 C)++cur:=by
 have hl:=iu (oC B m);rw [z6 (by rw [hl];simp;omega),M0 (oC B m) h I];congr 1;apply mH;intro k hk;unfold s1;rw [hC k hk];split <;> rfl
set_option maxHeartbeats 4000000 in
theorem IG {v:Value} {m:Nat} (hm:0<m) (ae8:m<=1000000) (hn:fp.Nodup) (hs:cA (hp w) [row 9 1 v m (tG m (s1 B))] fp) :
  bB T_ 117 [v] w fp (fun _:Unit=>True) (fun _=>.tuple #[]) (fun _=>[row 9 1 v m (tG m (s1 fun i=>B (m-1-i)))]):=by
 refine er func117 I I hn hs ?_;refine dP (by exact .here) hm ?_;rintro g cap cur rfl dD xT hsz Pz;have hlen:=iu (oC B m);refine Jr<|Jv I<|JI I<|JS I (by omega)<|Ja I<|Ja I<|Jn<|J0 ?_;refine bd (fun k:Nat=>2*k<=m) (fun k=>[(2,.int .i64 k),(3,.int .i64 ((m-1-k:Nat):Int)),(0,.slice (some ⟨g,0,none⟩) m cap)]) (fun k=>[bA g (.cells (tG m (s1 (swp B m k))++cur).toArray 9 (0,0))]) (fun k=>m-2*k) ?_ ?_
 ·apply aJ 0 (by omega)
  case hs1=>exact .cons I (.Lr I (by congr 1;omega) (.cons I .nil))
  case ht=>
   rw [show tG m (s1 (swp B m 0))=tG m (s1 B) from mH fun i hi=>by unfold s1 swp;rw [if_neg (by omega)]]
   exact .h1 .nil
 intro k hk;have su:=iu (oC (swp B m k) m);by_cases aN:k<m-1-k
 ·have hj:m-1-k<m:=by omega
  have KM:k<m:=by omega
  have c1:=Iw (B:=swp B m k) cur KM;have c2:=Iw (B:=swp B m k) cur hj;have KU:=Iv (C:=fun i=>if i=k then swp B m k (m-1-k) else swp B m k i) cur KM (v:=swp B m k (m-1-k)) (B:=swp B m k) fun i _=>rfl
  have Sj:=Iv (C:=swp B m (k+1)) cur hj (v:=swp B m k k) (B:=fun i=>if i=k then swp B m k (m-1-k) else swp B m k i) fun i hi=>by
   symm;unfold swp;by_cases e1:i=m-1-k
   ·subst e1;rw [if_pos I,if_neg (by omega),if_pos (by omega)];congr 1;omega
   ·rw [if_neg e1];by_cases e2:i=k
    ·subst e2;rw [if_pos I,if_neg (by omega),if_pos (by omega)]
    ·rw [if_neg e2];by_cases e3:i<k\/m-k<=i
     ·rw [if_pos e3,if_pos (by omega)]
     ·rw [if_neg e3,if_neg (by omega)]
  have rW:k*1+1<=(tG m (s1 (swp B m k))++cur).length:=by rw [Zg,su];omega
  have tX:(m-1-k)*1+1<=(tG m (s1 (fun i=>if i=k then swp B m k (m-1-k) else swp B m k i))++cur).length:=by rw [Zg,iu (oC _ m)];omega
  refine Jq<|Jr<|Jv I<|Jv I<|JA I<|Jn<|Jd I fun aA=>Jk<|Jq<|J0 ?_
  with_reducible refine MT 16 I ?_
  (refine eZ 0 I mz mz mz (fun w ρ=>rfl) (fun w=>(aL (.of I))) I<|eZ 1 I mz mz mz (fun w ρ=>rfl) (fun w=>(aL (.of I))) I<|eZ 2 I mz mz mz (fun w ρ=>rfl) (fun w=>(aL (.of I))) I<|eZ 3 I mz mz mz (fun w ρ=>rfl) (fun w=>(aL (.of I))) I<|eZ 4 I mz mz mz (fun w ρ=>rfl) (fun w=>(aL (.of I))) I<|eZ 5 I mz mz mz (fun w ρ=>rfl) (fun w=>(aL (.of I))) I<|eZ 6 I mz mz mz (fun w ρ=>rfl) (fun w=>(aC (.of I) (.of I) I (by omega) (by omega) bu)) I<|eZ 8 I mz mz mz (fun w ρ=>rfl) (fun w=>(aL (.of I))) I<|eZ 9 I mz mz mz (fun w ρ=>rfl) (fun w=>(aL (.of I))) I<|eZ 10 I mz mz mz (fun w ρ=>rfl) (fun w=>(aC (.of I) (.of I) I (by omega) (by omega) bu)) I ?_)
  refine cI (rs:=[7,11]) (by kernel_rfl) (by simp) (Zt.2 ⟨?_,Zt.2 ⟨?_,fun _ h=>absurd h Zo⟩⟩)
  ·refine cQ I ?_
   (refine ab (ag (.of I) (At.pj .here c2)) I<|Jn ?_)
   ·refine cI (rs:=[11]) (by kernel_rfl) (by simp) (Zt.2 ⟨?_,fun _ h=>absurd h Zo⟩);refine cQ I ?_
    (refine ab (ag (.of I) (At.pj .here c1)) I<|Jn ?_)
    refine eZ 12 I mz mz mz (fun w ρ=>rfl) (fun w=>(aC (.of I) (.of I) I (by omega) (by omega) bu)) I ?_;refine cI (rs:=[13]) (by kernel_rfl) (by simp) (Zt.2 ⟨?_,fun _ h=>absurd h Zo⟩);refine cQ I ?_
    with_reducible apply aq
    case hx=>exact Is.of I
    case hy=>exact Is.of I
    case ht=>exact .here
    case hv=>exact I
    case hl=>rfl
    case h1=>exact aU I eS
    case h2=>exact rW
    case he=>exact KU
    refine Jn ?_;refine eZ 14 I mz mz mz (fun w ρ=>rfl) (fun w=>(aC (.of I) (.of I) I (by omega) (by omega) bu)) I ?_;refine cI (rs:=[15]) (by kernel_rfl) (by simp) (Zt.2 ⟨?_,fun _ h=>absurd h Zo⟩);refine cQ I ?_
    with_reducible apply aq
    case hx=>exact Is.of I
    case hy=>exact Is.of I
    case ht=>exact .here
    case hv=>exact I
    case hl=>rfl
    case h1=>exact aU I eS
    case h2=>exact tX
    case he=>exact Sj
    refine Jn ?_
    with_reducible refine cn (by kernel_rfl) ?_
    refine Jj<|Jt<|Jg<|Jv I<|JB I (by omega)<|Jv I<|JS I (by omega)<|Ja I<|Ja I<|Jn ?_;apply aI (k+1) (by omega) (by omega)
    case hs1=>exact .cons I (.Lr I (by congr 1;omega) (.cons I .nil))
    case ht=>exact qv
  ·refine cQ I ?_
   (refine ab (ag (.of I) (At.pj .here c1)) I<|Jn ?_)
   ·refine cI (rs:=[7]) (by kernel_rfl) (by simp) (Zt.2 ⟨?_,fun _ h=>absurd h Zo⟩);refine cQ I ?_
    (refine ab (ag (.of I) (At.pj .here c2)) I<|Jn ?_)
    refine eZ 12 I mz mz mz (fun w ρ=>rfl) (fun w=>(aC (.of I) (.of I) I (by omega) (by omega) bu)) I ?_;refine cI (rs:=[13]) (by kernel_rfl) (by simp) (Zt.2 ⟨?_,fun _ h=>absurd h Zo⟩);refine cQ I ?_
    with_reducible apply aq
    case hx=>exact Is.of I
    case hy=>exact Is.of I
    case ht=>exact .here
    case hv=>exact I
    case hl=>rfl
    case h1=>exact aU I eS
    case h2=>exact rW
    case he=>exact KU
    refine Jn ?_;refine eZ 14 I mz mz mz (fun w ρ=>rfl) (fun w=>(aC (.of I) (.of I) I (by omega) (by omega) bu)) I ?_;refine cI (rs:=[15]) (by kernel_rfl) (by simp) (Zt.2 ⟨?_,fun _ h=>absurd h Zo⟩);refine cQ I ?_
    with_reducible apply aq
    case hx=>exact Is.of I
    case hy=>exact Is.of I
    case ht=>exact .here
    case hv=>exact I
    case hl=>rfl
    case h1=>exact aU I eS
    case h2=>exact tX
    case he=>exact Sj
    refine Jn ?_
    with_reducible refine cn (by kernel_rfl) ?_
    refine Jj<|Jt<|Jg<|Jv I<|JB I (by omega)<|Jv I<|JS I (by omega)<|Ja I<|Ja I<|Jn ?_;apply aI (k+1) (by omega) (by omega)
    case hs1=>exact .cons I (.Lr I (by congr 1;omega) (.cons I .nil))
    case ht=>exact qv
 ·have XZ:tG m (s1 (swp B m k))=tG m (s1 fun i=>B (m-1-i)):=mH fun i hi=>by
   unfold s1 swp;by_cases e:i<k\/m-k<=i
   ·rw [if_pos e]
   ·rw [if_neg e];show [Value.string (B i)]=[Value.string (B (m-1-i))];rw [show m-1-i=i by omega]
  rw [XZ];have FJ:=iu (oC (fun i=>B (m-1-i)) m)
  refine dq (n:=m) (cap:=cap) (sz:=1) (show Take _ (bA g (.cells ((tG m (s1 fun i=>B (m-1-i)))++cur).toArray 9 (0,0))) _ by exact .here) dD xT (by rw [Zg,FJ];rw [Zg,Pz] at hsz;omega) FJ ?_;refine Jq<|Jr<|Jv I<|Jv I<|JA I<|Jn<|Jc I fun aA=>Jp<|Jl<|Jo ?_
  with_reducible first|apply aP|apply aQ
  case he=>exact qt I
  case hR=>
   intro w' az;exact aF () trivial (by exact .h1 .nil) az I
theorem Fc (l:List ByteArray):aO l=tG l.length (s1 fun i=>l.getD i ⟨#[]⟩):=by
 rw [DH];apply Zat;intro k;have h1:((List.range l.length).map (s1 fun i=>l.getD i ⟨#[]⟩)).flatten=(List.range l.length).map fun i=>Value.string (l.getD i ⟨#[]⟩):=by
  have:=lz ((List.range l.length).map fun i=>Value.string (l.getD i ⟨#[]⟩))
  rw [ZaI] at this;exact this
 rw [h1];unfold aO;by_cases h:k<l.length
 ·simp [h,Zk]
 ·simp [h]
theorem M3 (l:List ByteArray):aO l.reverse=tG l.length (s1 fun i=>l.getD (l.length-1-i) ⟨#[]⟩):=by
 rw [Fc,List.length_reverse];apply mH;intro i hi;show [Value.string (l.reverse.getD i ⟨#[]⟩)]=[Value.string (l.getD (l.length-1-i) ⟨#[]⟩)];rw [Zk,Zk,List.getElem?_reverse hi]
theorem DS {v:Value} {l:List ByteArray} {n:Nat} (hl:n=l.length) (hm:n<=1000000) (hn:fp.Nodup) (hs:cA (hp w) [row 9 1 v n (aO l)] fp) :
  bB T_ 117 [v] w fp (fun _:Unit=>True) (fun _=>.tuple #[]) (fun _=>[row 9 1 v n (aO l.reverse)]):=by
 subst hl;by_cases h0:0<l.length
 ·rw [Fc] at hs;rw [M3];exact IG h0 hm hn hs
 ·obtain rfl:l=[]:=Z4 (by omega);show bB T_ 117 [v] w fp (fun _:Unit=>True) (fun _=>.tuple #[]) (fun _=>[row 9 1 v 0 []])
  replace hs:cA (hp w) [row 9 1 v 0 []] fp:=hs
  refine er func117 I I hn hs ?_;refine aT (E:=9) (sz:=1) (by exact .here) fun a cp e=>?_;subst e;refine Jr<|Jv I<|JI I<|JS I (by omega)<|Ja I<|Ja I<|Jn<|J0 ?_;refine bd (fun _:Nat=>True) (fun k=>[(2,.q 0),(3,.q (-1)),(0,.slice a 0 cp)]) (fun k=>[row 9 1 (.slice a 0 cp) 0 []]) (fun k=>k) ?_ ?_
  ·apply aJ 0 trivial
   case hs1=>exact cB
   case ht=>exact qv
  intro k _;refine Jq<|Jr<|Jv I<|Jv I<|JA I<|Jn<|Jc I fun aA=>Jp<|Jl<|Jo ?_
  with_reducible first|apply aP|apply aQ
  case he=>exact qt I
  case hR=>
   intro w' az;exact aF () trivial (by exact .h1 .nil) az I
theorem LO {r:Ro} {s d t p:Value} (v:Int) (o:ByteArray) {y:Nat×Nat×Nat} {w:World} {fp:List Nat} (jX:fp.Nodup) (hs:cA (hp w) [bA y.1 (.cells #[.string o] 9 (0,0)),JP y.2.1 r s d t p,bA y.2.2 (.cells #[.q v] 3 (0,0))] fp)
  (h:RR w r s d t p) (hO:RO fp r s d t p) (cJ:r.ti.length<=1000000) :
  bB T_ 221 [.z,.func (.func 222) #[] #[.pointer (some ⟨y.1,0,none⟩),.pointer (some ⟨y.2.1,0,none⟩),.pointer (some ⟨y.2.2,0,none⟩)]] w fp (fun _:Value=>True) id (fun v1=>[row 9 1 v1 (fk r.po v (r.ti.length+1) o).length (aO (fk r.po v (r.ti.length+1) o))]):=by
 have hlen:=ke r.po v (r.ti.length+1) o;refine er func221 I I jX hs ?_;refine Jr<|Jy I I fun _ _=>Ja I<|Jn<|Jq<|Jr<|Jv I<|Jn<|J0 ?_;rename_i b2 tX;refine aR 9 1 ?_
 refine jn (ps:=[7]) (f:=222) (first:=[]) (cap:=[.pointer (some ⟨y.1,0,none⟩),.pointer (some ⟨y.2.1,0,none⟩),.pointer (some ⟨y.2.2,0,none⟩)]) (ι:=Nat×Value) (κ:=Empty) (rst:=[]) ?hg
  [bA y.1 (.cells #[.string o] 9 (0,0)),JP y.2.1 r s d t p,bA y.2.2 (.cells #[.q v] 3 (0,0))] (xN r.po v (r.ti.length+1) o) ?hit
  (fun k x=>x.1=k/\k<=(fk r.po v (r.ti.length+1) o).length)
  (fun x=>[bA b2 (.cells #[x.2] 32 (0,0)),row 9 1 x.2 x.1 (aO ((fk r.po v (r.ti.length+1) o).take x.1))])
  (fun _=>False) (fun _=>[]) (fun _=>.ret) (0,.z) ⟨I,Zi _⟩ ?ht ?hlen ?hps ?round ?kn ?kj
 case hg=>exact Is.of I
 case hit=>intro w' az;exact D5 v o h hO cJ
 case ht=>
  exact .cons (.there .here) (.h4 .nil)
 case hlen=>intro vs oS;obtain ⟨x,_,rfl⟩:=Zw.1 oS;rfl
 case hps=>intro t ht;simp only [ZO,Zo,or_false] at ht;subst ht;exact Zax rfl
 case kj=>intro y;cases y
 case kn=>
  rintro ⟨n,v1⟩ D ⟨hq,_⟩;dsimp only [Zb,Za] at hq ⊢;rw [rz] at hq;subst hq;rw [ZN];refine Jj<|Jt<|Jr<|JL I .here I<|Ja I<|Jn<|Je ?_;refine aT (E:=9) (sz:=1) (by exact Take.there .here) fun va vc e=>?_;subst e
  skip
  with_reducible first|apply aP|apply aQ
  case he=>exact dS I I
  case hR=>
   intro w' az;exact aF (.slice va (fk r.po v (r.ti.length+1) o).length vc) trivial (by exact .cons (.there .here) .nil) az I
 case round=>
  rintro l2 rc W VD k ⟨n,v1⟩ vs hsz hk ⟨hq,En⟩ hB hF;dsimp only at hq;subst hq;obtain ⟨a,hit,rfl,CC⟩:=D4 hk;obtain ⟨aN,KQ⟩:=Zl.1 CC;have htk:aO ((fk r.po v (r.ti.length+1) o).take (n+1))=aO ((fk r.po v (r.ti.length+1) o).take n)++[.string a]:=by rw [Zn aN,KQ,fg];rfl
  have su:(aO ((fk r.po v (r.ti.length+1) o).take n)).length=n*1:=by rw [dj,ZaO (by omega),Zas]
  dsimp only [List.zip_cons_cons,List.zip_nil_right,ml,Zb,Za];refine Jg<|Ja I<|Jn ?_
  with_reducible apply mF
  case ht=>exact .here
  refine aT (E:=9) (sz:=1) bO fun v1 v2 e=>?_;subst e;refine J0<|Jg<|JL I (.there .here) I<|Jv I<|bn (aB (.o I .nil) I I I I) I fun _ _=>?_;refine bH (.of I) (.of I) c6 .here an (by rfl) (dG I) (by rfl) (by rfl) (by rfl) eC (by rfl) ?_;intro v';refine aT (by exact .here) fun a' il e=>?_;subst e
  (refine aq (.of I) (.of I) c6 I I (dG I) (bF I) an<|Jx<|Jj ?_)
  apply lU (n+1,.slice a' (n+1) il)
  case ht=>exact c6
  case hx=>exact ⟨I,aN⟩
  case h2=>
   show bK _ [bA b2 (.cells #[.slice a' (n+1) il] 32 (0,0)),row 9 1 (.slice a' (n+1) il) (n+1) (aO ((fk r.po v (r.ti.length+1) o).take (n+1)))] _;rw [htk];exact .h2 .nil
theorem Lt {r:Ro} {s d t p:Value} (v:Int) (o:ByteArray) {y:Nat×Nat×Nat} {w:World} {fp:List Nat} (jX:fp.Nodup) (hs:cA (hp w) [bA y.1 (.cells #[.string o] 9 (0,0)),JP y.2.1 r s d t p,bA y.2.2 (.cells #[.q v] 3 (0,0))] fp)
  (h:RR w r s d t p) (hO:RO fp r s d t p) (cJ:r.ti.length<=1000000) :
  bB T_ 115 [.func (.func 222) #[] #[.pointer (some ⟨y.1,0,none⟩),.pointer (some ⟨y.2.1,0,none⟩),.pointer (some ⟨y.2.2,0,none⟩)]] w fp (fun _:Value=>True) id (fun v1=>[row 9 1 v1 (fk r.po v (r.ti.length+1) o).length (aO (fk r.po v (r.ti.length+1) o))]):=by
 refine er func115 I I jX hs ?_;refine Jr<|Ja I<|Ji<|Jv I ?_
 with_reducible apply fW (As:=[bA y.1 (.cells #[.string o] 9 (0,0)),JP y.2.1 r s d t p,bA y.2.2 (.cells #[.q v] 3 (0,0))])
 case hr=>exact bo
 case hd=>rfl
 case ht=>exact qv
 case hc=>
  intro w1 Bx aY wm hs1 Dm _;exact LO v o wm hs1 (h.jE hO aY.keeps) (h.out hO Dm) cJ
 intro v1 _;dsimp only [id_eq,Zb,Za];refine Ja I<|Jn<|Je ?_
 with_reducible first|apply aP|apply aQ
 case he=>exact dS I I
 case hR=>
  intro w' az;exact aF v1 trivial (by exact .h1 .nil) az I
def HS (r:Ro) (v:Int) (o:ByteArray):Int:=ba [fT r,Dg r v,ux r o]
def QB (r:Ro) (v:Int) (o:ByteArray):List ByteArray:=if fk r.po v (r.ti.length+1) o=[] then [] else (fk r.po v (r.ti.length+1) o).reverse++[o]
def Gn (r:Ro) (v:Int) (o:ByteArray):List ByteArray:=if HS r v o≠0 then [] else QB r v o
theorem Pa {r:Ro} {s d t p:Value} (v:Int) (o:ByteArray) {w:World} (h:RR w r s d t p) (cJ:me r):bB T_ 22 [RA r s d t p,.q v,.string o] w [] (fun _:Value=>True) (fun x=>.tuple #[x,.q (HS r v o)]) (fun x=>[row 9 1 x (Gn r v o).length (aO (Gn r v o))]):=by
 obtain ⟨h1,h2,h3,h4⟩:=h.one;have agd:=cJ.2.2;have fB:∀ w',aH [] w w'->ao T_ 34 [.agg #[.int .i64 r.lv,.int .i64 r.ma,s,d,t,p]] w' (.int .i64 (fT r)):=fun w' hk=>eT (h.keeps hk) cJ
 have hle:∀ w',aH [] w w'->ao T_ 114 [.agg #[.q r.lv,.q r.ma,s,d,t,p],.q v] w' (.q (Dg r v)):=fun w' hk=>k6 v (h.keeps hk)
 have lp:∀ w',aH [] w w'->ao T_ 112 [.agg #[.q r.lv,.q r.ma,s,d,t,p],.string o] w' (.q (ux r o)):=fun w' hk=>eM o (h.keeps hk)
 unfold RA;refine aV func22 I I ?_;refine Jr<|Jy I I fun _ _=>Ja I<|Ja I<|Jn<|Jq<|Jq ?_;rename_i b3 uY
 with_reducible refine cS 9 (by kernel_rfl) ?_
 (refine ar (cN .here) I<|aZ bS I (fun w' az=>(fB w' (Mem.keeps az)))<|ar (cN .here) I<|ar kL I<|aZ bo I (fun w' az=>(hle w' (Mem.keeps az)))<|ar (cN .here) I<|ar kL I<|aZ bo I (fun w' az=>(lp w' (Mem.keeps az)))<|eA (aB (.o I (.o I (.o I .nil))) I I I I) I I ?_)
 with_reducible refine dz I fun bq lN=>?_
 (refine aj bS I (fun w' az=>(dE (Mem.dB az .here I I) (cg.cons (cg.cons (cg.cons cg.nil)))))<|Ja I<|Ji<|Jv I<|JD I<|Jn<|gR I (fun aA=>?_) fun aA=>?_;refine Jr<|Jv I<|Ja I<|Ja I<|Jn<|Ju ?_;rotate_left;refine Jk<|Jr<|ab (cN (.there .here)) I<|Jv I<|Jv I ?_;rotate_right)
 ·have e1:Gn r v o=[]:=if_pos aA;rw [e1];refine aR 9 1 ?_
  with_reducible first|apply aP|apply aQ
  case he=>exact gl I I I
  case hR=>
   intro w' az;exact aF (.z) trivial (by exact .h1 .nil) az I
 have e1:Gn r v o=QB r v o:=if_neg aA;have e0:ba [fT r,Dg r v,ux r o]=0:=Zr.1 aA;have e2:HS r v o=0:=e0;clear aA;rw [e1,e2];refine JN ek I (fun w1 aY=>vF v o (h.keeps aY.keeps)) ?_;intro y _;dsimp only [id_eq,Zb,Za]
 skip
 with_reducible apply fW (As:=[bA y.1 (.cells #[.string o] 9 (0,0)),JP y.2.1 r s d t p,bA y.2.2 (.cells #[.q v] 3 (0,0))])
 case hr=>exact bS
 case hd=>rfl
 case ht=>exact qv
 case hc=>
  intro w1 Bx aY wm hs1 Dm _;exact Lt v o wm hs1 (h.keeps aY.keeps) (h.out (md:=[]) RO.nil (fun b hb=>Dm b hb)) (by omega)
 intro v1 _;have hlen:=ke r.po v (r.ti.length+1) o;dsimp only [id_eq,Zb,Za];refine aT (E:=9) (sz:=1) (by exact .here) fun va vc e=>?_;subst e;unfold QB;generalize hL:fk r.po v (r.ti.length+1) o=L at hlen ⊢
 (refine Ja I<|Jn<|Jq<|Jr<|Jv I<|JI I<|JC I<|Jn<|gR I (fun aA=>?_) fun aA=>?_;refine Jr<|Ja I<|Ja I<|Jn<|Ju ?_;rotate_left;refine Jk<|Jr<|Jv I ?_;rotate_right)
 ·have KG:L=[]:=Z4 (by omega);rw [if_pos KG];refine aR 9 1 ?_
  with_reducible first|apply aP|apply aQ
  case he=>exact gl I I I
  case hR=>
   intro w' az;exact aF (.z) trivial (by exact .h1 .nil) az I
 have hnn:¬ L=[]:=fun e=>by rw [e] at aA;exact aA I
 rw [if_neg hnn]
 with_reducible apply fW (As:=[row 9 1 (.slice va L.length vc) L.length (aO L)])
 case hr=>exact bS
 case hd=>rfl
 case ht=>exact qv
 case hc=>
  intro w1 Bx aY wm hs1 Dm _;exact DS I (by omega) wm hs1
 intro _ _;have bj:aO (L.reverse++[o])=aO L.reverse++[.string o]:=by rw [fg];rfl
 have hlr:(aO L.reverse).length=L.length*1:=by rw [dj,List.length_reverse,Zas]
 have FJ:(L.reverse++[o]).length=L.length+1:=by simp
 rw [FJ,bj];dsimp only [id_eq,Zb,Za];refine Ji<|Jv I<|Jv I<|bn (aB (.o I .nil) I I I I) I fun _ _=>?_;refine bH (.of I) (.of I) (.there .here) .here an (by rfl) (dG I) (by rfl) (by rfl) (by rfl) eC (by rfl) ?_;intro v';refine Ja I<|Ja I<|Jn<|Je ?_
 with_reducible first|apply aP|apply aQ
 case he=>exact gl I I I
 case hR=>
  intro w' az;exact aF v' trivial (by exact .h1 .nil) az I
theorem GK {α:Type} {R:α->α->Prop} (ht:∀ a b c,R a b->R b c->R a c):∀ {l:List α},(∀ k (h:k+1<l.length),R l[k] l[k+1])->l.Pairwise R:=by
 intro l h;rw [ZY];intro i j hi hj wA;obtain ⟨d,rfl⟩:∃ d,j=i+1+d:=⟨j-(i+1),by omega⟩;clear wA
 induction d with
 | zero=>exact h i hj
 | succ d ih=>exact ht _ _ _ (ih (by omega)) (h (i+1+d) hj)
theorem pf {a b c d:Int}:¬ lP [a,b] [c,d]<=0↔c<a\/c=a/\d<b:=by
 unfold lP;by_cases h1:kH a c=0
 ·rw [if_neg (not_not_intro h1)];have:=iM.1 h1;unfold lP;by_cases h2:kH b d=0
  ·rw [if_neg (not_not_intro h2)];have:=iM.1 h2;unfold lP;omega
  ·rw [if_pos h2];unfold kH at h2 ⊢;split at h2 <;> split <;> first | omega | (split <;> omega)
 ·rw [if_pos h1];have Dn:a≠c:=fun e=>h1 (iM.2 e)
  unfold kH;split
  ·omega
  ·split <;> omega
theorem JV {r:Ro} (hd:Dq r) (h6:r.ti.length<=6):n9 r:=by
 obtain ⟨_,_,_,d1,d2,d3⟩:=hd.parts;exact ⟨d1,d2,d3,by unfold ct;rw [Zd];exact h6⟩
structure qX (r:Ro):Prop where
 lim:1<=r.lv/\r.lv<=3/\1<=r.ma/\r.ma<=4
 EC:Dq r
 len:r.sr.length<=8/\r.de.length<=8/\r.ti.length<=6
 sm:∀ x∈r.sr,0<=x.mx/\x.mx<r.ma
 dm:∀ x∈r.de,0<=x.mx/\x.mx<r.ma
 tm:∀ x∈r.ti,(0<=x.fr/\x.fr<r.ma)/\(0<=x.to/\x.to<r.ma)/\x.fr≠x.to
 val:gV r r.po
theorem qX.tL {r:Ro} (h:qX r):n9 r:=JV h.EC h.len.2.2
theorem fA {r:Ro} {m:Int}:fo r m=0↔0<=m/\m<r.ma:=by
 unfold fo;rw [bC (by decide)];simp
theorem Jf {r:Ro} (hd:∀ x∈r.de,0<=x.mx) (ht:∀ x∈r.ti,0<=x.fr) {s:ByteArray} (h:0<=jR r s):s∈bY r\/s∈ct r:=by
 by_cases h1:s∈bY r
 ·exact .inl h1
 ·by_cases h2:s∈ct r
  ·exact .inr h2
  ·unfold jR at h;have f1:=cm.2 h1;have f2:=cm.2 h2;rw [if_neg (by omega),if_neg (by omega)] at h;omega
theorem Kn {r:Ro} {s:ByteArray} (h:0<=jH r s):s∈cz r\/s∈ct r:=by
 by_cases h1:s∈cz r
 ·exact .inl h1
 ·by_cases h2:s∈ct r
  ·exact .inr h2
  ·unfold jH at h;have f1:=cm.2 h1;have f2:=cm.2 h2;rw [if_neg (by omega),if_neg (by omega)] at h;omega
theorem nw {r:Ro} {x:Po} (h:mn r x=0):(0<=x.lv/\x.lv<r.lv)/\0<=jR r x.ou/\0<=jH r x.ip/\jR r x.ou=jH r x.ip:=by
 unfold mn at h;rw [bP] at h;have h1:=gB.1 (h _ Zp);have h2:=(bC (by decide)).1 (h (bT (decide (jR r x.ou<0)) 10) (by simp));have h3:=(bC (by decide)).1 (h (bT (decide (jH r x.ip<0)) 10) (by simp));have h4:=(bC (by decide)).1 (h (bT (decide (jR r x.ou≠jH r x.ip)) 24) (by simp));simp only [decide_eq_false_iff_not,ne_eq,Zr] at h2 h3 h4;exact ⟨by omega,by omega,by omega,h4⟩
theorem lF {r:Ro} {q:Int->Bool}:j6 r q=false↔∀ v:Int,0<=v->v<r.lv->q v=false:=by
 unfold j6;rw [Zap];constructor
 ·intro h v h0 h1;have:=h v.toNat (ZU.2 (by omega));rw [show ((v.toNat:Nat):Int)=v by omega] at this;simpa using this
 ·intro h i hi;have:=ZU.1 hi;rw [h i (by omega) (by omega)];decide
theorem uo {r:Ro} (h:fT r=0):qX r:=by
 obtain ⟨h1,h2,h3,h4⟩:=qP h;obtain ⟨kY,hlen,hs,hd,ht⟩:=Ao h2;have KV:∀ x∈r.de,0<=x.mx/\x.mx<r.ma:=fun x hx=>fA.1 (hd x hx)
 have To:∀ x∈r.ti,(0<=x.fr/\x.fr<r.ma)/\(0<=x.to/\x.to<r.ma)/\x.fr≠x.to:=fun x hx=>by
  have:=ht x hx;unfold nq at this;rw [bP] at this;have g3:=(bC (by decide)).1 (this (bT (decide (x.fr=x.to)) 24) (by simp));exact ⟨fA.1 (this _ (by simp)),fA.1 (this _ (by simp)),by simpa using g3⟩
 have hp:∀ k (hk:k<r.po.length),mn r r.po[k]=0/\¬ lP [(r.po[k]).lv,dY r (r.po[k]).ou] (EJ r (if k=0 then none else r.po[k-1]?))<=0:=fun k hk=>by
  have:=dC.1 h3 k hk;rw [ru hk] at this;by_cases e:mn r r.po[k]=0
  ·rw [if_neg (not_not_intro e)] at this;by_cases e2:lP [(r.po[k]).lv,dY r (r.po[k]).ou] (EJ r (if k=0 then none else r.po[k-1]?))<=0
   ·rw [if_pos e2] at this;exact absurd this (by decide)
   ·exact ⟨e,e2⟩
  ·rw [if_pos e] at this;exact absurd this e
 have Ob:∀ p∈r.po,mn r p=0:=fun p l5=>by
  obtain ⟨k,hk,rfl⟩:=Zu l5;exact (hp k hk).1
 have Sd:∀ p∈r.po,0<=p.lv/\p.lv<r.lv:=fun p l5=>(nw (Ob p l5)).1
 have hti:(ct r).length=r.ti.length:=by unfold ct;rw [Zd]
 unfold AF at h4;rw [bP] at h4;have Va:=lF.1 ((bC (by decide)).1 (h4 (bT (j6 r fun v=>r.ti.any (Mv r v)) 33) (by simp)))
 have Yd:=lF.1 ((bC (by decide)).1 (h4 (bT (j6 r fun v=>r.ti.any (I9 r v)) 32) (by simp)))
 have G0:∀ v:Int,¬ (0<=v/\v<r.lv)->∀ o,eJ r.po v o=none:=fun v hv o=>gP.2 fun p l5 e=>hv (e.1 ▸ Sd p l5)
 refine ⟨vR h1,kY,hlen,fun x hx=>fA.1 (hs x hx),KV,To,?_,Sd,?_,?_,?_,?_,?_⟩
 ·refine GK (R:=fun a b=>oM r a b=true) (fun a b c h h'=>y7 h h') fun k hk=>?_;have:=(hp (k+1) hk).2;rw [if_neg (by omega),ZaK,Zc (by omega)] at this;have:=pf.1 this;unfold oM;simp only [ZP,Zm,decide_eq_true_eq];exact this
 ·exact fun p l5=>Jf (fun x hx=>(KV x hx).1) (fun x hx=>(To x hx).1.1) (nw (Ob p l5)).2.1
 ·exact fun p l5=>Kn (nw (Ob p l5)).2.2.1
 ·exact fun p l5=>(nw (Ob p l5)).2.2.2
 ·rintro v ⟨t,GW,hc⟩;rw [hti] at hc;by_cases hv:0<=v/\v<r.lv
  ·obtain ⟨x,hx,rfl⟩:=Zw.1 GW;have:=Zap.1 (Va v hv.1 hv.2) x hx;exact this (dN.2 hc)
  ·rw [sf (G0 v hv t)] at hc;cases hc
 ·intro v t GW;by_cases hv:0<=v/\v<r.lv
  ·obtain ⟨x,hx,rfl⟩:=Zw.1 GW;have:=Zap.1 (Yd v hv.1 hv.2) x hx;unfold I9 at this;cases h1:ib r.po v x.nm <;> cases h2:nS r.po v x.nm <;> rw [h1,h2] at this <;> simp at this <;> simp
  ·have e1:ib r.po v t=false:=by unfold ib;rw [G0 v hv t];rfl
   have e2:nS r.po v t=false:=by
    unfold nS;rw [Zap];intro p l5 e;unfold AK at e;simp only [Zm,decide_eq_true_eq] at e;exact hv (e.1 ▸ Sd p l5)
   rw [e1,e2]
theorem tw {r:Ro} (hn:n9 r) (h:gV r r.po) (v:Int) (o:ByteArray):kN r v o=pV r.po v (cz r) o:=by
 have hti:(ct r).length=r.ti.length:=by unfold ct;rw [Zd]
 have:=Hg hn h v o;rw [hti] at this;unfold kN pV;rw [this];by_cases hm:gp r.po v 7 o∈cz r
 ·have h0:=cF hm;obtain ⟨x,hx,e⟩:=Zw.1 hm;rw [if_pos (ZR.2 ⟨x,hx,by simpa using e⟩),if_neg (by omega)]
 ·have h0:=cm.2 hm;rw [if_neg (fun e=>by
   obtain ⟨x,hx,e⟩:=ZR.1 e;exact hm (Zw.2 ⟨x,hx,by simpa using e⟩)),if_pos h0]
end Go.Proofs.A1
namespace Go.SL
open Go
def kS (E:TypeId) (sz:Nat) (v:Value) (n:Nat) (xs:List Value):bh where
 sat h fp:=xs.length=n*sz/\((fp=[]/\v=.z/\n=0) \/
  ∃ g off cap cur,fp=[g]/\v=.slice (some ⟨g,off,none⟩) n cap/\h g=some (.cells cur E (0,0))/\n<=cap/\cap<=maxLen/\off+cap*sz<=cur.size/\(cur.toList.drop off).take (n*sz)=xs)
 loc:=by
  rintro h h' fp ⟨hl,h1⟩ hb;refine ⟨hl,h1.imp id ?_⟩;rintro ⟨g,off,cap,cur,rfl,rfl,hg,r⟩;exact ⟨g,off,cap,cur,I,I,by rw [hb g (by simp)];exact hg,r⟩
 own:=by
  rintro h fp ⟨hl,h1⟩ b hb;rcases h1 with ⟨rfl,_⟩ | ⟨g,off,cap,cur,rfl,rfl,hg,_⟩
  ·cases hb
  ·rw [ZB] at hb;subst hb;exact ⟨_,hg⟩
theorem oD {h:Nat->Option Obj} {E:TypeId} {sz:Nat} {v:Value} {n:Nat} {xs:List Value} {fp:List Nat} (hr:(row E sz v n xs).sat h fp):(kS E sz v n xs).sat h fp:=by
 obtain ⟨e,hl,h1⟩:=hr;rcases h1 with ⟨rfl,h0⟩ | ⟨g,cap,cur,rfl,hg,h2,h3,h4,h5⟩
 ·exact ⟨hl,.inl ⟨by simpa [Value.ownBlock] using e,I,h0⟩⟩
 ·exact ⟨hl,.inr ⟨g,0,cap,cur,by simpa [Value.ownBlock] using e,I,hg,h2,h3,by omega,by simpa using h5⟩⟩
section
variable {c:Cx} {D:List Nat} {sl:aD} {hs hs':List bh} {X:Act->World->Prop} {E:TypeId} {sz:Nat} {v:Value} {n:Nat} {xs:List Value}
theorem uF {A B:bh} (ht:Take hs A hs') (hc:∀ h fp,A.sat h fp->B.sat h fp) (k:Tr c D sl (B::hs') X):Tr c D sl hs X:=fun a w bj=>
 k a w (bj.heap (by
  obtain ⟨kk,fp,jX,⟨f1,f2,rfl,h1,h2⟩,hb⟩:=bj.mem.take (ht.append _);exact ⟨kk,f1++f2,jX,⟨f1,f2,I,hc _ _ h1,h2⟩,hb⟩))
theorem Gp (ht:Take hs (row E sz v n xs) hs') (k:Tr c D sl (kS E sz v n xs::hs') X):Tr c D sl hs X:=uF ht (fun _ _ h=>oD h) k
theorem yz (ht:Take hs (kS E sz v n xs) hs') (k:∀ a cap,v=.slice a n cap->n<=cap->cap<=maxLen->Tr c D sl hs X):Tr c D sl hs X:=fun a w bj=>by
 obtain ⟨kk,fp,jX,⟨f1,f2,rfl,⟨_,h1⟩,h2⟩,hb⟩:=bj.mem.take (ht.append _);rcases h1 with ⟨_,e,h0⟩ | ⟨g,off,cap,cur,_,e,_,hc,hm,_⟩
 ·subst h0;exact k none 0 e (ZC _) (by unfold maxLen;omega) a w bj
 ·exact k _ cap e hc hm a w bj
theorem BF (ht:Take hs (kS E sz v n xs) hs') (hn:0<n)
  (k:∀ g off cap pre cur,v=.slice (some ⟨g,off,none⟩) n cap->pre.length=off->n<=cap->cap<=maxLen->off+cap*sz<=(pre++xs++cur).length->xs.length=n*sz->Tr c D sl (bA g (.cells (pre++xs++cur).toArray E (0,0))::hs') X):Tr c D sl hs X:=fun a w bj=>by
 obtain ⟨kk,fp,jX,⟨f1,f2,rfl,⟨hl,h1⟩,h2⟩,hb⟩:=bj.mem.take (ht.append _);rcases h1 with ⟨_,_,h0⟩ | ⟨g,off,cap,cur,rfl,e,hg,hc,hm,hfit,htk⟩
 ·omega
 ·have hsz:n*sz<=cap*sz:=Z9 _ hc;have hcs:cur.size=cur.toList.length:=by simp
  have nH:cur=(cur.toList.take off++xs++cur.toList.drop (off+n*sz)).toArray:=by
   apply Array.ext';show cur.toList=_;rw [<- htk]
   conv=>lhs;rw [<- ZX off cur.toList]
   rw [Zh];congr 1
   conv=>lhs;rw [<- ZX (n*sz) (cur.toList.drop off)]
   rw [Zbf]
  refine k g off cap (cur.toList.take off) (cur.toList.drop (off+n*sz)) e ?_ hc hm ?_ hl a w (bj.heap ⟨kk,[g]++f2,jX,⟨[g],f2,I,⟨I,by rw [<- nH];exact hg⟩,h2⟩,hb⟩)
  ·rw [Zs];omega
  ·have:=congrArg (fun x:Array Value=>x.toList.length) nH
   simp only [ZaR] at this;rw [<- this];exact hfit
theorem yL {h:Nat->Option Obj} {g off cap:Nat} {pre cur:List Value} {fp:List Nat} (hb:(bA g (.cells (pre++xs++cur).toArray E (0,0))).sat h fp) (hp:pre.length=off) (hc:n<=cap) (hm:cap<=maxLen) (hfit:off+cap*sz<=(pre++xs++cur).length) (hl:xs.length=n*sz):(kS E sz (.slice (some ⟨g,off,none⟩) n cap) n xs).sat h fp:=by
 obtain ⟨e,hg⟩:=hb;refine ⟨hl,.inr ⟨g,off,cap,_,e,I,hg,hc,hm,by rw [Zbm];exact hfit,?_⟩⟩;show ((pre++xs++cur).drop off).take (n*sz)=xs;rw [Zh,<- hp,List.drop_left,<- hl,List.take_left]
theorem BE {g off cap:Nat} {pre cur:List Value} (ht:Take hs (bA g (.cells (pre++xs++cur).toArray E (0,0))) hs') (hp:pre.length=off) (hc:n<=cap) (hm:cap<=maxLen) (hfit:off+cap*sz<=(pre++xs++cur).length) (hl:xs.length=n*sz)
  (k:Tr c D sl (kS E sz (.slice (some ⟨g,off,none⟩) n cap) n xs::hs') X):Tr c D sl hs X:=uF ht (fun _ _ h=>yL h hp hc hm hfit hl) k
theorem BD {a:Option Addr} {cap:Nat} (ht:Take hs (kS E sz (.slice a (n+1) cap) (n+1) xs) hs') (k:Tr c D sl (kS E sz (Go.sliced a 1 (n+1) cap sz) n (xs.drop sz)::hs') X):Tr c D sl hs X:=
 uF ht (fun h fp hr=>by
  obtain ⟨hl,h1⟩:=hr;rcases h1 with ⟨_,_,h0⟩ | ⟨g,off,il,cur,rfl,e,hg,hc,hm,hfit,htk⟩
  ·omega
  ·obtain ⟨rfl,-,rfl⟩:=Value.slice.inj e;have FJ:(xs.drop sz).length=n*sz:=by rw [Zbe,hl,Zaj];omega
   refine ⟨FJ,.inr ?_⟩;have Ur:(cur.toList.drop (off+sz)).take (n*sz)=xs.drop sz:=by
    rw [<- htk,List.drop_take,Zbf,show (n+1)*sz-sz=n*sz by rw [Zaj];omega]
   by_cases W6:cap=1
   ·subst W6;have KH:n=0:=by omega
    subst KH;refine ⟨g,off,0,cur,I,?_,hg,ZC _,by omega,by omega,?_⟩
    ·simp [Go.sliced]
    ·rw [<- Ur];simp
   ·refine ⟨g,off+sz,cap-1,cur,I,?_,hg,by omega,by omega,?_,Ur⟩
    ·simp only [Go.sliced,if_neg W6,Zbl,Addr.add,Nat.one_mul,ZaK];by_cases h0:sz=0
     ·rw [if_pos h0,h0];rfl
     ·rw [if_neg h0]
    ·have:cap*sz=(cap-1)*sz+sz:=by
      rw [<- Zaj];congr 1;omega
     omega) k
end
end Go.SL
namespace Go.SL
open Go Go.Shelf Go.RowKit Go.Proofs Go.Lib Go.Sort
theorem aH.grown {w w':World} (h:aH [] w w'):∃ q os',w'=Go.Sort.grow (w.drewN q) os':=by
 refine ⟨w'.drawn-w.drawn,w'.heap.extract w.heap.size w'.heap.size,?_⟩;have hd:=h.dr;have hh:w'.heap=w.heap++w'.heap.extract w.heap.size w'.heap.size:=by
  apply Array.ext_getElem?;intro k;by_cases hk:k<w.heap.size
  ·rw [Array.getElem?_append_left hk];exact h.block k hk (by simp)
  ·rw [Array.getElem?_append_right (by omega),Array.getElem?_extract];have hs:=h.size;by_cases eL:k<w'.heap.size
   ·rw [if_pos (by omega)];congr 1;omega
   ·rw [if_neg (by omega),Zbw (by omega)]
 cases w';cases w;have h1:=h.os;have h2:=h.tape;have h3:=h.output;simp only at h1 h2 h3 hh hd;subst h1;subst h2;subst h3;simp only [Go.Sort.grow,World.drewN];congr 1;omega
section
variable {P:Program} {α:Type} [Inhabited α]
theorem wN {enc:α->List Value} {k:Nat} (hk:∀ x,(enc x).length=k) (l:List α):(Go.Sort.flatK enc k l.toArray).toList=(l.map enc).flatten:=by
 have tV:=iX hk l;apply Zat;intro t;by_cases ht:t<l.length*k
 ·have wx:0<k:=by
   rcases Nat.eq_zero_or_pos k with e | e
   ·rw [e] at ht;omega
   ·exact e
  have h1:t / k<l.length:=by rw [Nat.div_lt_iff_lt_mul wx];exact ht
  have h2:t % k<k:=Nat.mod_lt _ wx;have e3:=Lc hk h1 h2 [];rw [ZQ,Nat.div_add_mod' t k] at e3;rw [e3,ZaG];have hsz:t<(Go.Sort.flatK enc k l.toArray).size:=by rw [Go.Sort.size_flatK];simpa using ht
  have e4:(Go.Sort.flatK enc k l.toArray)[t]? = some ((Go.Sort.flatK enc k l.toArray)[t]!):=by
   rw [getElem!_pos _ t hsz];exact getElem?_pos _ t hsz
  rw [e4,Go.Sort.get_flatK _ _ _ _ (by simpa using ht),getElem!_pos l.toArray (t / k) (by simpa using h1)];have h5:t % k<(enc l[t / k]).length:=by rw [hk];exact h2
  rw [Zc h5];congr 1;show (enc (l.toArray[t / k]'_))[t % k]! = _;rw [show l.toArray[t / k]'(by simpa using h1)=l[t / k] from I,getElem!_pos _ (t % k) h5]
 ·rw [Zaa (by rw [ZaR,Go.Sort.size_flatK];simpa using ht),Zaa (by rw [tV];omega)]
theorem Ci (pre cur vs ws:List Value) (h:ws.length=vs.length):Go.Sort.putCells id pre.length ws.toArray (pre++vs++cur).toArray=(pre++ws++cur).toArray:=by
 apply Array.ext_getElem?;intro j;unfold Go.Sort.putCells;rw [Array.getElem?_mapIdx];simp only [List.getElem?_toArray,Zbm];by_cases h1:j<pre.length
 ·rw [Zh,Zh,ZG h1,ZG h1];rw [Zc h1];simp only [Zbl];rw [if_neg (by omega)]
 ·by_cases h2:j<pre.length+ws.length
  ·have e1:(pre++vs++cur)[j]? = some ((pre++vs++cur)[j]'(by simp;omega)):=Zc _;rw [e1,Zbl,if_pos (by omega)];rw [Zh,ZI (by omega),ZG (by omega),Zc (by omega)];congr 1;show ws.toArray[j-pre.length]! = _;rw [getElem!_pos ws.toArray (j-pre.length) (by simp;omega)]
   rfl
  ·rw [ZI (by simp;omega),ZI (by simp;omega)];simp only [Zg,h];cases cur[j-(pre.length+vs.length)]? with
   | none=>rfl
   | some x =>
    rw [Zbl,if_neg (by omega)]
theorem BQ {ρ:Ren} (L:SlLaysF0.n6 P ρ) {k:Nat} (aE:∀ w,(isAgg (ρ.t 24)).run P w=.ok true w) (zE:∀ w,(Go.sizeOf (ρ.t 24)).run P w=.ok k w) {enc:α->List Value} (hk:∀ x,(enc x).length=k) (h1:∀ x,∀ v∈enc x,v.oneCell'=true) {cf:α->α->Int} (hO:Go.Sort.SWO (ltOf cf))
  {g b cap:Nat} {cb:Array Value} {l:List α} {pre cur:List Value} {E:TypeId} {w:World} (eg:∀ args w,(callFunc g args).run P w=.ok (.enter g args) w) (hb:w.heap[b]? = some (.cells (pre++(l.map enc).flatten++cur).toArray E (0,0))) (hsz:l.length<4611686018427387904)
  (YX:∀ w',aH [b] w w'->∀ x y:α,Calls P g (#[.agg (enc x).toArray,.agg (enc y).toArray]++cb) w' fun e vf=>e=.returned (.q (cf x y))/\aH [] w' vf) :
  Calls P (ρ.f 6) #[.slice (some ⟨b,pre.length,none⟩) l.length cap,.func (.func g) #[] cb] w fun e w'=>
   e=.returned (.tuple #[])/\∃ l':List α,l'.Perm l/\l'.Pairwise (fun x y=>ltOf cf y x=false)/\aH [b] w w'/\w'.heap[b]? = some (.cells (pre++(l'.map enc).flatten++cur).toArray E (0,0)):=by
 have PN:b<w.heap.size:=(Z0.1 hb).1;have UF:∀ (m:Nat) (d:Array α) (os:Array Obj),aH [b] w (sortWorldK enc k w b pre.length m d os):=by
  intro m d os;unfold sortWorldK putRowK;refine ⟨I,I,I,Nat.le_add_right _ _,by simp,fun q hq hne=>?_⟩;rw [Go.Sort.heap_grow_old _ _ (by simpa using hq)];have:b≠q:=fun e=>hne (by rw [e];simp)
  simp [Go.Sort.putRow,Go.Sort.mapBlock,Go.Sort.ahead,Zbi,this]
 have hC:CmpLays P g cb enc k cf b pre.length l.toArray.size w:=fun m os dk _ x y=>(YX _ (UF m dk os) x y).mono fun e w' ⟨he,sy⟩=>⟨he,sy.grown⟩
 have tV:=iX hk l;have hH:HoldsK enc k w b pre.length l.toArray:=by
  intro j hj;rw [Go.Sort.size_flatK] at hj;have nh:j<l.length*k:=by simpa using hj
  refine ⟨?_,by simp [World.frozen?,hb]⟩;have h0:=wN hk l;simp only [World.cell?,hb,Option.isSome_none,ZaW,if_false,List.getElem?_toArray];rw [Zh,ZI (by omega),Nat.add_sub_cancel_left,ZG (by omega),<- h0,ZaG];have hs:j<(Go.Sort.flatK enc k l.toArray).size:=by rw [Go.Sort.size_flatK];exact hj
  rw [getElem!_pos _ j hs];exact getElem?_pos _ j hs
 have key:=AnyQ.slices_SortFunc L k aE zE enc hk h1 cf hO g cb b pre.length cap l.toArray w eg hC hH PN (by simpa using hsz);refine Calls.mono key ?_;rintro e w' ⟨he,d',m,os,hp,rN,hw⟩;subst hw;obtain ⟨Br,_,hp3⟩:=hp;have hd:List.Perm d'.toList l:=by
  rw [show (l.toArray.extract 0 l.toArray.size)=l.toArray by simp,show d'.extract 0 l.toArray.size=d' by rw [<- Br];simp] at hp3;exact hp3
 refine ⟨he,d'.toList,hd,?_,UF m d' os,?_⟩
 ·rw [ZY];intro i j hi hj wA;rw [ZaR] at hi hj;have U7:d'.size=l.length:=by rw [Br];simp
  have:=rN i j (Zi _) wA (by simp;omega);rw [getElem!_pos d' i hi,getElem!_pos d' j hj] at this;simpa using this
 ·unfold sortWorldK putRowK;rw [Go.Sort.heap_grow_old _ _ (by simpa using PN)];have Ya:=Ci pre cur (l.map enc).flatten (Go.Sort.flatK enc k d').toList (by
   rw [ZaR,Go.Sort.size_flatK,tV,Br];simp)
  have WZ:=wN hk d'.toList;rw [ZaZ] at WZ Ya;rw [WZ] at Ya;simp [Go.Sort.putRow,Go.Sort.mapBlock,Go.Sort.ahead,Zbi,hb,Go.Sort.onCells];simpa using Ya
end
end Go.SL
namespace Go.Proofs
open Go.Shelf
def Tryz.DJ:Go.Shelf.Ren:=⟨fun | 6=>260 | 15=>245 | 14=>320 | 28=>312 | 29=>313 | 20=>349 | 21=>350 | 22=>351 | 23=>352 | 24=>353 | 25=>354 | 26=>355 | 27=>356 | 46=>376 | 47=>344 | 48=>345 | 49=>377 | 50=>378 | 57=>392 | n=>n,fun | 22=>329 | 24=>244 | 25=>332 | 3=>3 | 39=>318 | 0=>0 | 53=>381 | 55=>383 | 4=>4 | 46=>374 | 45=>373 | 50=>272 | 5=>5 | 9=>9 | 66=>409 | 70=>413 | 76=>428 | 77=>359 | n=>n,fun | n=>n⟩
theorem Tryz.DK:Go.Proofs.SlLaysF0.n6 Tryz.prog Tryz.DJ:={
 mixed:=by kernel_rfl
 f6:=⟨Tryz.f260.name,by decide,Tryz.func260.trans (congrArg some (by kernel_rfl))⟩
 f14:=⟨Tryz.f320.name,by decide,Tryz.func320.trans (congrArg some (by kernel_rfl))⟩
 f15:=Tryz.func245.trans (congrArg some (by kernel_rfl))
 f20:=⟨Tryz.f349.name,by decide,Tryz.func349.trans (congrArg some (by kernel_rfl))⟩
 f21:=⟨Tryz.f350.name,by decide,Tryz.func350.trans (congrArg some (by kernel_rfl))⟩
 f22:=⟨Tryz.f351.name,by decide,Tryz.func351.trans (congrArg some (by kernel_rfl))⟩
 f23:=⟨Tryz.f352.name,by decide,Tryz.func352.trans (congrArg some (by kernel_rfl))⟩
 f24:=⟨Tryz.f353.name,by decide,Tryz.func353.trans (congrArg some (by kernel_rfl))⟩
 f25:=⟨Tryz.f354.name,by decide,Tryz.func354.trans (congrArg some (by kernel_rfl))⟩
 f26:=⟨Tryz.f355.name,by decide,Tryz.func355.trans (congrArg some (by kernel_rfl))⟩
 f27:=⟨Tryz.f356.name,by decide,Tryz.func356.trans (congrArg some (by kernel_rfl))⟩
 f28:=Tryz.func312.trans (congrArg some (by kernel_rfl))
 f29:=Tryz.func313.trans (congrArg some (by kernel_rfl))
 f46:=⟨Tryz.f376.name,by decide,Tryz.func376.trans (congrArg some (by kernel_rfl))⟩
 f47:=Tryz.func344.trans (congrArg some (by kernel_rfl))
 f48:=Tryz.func345.trans (congrArg some (by kernel_rfl))
 f49:=⟨Tryz.f377.name,by decide,Tryz.func377.trans (congrArg some (by kernel_rfl))⟩
 f50:=⟨Tryz.f378.name,by decide,Tryz.func378.trans (congrArg some (by kernel_rfl))⟩
 f57:=⟨Tryz.f392.name,by decide,Tryz.func392.trans (congrArg some (by kernel_rfl))⟩
 t0:=Tryz.underlying0
 a0:=Tryz.isAgg0
 z0:=Tryz.sizeOf0
 v0:=Tryz.zeroValue0
 t3:=Tryz.underlying3
 a3:=Tryz.isAgg3
 z3:=Tryz.sizeOf3
 v3:=Tryz.zeroValue3
 t4:=Tryz.underlying4
 a4:=Tryz.isAgg4
 z4:=Tryz.sizeOf4
 v4:=Tryz.zeroValue4
 t5:=Tryz.underlying5
 a5:=Tryz.isAgg5
 z5:=Tryz.sizeOf5
 v5:=Tryz.zeroValue5
 t9:=Tryz.underlying9
 a9:=Tryz.isAgg9
 z9:=Tryz.sizeOf9
 v9:=Tryz.zeroValue9
 t22:=Tryz.underlying329
 a22:=Tryz.isAgg329
 z22:=Tryz.sizeOf329
 v22:=Tryz.zeroValue329
 t25:=Tryz.underlying332
 a25:=Tryz.isAgg332
 z25:=Tryz.sizeOf332
 v25:=Tryz.zeroValue332
 t39:=Tryz.underlying318
 a39:=Tryz.isAgg318
 z39:=Tryz.sizeOf318
 v39:=Tryz.zeroValue318
 t45:=Tryz.underlying373
 a45:=Tryz.isAgg373
 z45:=Tryz.sizeOf373
 v45:=Tryz.zeroValue373
 t46:=Tryz.underlying374
 a46:=Tryz.isAgg374
 z46:=Tryz.sizeOf374
 v46:=Tryz.zeroValue374
 t50:=Tryz.underlying272
 a50:=Tryz.isAgg272
 z50:=Tryz.sizeOf272
 v50:=Tryz.zeroValue272
 t53:=Tryz.underlying381
 a53:=Tryz.isAgg381
 z53:=Tryz.sizeOf381
 v53:=Tryz.zeroValue381
 t55:=Tryz.underlying383
 a55:=Tryz.isAgg383
 z55:=Tryz.sizeOf383
 v55:=Tryz.zeroValue383
 t66:=Tryz.underlying409
 a66:=Tryz.isAgg409
 z66:=Tryz.sizeOf409
 v66:=Tryz.zeroValue409
 t70:=Tryz.underlying413
 a70:=Tryz.isAgg413
 z70:=Tryz.sizeOf413
 v70:=Tryz.zeroValue413
 t76:=Tryz.underlying428
 a76:=Tryz.isAgg428
 z76:=Tryz.sizeOf428
 v76:=Tryz.zeroValue428
 t77:=Tryz.underlying359
 a77:=Tryz.isAgg359
 z77:=Tryz.sizeOf359
 v77:=Tryz.zeroValue359 }
def Tryz.DL:Go.Shelf.Ren:=⟨fun | 6=>317 | 15=>245 | 14=>348 | 28=>312 | 29=>313 | 20=>368 | 21=>369 | 22=>370 | 23=>371 | 24=>372 | 25=>373 | 26=>374 | 27=>375 | 46=>389 | 47=>344 | 48=>345 | 49=>390 | 50=>391 | 57=>399 | n=>n,fun | 22=>39 | 24=>188 | 25=>388 | 3=>3 | 39=>318 | 0=>0 | 53=>381 | 55=>383 | 4=>4 | 46=>374 | 45=>373 | 50=>272 | 5=>5 | 9=>9 | 66=>409 | 70=>413 | 76=>428 | 77=>359 | n=>n,fun | n=>n⟩
theorem Tryz.DN:Go.Proofs.SlLaysF0.n6 Tryz.prog Tryz.DL:={
 mixed:=by kernel_rfl
 f6:=⟨Tryz.f317.name,by decide,Tryz.func317.trans (congrArg some (by kernel_rfl))⟩
 f14:=⟨Tryz.f348.name,by decide,Tryz.func348.trans (congrArg some (by kernel_rfl))⟩
 f15:=Tryz.func245.trans (congrArg some (by kernel_rfl))
 f20:=⟨Tryz.f368.name,by decide,Tryz.func368.trans (congrArg some (by kernel_rfl))⟩
 f21:=⟨Tryz.f369.name,by decide,Tryz.func369.trans (congrArg some (by kernel_rfl))⟩
 f22:=⟨Tryz.f370.name,by decide,Tryz.func370.trans (congrArg some (by kernel_rfl))⟩
 f23:=⟨Tryz.f371.name,by decide,Tryz.func371.trans (congrArg some (by kernel_rfl))⟩
 f24:=⟨Tryz.f372.name,by decide,Tryz.func372.trans (congrArg some (by kernel_rfl))⟩
 f25:=⟨Tryz.f373.name,by decide,Tryz.func373.trans (congrArg some (by kernel_rfl))⟩
 f26:=⟨Tryz.f374.name,by decide,Tryz.func374.trans (congrArg some (by kernel_rfl))⟩
 f27:=⟨Tryz.f375.name,by decide,Tryz.func375.trans (congrArg some (by kernel_rfl))⟩
 f28:=Tryz.func312.trans (congrArg some (by kernel_rfl))
 f29:=Tryz.func313.trans (congrArg some (by kernel_rfl))
 f46:=⟨Tryz.f389.name,by decide,Tryz.func389.trans (congrArg some (by kernel_rfl))⟩
 f47:=Tryz.func344.trans (congrArg some (by kernel_rfl))
 f48:=Tryz.func345.trans (congrArg some (by kernel_rfl))
 f49:=⟨Tryz.f390.name,by decide,Tryz.func390.trans (congrArg some (by kernel_rfl))⟩
 f50:=⟨Tryz.f391.name,by decide,Tryz.func391.trans (congrArg some (by kernel_rfl))⟩
 f57:=⟨Tryz.f399.name,by decide,Tryz.func399.trans (congrArg some (by kernel_rfl))⟩
 t0:=Tryz.underlying0
 a0:=Tryz.isAgg0
 z0:=Tryz.sizeOf0
 v0:=Tryz.zeroValue0
 t3:=Tryz.underlying3
 a3:=Tryz.isAgg3
 z3:=Tryz.sizeOf3
 v3:=Tryz.zeroValue3
 t4:=Tryz.underlying4
 a4:=Tryz.isAgg4
 z4:=Tryz.sizeOf4
 v4:=Tryz.zeroValue4
 t5:=Tryz.underlying5
 a5:=Tryz.isAgg5
 z5:=Tryz.sizeOf5
 v5:=Tryz.zeroValue5
 t9:=Tryz.underlying9
 a9:=Tryz.isAgg9
 z9:=Tryz.sizeOf9
 v9:=Tryz.zeroValue9
 t22:=Tryz.underlying39
 a22:=Tryz.isAgg39
 z22:=Tryz.sizeOf39
 v22:=Tryz.zeroValue39
 t25:=Tryz.underlying388
 a25:=Tryz.isAgg388
 z25:=Tryz.sizeOf388
 v25:=Tryz.zeroValue388
 t39:=Tryz.underlying318
 a39:=Tryz.isAgg318
 z39:=Tryz.sizeOf318
 v39:=Tryz.zeroValue318
 t45:=Tryz.underlying373
 a45:=Tryz.isAgg373
 z45:=Tryz.sizeOf373
 v45:=Tryz.zeroValue373
 t46:=Tryz.underlying374
 a46:=Tryz.isAgg374
 z46:=Tryz.sizeOf374
 v46:=Tryz.zeroValue374
 t50:=Tryz.underlying272
 a50:=Tryz.isAgg272
 z50:=Tryz.sizeOf272
 v50:=Tryz.zeroValue272
 t53:=Tryz.underlying381
 a53:=Tryz.isAgg381
 z53:=Tryz.sizeOf381
 v53:=Tryz.zeroValue381
 t55:=Tryz.underlying383
 a55:=Tryz.isAgg383
 z55:=Tryz.sizeOf383
 v55:=Tryz.zeroValue383
 t66:=Tryz.underlying409
 a66:=Tryz.isAgg409
 z66:=Tryz.sizeOf409
 v66:=Tryz.zeroValue409
 t70:=Tryz.underlying413
 a70:=Tryz.isAgg413
 z70:=Tryz.sizeOf413
 v70:=Tryz.zeroValue413
 t76:=Tryz.underlying428
 a76:=Tryz.isAgg428
 z76:=Tryz.sizeOf428
 v76:=Tryz.zeroValue428
 t77:=Tryz.underlying359
 a77:=Tryz.isAgg359
 z77:=Tryz.sizeOf359
 v77:=Tryz.zeroValue359 }
end Go.Proofs
namespace Go.Proofs.A1
open Go Go.SL Go.Shelf Go.Proofs
open Go.Proofs.Tryz
open Go.Proofs.Tryz renaming prog->T_
structure Wy where
 v:Value
 p:List Nat
 f:Nat
def Wy.cells (x:Wy):List Value:=[x.v,.q (x.f:Nat)]
def nz (p:List Nat):List Int:=p.map fun i:Nat=>(i:Int)
def fY (p:List Nat):List Value:=p.map fun i=>.q (i:Nat)
def TG (l:List Wy):List (List Value):=l.map Wy.cells
def nf (l:List Wy):List Value:=(TG l).flatten
theorem y5 (p:List Nat):(fY p).map (fun u=>[u])=ints (nz p):=by simp [fY,ints,nz]
theorem sR (p:List Nat):(nz p).length=p.length:=by simp [nz]
def TI (a b:Nat×List Nat):Int:=ba [kH a.1 b.1,kH (a.2.length:Nat) (b.2.length:Nat),lP (nz a.2) (nz b.2)]
def wl (a b:Nat×List Nat):Bool:=decide (a.1<b.1)||(decide (a.1=b.1)&&(decide (a.2.length<b.2.length)||(decide (a.2.length=b.2.length)&&lexB a.2 b.2)))
theorem w7 {x y:Int}:kH x y<0↔x<y:=by
 unfold kH;split
 ·constructor <;> intro _ <;> omega
 ·split <;> constructor <;> intro _ <;> omega
theorem CR:∀ {a b:List Nat},a.length=b.length->(lP (nz a) (nz b)<0↔lexB a b=true)
 | [],[],_=>by simp [nz,lP,lexB]
 | [],_::_,h=>by simp at h
 | _::_,[],h=>by simp at h
 | x :: a, y :: b, h => by
  have ih:=CR (a:=a) (b:=b) (by simpa using h);show (if kH x y≠0 then kH x y else lP (nz a) (nz b))<0↔_
  unfold lexB;by_cases e:(x:Int)=y
  ·rw [if_neg (not_not_intro (iM.2 e)),ih];have e':x=y:=by exact_mod_cast e
   simp [e']
  ·rw [if_pos (fun q=>e (iM.1 q)),w7]
   have e':¬ x=y:=fun q=>e (by rw [q])
   simp [e']
theorem EY (a b:Nat×List Nat):TI a b<0↔wl a b=true:=by
 unfold TI wl ba;by_cases h1:(a.1:Int)=b.1
 ·rw [if_neg (not_not_intro (iM.2 h1))];have Dn:a.1=b.1:=by exact_mod_cast h1
  unfold ba;by_cases h2:((a.2.length:Nat):Int)=(b.2.length:Nat)
  ·rw [if_neg (not_not_intro (iM.2 h2))];have Hb:a.2.length=b.2.length:=by exact_mod_cast h2
   have h3:=CR Hb;unfold ba;by_cases h4:lP (nz a.2) (nz b.2)=0
   ·rw [if_neg (not_not_intro h4)];rw [h4] at h3;simp [ba,Dn,Hb];have:=h3.symm;simpa using this
   ·rw [if_pos h4,h3];simp [Dn,Hb]
  ·rw [if_pos (fun q=>h2 (iM.1 q)),w7]
   have Hb:¬ a.2.length=b.2.length:=fun q=>h2 (by rw [q])
   simp [Dn,Hb]
 ·rw [if_pos (fun q=>h1 (iM.1 q)),w7]
  have Dn:¬ a.1=b.1:=fun q=>h1 (by rw [q])
  simp [Dn]
theorem yp (a:Nat×List Nat):wl a a=false:=by unfold wl;rw [oN];simp
theorem BA {a b c:Nat×List Nat} (h1:wl a b=true) (h2:wl b c=true):wl a c=true:=by
 unfold wl at *;simp only [ZP,Zm,decide_eq_true_eq] at *;rcases h1 with h1 | ⟨e1,h1 | ⟨e2,h1⟩⟩ <;> rcases h2 with h2 | ⟨g1,h2 | ⟨g2,h2⟩⟩
 ·exact .inl (by omega)
 ·exact .inl (by omega)
 ·exact .inl (by omega)
 ·exact .inl (by omega)
 ·exact .inr ⟨by omega,.inl (by omega)⟩
 ·exact .inr ⟨by omega,.inl (by omega)⟩
 ·exact .inl (by omega)
 ·exact .inr ⟨by omega,.inl (by omega)⟩
 ·exact .inr ⟨by omega,.inr ⟨by omega,qF h1 h2⟩⟩
theorem HG {a b:Nat×List Nat} (h:a≠b):wl a b=true\/wl b a=true:=by
 unfold wl;simp only [ZP,Zm,decide_eq_true_eq];rcases Zao a.1 b.1 with h1 | h1 | h1
 ·exact .inl (.inl h1)
 ·rcases Zao a.2.length b.2.length with h2 | h2 | h2
  ·exact .inl (.inr ⟨h1,.inl h2⟩)
  ·have hne:a.2≠b.2:=fun e=>h (Prod.ext h1 e)
   rcases qG h2 hne with h3 | h3
   ·exact .inl (.inr ⟨h1,.inr ⟨h2,h3⟩⟩)
   ·exact .inr (.inr ⟨h1.symm,.inr ⟨h2.symm,h3⟩⟩)
  ·exact .inr (.inr ⟨h1.symm,.inl h2⟩)
 ·exact .inr (.inl h1)
theorem Qs {α:Type} (g:α->Nat×List Nat):Go.Sort.SWO (ltOf fun x y:α=>TI (g x) (g y)):=by
 have e:∀ x y:α,ltOf (fun x y:α=>TI (g x) (g y)) x y=wl (g x) (g y):=fun x y=>by
  unfold ltOf;rw [ZaS,decide_eq_true_eq];exact EY _ _
 constructor
 ·intro x;rw [e];exact yp _
 ·intro x y z h1 h2;rw [e] at *;exact BA h1 h2
 ·intro x y z h1 h2;rw [e] at *;by_cases h:wl (g x) (g z)=true
  ·by_cases e1:g x=g y
   ·rw [e1,h2] at h;cases h
   ·rcases HG e1 with h3 | h3
    ·rw [h1] at h3;cases h3
    ·rw [BA h3 h] at h2;cases h2
  ·simpa using h
variable {fp:List Nat} {w:World}
theorem T5 {v:Value} {cs:List Value} {es:List Int} (h:Rd w v 1 (cs.map fun v=>[v])) (hl:cg cs es):ao T_ 319 [v] w (.q (ba es)):=
 T6 (by rw [<- hl.eq];exact h)
theorem Qu {v1 v2:Value} {p q:List Nat} {f1 f2:Nat} (h1:Rd w v1 1 (ints (nz p))) (h2:Rd w v2 1 (ints (nz q))) :
  ao T_ 261 [.agg #[v1,.q (f1:Nat)],.agg #[v2,.q (f2:Nat)]] w (.q (TI (f1,p) (f2,q))):=by
 have YY:∀ w',aH [] w w'->ao T_ 236 [v1,v2] w' (.q (lP (nz p) (nz q))):=fun w' hk=>zq (h1.keeps hk) (h2.keeps hk)
 obtain ⟨a,cp,b,o,rfl,dD,cr,ha,hc⟩:=h1;rw [cU,sR] at *;obtain ⟨a',TC,b',o',rfl,oX,PH,c8,Oo⟩:=h2;rw [cU,sR] at *;have iE:=YY;refine ak func261 I I ?_;refine Jr<|Jy I I fun _ _=>Jy I I fun _ _=>Ja I<|Jn<|Jq ?_
 with_reducible refine cS 18 (by kernel_rfl) ?_
 (refine ar k9 I<|ar (ic (.there .here)) I<|ar k9 I<|ar (ic .here) I<|aZ bo I (fun w' az=>(CQ _ _ w'))<|ar k9 I<|ar (ic (.there .here)) I<|ar (bz (.of I)) I<|ar k9 I<|ar (ic .here) I<|ar (bz (.of I)) I<|aZ bo I (fun w' az=>(CQ _ _ w'))<|ar k9 I<|ar (ic (.there .here)) I<|ar k9 I<|ar (ic .here) I<|aZ bo I (fun w' az=>(iE w' (Mem.keeps az)))<|eA (aB (.o I (.o I (.o I .nil))) I I I I) I I ?_)
 with_reducible refine dz I fun bq lN=>?_
 (refine aj bS I (fun w' az=>(T5 (Mem.dB az .here I I) (cg.cons (cg.cons (cg.cons cg.nil)))))<|Ja I<|Jn<|Je<|JT ?_)
 rfl
theorem Qp (l:List Wy):∀ r∈TG l,r.length=2:=fun r hr=>by obtain ⟨x,_,rfl⟩:=Zw.1 hr;rfl
theorem pz (l:List Wy):(nf l).length=l.length*2:=by unfold nf;rw [gj (Qp l)];unfold TG;rw [Zd]
theorem MG (a b:List Wy):nf (a++b)=nf a++nf b:=by unfold nf TG;rw [Zz,Zab]
def iN (kI:List Wy):bh:=nu 3 (kI.map Wy.v) (kI.map fun x=>fY x.p)
theorem Ga {kI:List Wy} (hn:fp.Nodup) (hs:cA (hp w) [iN kI] fp) {x:Wy} (hx:x∈kI):Rd w x.v 1 (ints (nz x.p)):=by
 obtain ⟨j,hj,rfl⟩:=Zu hx;have hm:Mem ⟨w,fp,0⟩ [iN kI] w:=⟨.refl _ _,fp,hn,hs,fun b hb=>.inr hb⟩
 have:=hm.DW (j:=j) (v:=(kI[j]).v) (x:=fY (kI[j]).p) .here (by simp [hj]) (by simp [hj]);rwa [y5] at this
theorem EK {c:Cx} {hs hs':List bh} (hm:Mem c hs w) {kI:List Wy} (ht:Take hs (iN kI) hs') {x:Wy} (hx:x∈kI):Rd w x.v 1 (ints (nz x.p)):=by
 obtain ⟨j,hj,rfl⟩:=Zu hx;have:=hm.DW (j:=j) (v:=(kI[j]).v) (x:=fY (kI[j]).p) ht (by simp [hj]) (by simp [hj]);rwa [y5] at this
theorem Ig {v:Value} {n:Nat} {l kI:List Wy} (jX:fp.Nodup) (hs:cA (hp w) [kS 244 2 v n (nf l),iN kI] fp) (hn:n=l.length) (iV:∀ x∈l,x∈kI) (cJ:n<=1000000) (W6:∀ x∈kI,x.v.oneCell'=true) :
  bB T_ 260 [v,.func (.func 261) #[] #[]] w fp (fun l':List Wy=>l'.Perm l/\l'.Pairwise (fun x y=>wl (y.f,y.p) (x.f,x.p)=false)) (fun _=>.tuple #[]) (fun l'=>[kS 244 2 v n (nf l'),iN kI]):=by
 obtain ⟨f1,f2,rfl,h1,h2⟩:=hs;obtain ⟨hlen,h1⟩:=h1;have Sa:=(Zx.1 jX).2.1;have kY:=(Zx.1 jX).2.2;rcases h1 with ⟨rfl,rfl,h0⟩ | ⟨g,off,cap,cur,rfl,rfl,hg,kM,jT,hfit,htk⟩
 ·have oo:l=[]:=Z4 (by omega);subst oo;refine (AnyF.slices_SortFunc_none Tryz.DK none 0 (.func (.func 261) #[] #[]) w).mono fun e w' ⟨he,hw⟩=>?_;subst hw;exact ⟨[],he,⟨.refl _,.nil⟩,.refl _ _,[]++f2,by simpa using Sa,⟨[],f2,I,⟨hlen,.inl ⟨I,I,h0⟩⟩,h2⟩,fun b hb=>.inl hb⟩
 ·subst hn;have Ss:g<w.heap.size:=(Z0.1 hg).1;by_cases oo:l=[]
  ·subst oo;refine (AnyF.slices_SortFunc_none Tryz.DK (some ⟨g,off,none⟩) cap (.func (.func 261) #[] #[]) w).mono fun e w' ⟨he,hw⟩=>?_;subst hw;exact ⟨[],he,⟨.refl _,.nil⟩,.refl _ _,[g]++f2,jX,⟨[g],f2,I,⟨hlen,.inr ⟨g,off,cap,cur,I,I,hg,kM,jT,hfit,htk⟩⟩,h2⟩,fun b hb=>.inl hb⟩
  obtain ⟨x0,RI⟩:=List.exists_mem_of_ne_nil l oo
  let α:={x:Wy // x∈kI}
  let _:Inhabited α:=⟨⟨x0,iV x0 RI⟩⟩
  let enc:α->List Value:=fun x=>x.1.cells
  have hle:l.length*2<=cap*2:=Z9 _ kM;have hcs:cur.size=cur.toList.length:=by simp
  have nH:cur=(cur.toList.take off++nf l++cur.toList.drop (off+l.length*2)).toArray:=by
   apply Array.ext';show cur.toList=_;rw [<- htk]
   conv=>lhs;rw [<- ZX off cur.toList]
   rw [Zh];congr 1
   conv=>lhs;rw [<- ZX (l.length*2) (cur.toList.drop off)]
   rw [Zbf]
  have Bq:(cur.toList.take off).length=off:=by rw [Zs];omega
  generalize jI:cur.toList.take off=pre at nH Bq;generalize UG:cur.toList.drop (off+l.length*2)=post at nH
  let la:List α:=l.attach.map fun x=>⟨x.1,iV x.1 x.2⟩
  have Se:la.map (fun x:α=>x.1)=l:=by
   show (l.attach.map fun x=>(⟨x.1,iV x.1 x.2⟩:α)).map (fun x:α=>x.1)=l
   rw [ZaI];exact List.attach_map_subtype_val l
  have CB:∀ m:List α,(m.map enc).flatten=nf (m.map fun x:α=>x.1):=fun m=>by
   unfold nf TG;rw [ZaI];rfl
  have Em:la.length=l.length:=by
   show (l.attach.map fun x=>(⟨x.1,iV x.1 x.2⟩:α)).length=_
   rw [Zd,List.length_attach]
  have tX:w.heap[g]? = some (.cells (pre++(la.map enc).flatten++post).toArray 244 (0,0)):=by rw [CB,Se,<- nH];exact hg
  have key:=BQ Tryz.DK (k:=2) isAgg244 sizeOf244 (enc:=enc) (fun _=>rfl)
   (fun x u hu=>by
    have hx:=W6 x.1 x.2;simp only [enc,Wy.cells,ZO,Zo,or_false] at hu;rcases hu with rfl | rfl
    ·exact hx
    ·rfl)
   (Qs (fun x:α=>(x.1.f,x.1.p))) (g:=261) (b:=g) (cap:=cap) (cb:=#[]) (l:=la) (pre:=pre) (cur:=post) (E:=244) (w:=w)
   (enters_of func261 (by kernel_rfl) I) tX (by rw [Em];omega)
   (fun w' hk x y=>by
    have hp:cA (hp w') [iN kI] f2:=cA.loc h2 fun b hb=>by
     have PN:b<w.heap.size:=by
      obtain ⟨o,ho⟩:=cA.own h2 b hb;exact ko ho
     exact hk.block b PN (fun e=>kY g (by simp) b hb (ZB.1 e).symm)
    exact Qu (Ga Sa hp x.2) (Ga Sa hp y.2))
  rw [Em,Bq] at key;refine Calls.mono key ?_;rintro e w' ⟨he,l',iB,X5,hk,dK⟩;have zg:(l'.map fun x:α=>x.1).length=l.length:=by rw [Zd,iB.length_eq,Em]
  rw [CB] at dK;refine ⟨l'.map fun x:α=>x.1,he,⟨?_,?_⟩,hk.mono (by simp),[g]++f2,jX,⟨[g],f2,I,?_,cA.loc h2 fun b hb=>?_⟩,fun b hb=>.inl hb⟩
  ·have:=iB.map (fun x:α=>x.1)
   rwa [Se] at this
  ·rw [Zbq];refine X5.imp fun {x y} h=>?_;unfold ltOf at h;rw [decide_eq_false_iff_not,EY] at h;simpa using h
  ·have hr:=yL (n:=l.length) (sz:=2) (cap:=cap) (fp:=[g]) (h:=hp w') ⟨I,dK⟩ Bq kM jT (by
    have:=congrArg (fun x:Array Value=>x.toList.length) nH
    simp only [ZaR,Zg,pz] at this;rw [Zg,Zg,pz,zg,<- this];exact hfit) (by rw [pz,zg])
   exact hr
  ·have PN:b<w.heap.size:=by
    obtain ⟨o,ho⟩:=cA.own h2 b hb;exact ko ho
   exact hk.block b PN (fun e=>kY g (by simp) b hb (ZB.1 e).symm)
end Go.Proofs.A1
namespace Go.Proofs.A1
open Go Go.SL
open Tryz
open Tryz renaming prog->T_
theorem Le {α:Type} {q:α->Bool} {l:List α} {k:Nat} (h:k<l.length) (hq:q l[k]=true):(l.filter q)[((l.take k).filter q).length]? = some l[k]:=by
 have e:l=l.take k++l[k]::l.drop (k+1):=by rw [<- Zv h,ZX]
 have:l.filter q=(l.take k).filter q++l[k]::(l.drop (k+1)).filter q:=by
  conv=>lhs;rw [e]
  rw [Zbh,Zbt hq]
 rw [this,ZI (ZC _),Nat.sub_self];rfl
def CI (r:Ro) (v m:Int) (i:Nat):Bool:=decide ((fM r i).fr=m)&&!ib r.po v (eY r i)
def fH (r:Ro) (v m:Int) (k:Nat):List Nat:=(List.range k).filter (CI r v m)
def Mi (r:Ro) (v m:Int):List (List Value):=(fH r v m r.ti.length).map fun i=>[.q (i:Nat),.agg (fM r i).cells.toArray]
theorem uT (r:Ro) (v m:Int):(Mi r v m).length=(fH r v m r.ti.length).length:=by simp [Mi]
theorem sZ (r:Ro) (v m:Int) (k:Nat):fH r v m (k+1)=fH r v m k++if CI r v m k then [k] else []:=by
 unfold fH;rw [Zbc,Zbh];congr 1;by_cases h:CI r v m k=true
 ·rw [Zbt h,if_pos h];rfl
 ·rw [List.filter_cons_of_neg h,if_neg h];rfl
theorem NO {r:Ro} {v m:Int} {k:Nat} (h:k<r.ti.length) (hq:CI r v m k=true):(Mi r v m)[(fH r v m k).length]? = some [.q (k:Nat),.agg (fM r k).cells.toArray]:=by
 have h1:=Le (l:=List.range r.ti.length) (q:=CI r v m) (k:=k) (by rw [Zar];exact h) (by rw [Zby];exact hq);rw [List.take_range,Zbk (by omega),Zby] at h1;unfold Mi fH;rw [ZJ,h1];rfl
theorem Ec {r:Ro} {v m:Int} {k:Nat} {vs:List Value} (h:(Mi r v m)[k]? = some vs):∃ i,(fH r v m r.ti.length)[k]? = some i/\vs=[.q (i:Nat),.agg (fM r i).cells.toArray]/\i<r.ti.length/\CI r v m i=true:=by
 unfold Mi at h;rw [ZJ,Zak] at h;obtain ⟨i,hi,rfl⟩:=h;have hm:=ZV hi;unfold fH at hm;rw [ZA,ZU] at hm;exact ⟨i,hi,I,hm.1,hm.2⟩
variable {N:Wn} {dm:Int} {dst:Option Tmp} {g:Option (Nat×Bool)} {i:Nat} {k:IntKind} {q:Bool} {so:ByteArray} {x y:Operand}
theorem iG {r:Ro} (h:i<r.ti.length):fM r i=r.ti[i]:=by
 unfold fM;rw [Zk,Zc h];rfl
theorem fV {P:Program} {c:Cx} {sl:aD} {hs:List bh} {ty:TypeId} {pos:String} {af:Array Edge} {t u:TypeId} {a b:Int} (hx:Is sl x (.int k a)) (hy:Is sl y (.int k b)) (e:a=b) :
  cM P c sl hs ⟨dst,.binOp .eql t x y u,ty,pos,af,g⟩ (.bool true):=by
 have:=fR (P:=P) (c:=c) (hs:=hs) (dst:=dst) (ty:=ty) (pos:=pos) (af:=af) (g:=g) (t:=t) (u:=u) hx hy;rwa [decide_eq_true e] at this
theorem hP {P:Program} {c:Cx} {sl:aD} {hs:List bh} {ty:TypeId} {pos:String} {af:Array Edge} {t u:TypeId} {a b:Int} (hx:Is sl x (.int k a)) (hy:Is sl y (.int k b)) (e:a≠b) :
  cM P c sl hs ⟨dst,.binOp .eql t x y u,ty,pos,af,g⟩ (.bool false):=by
 have:=fR (P:=P) (c:=c) (hs:=hs) (dst:=dst) (ty:=ty) (pos:=pos) (af:=af) (g:=g) (t:=t) (u:=u) hx hy;rwa [decide_eq_false e] at this
theorem bM {P:Program} {c:Cx} {sl:aD} {hs:List bh} {ty:TypeId} {pos:String} {af:Array Edge} {x y z:Operand} {v u:Value} (hx:Is sl x (.bool q)) (hy:Is sl y v) (hz:Is sl z u) (e:(bif q then v else u)=Value.bool false):cM P c sl hs ⟨dst,.pick x y z,ty,pos,af,g⟩ (.bool false):=e ▸ uK hx hy hz
theorem cP {P:Program} {c:Cx} {sl:aD} {hs:List bh} {ty:TypeId} {pos:String} {af:Array Edge} {x y z:Operand} {v u:Value} (hx:Is sl x (.bool q)) (hy:Is sl y v) (hz:Is sl z u) (e:(bif q then v else u)=Value.bool true):cM P c sl hs ⟨dst,.pick x y z,ty,pos,af,g⟩ (.bool true):=e ▸ uK hx hy hz
theorem sU {r:Ro} {s d t p:Value} (v m:Int) {w w1:World} (h:RR w1 r s d t p) :
  bB T_ 153 [RA r s d t p,.q v,.q m] w [] (fun _:Nat×Nat×Nat=>True) (fun x=>.func (.func 240) #[] #[.pointer (some ⟨x.1,0,none⟩),.pointer (some ⟨x.2.1,0,none⟩),.pointer (some ⟨x.2.2,0,none⟩)])
   (fun x=>[JP x.1 r s d t p,bA x.2.1 (.cells #[.q m] 3 (0,0)),bA x.2.2 (.cells #[.q v] 3 (0,0))]):=by
 obtain ⟨h1,h2,h3,h4⟩:=h.one;unfold RA;refine aV func153 I I ?_
 (refine Jr<|Jy I I fun _ _=>Jy I I fun _ _=>Jy I I fun _ _=>Ja I<|Ji<|ab (bI .nil (.o I (.o I (.o I .nil)))) I<|Ja I<|Jn<|Je ?_)
 rename_i b3 uY b4 xB b5 Mu
 with_reducible first|apply aP|apply aQ
 case he=>exact dS I I
 case hR=>
  intro w' az;exact aF (b3,b5,b4) trivial (by exact .cons bO (.h2 .nil)) az I
set_option maxHeartbeats 1000000 in
theorem J7 {r:Ro} {s d t p:Value} {b1 b2 b3:Nat} (v m:Int) {w0 w:World} {md:List Nat} (h:RR w0 r s d t p) (hn:RO md r s d t p) (cJ:r.ti.length<=1000000) :
  Iter T_ 240 [] [.p b1,.p b2,.p b3] [JP b1 r s d t p,bA b2 (.cells #[.q m] 3 (0,0)),bA b3 (.cells #[.q v] 3 (0,0))] (Mi r v m) w0 md w:=by
 intro l fp J E hB hF jX hs hy;have hR:=h.jE hn hB;have hO:=h.out hn hF;rw [uT];have h1:=Rd.one hR.sr;have h2:=Rd.one hR.de;have h4:=Rd.one hR.po;have hti:=hR.ti;have oti:=hO.ti;obtain ⟨a,cp,b,o',rfl,dD,cr,ha,hc⟩:=hti;rw [bU] at *;unfold maxLen at cr;refine er func240 I I jX hs ?_
 (refine Jr<|bN I I ae<|JL I (.there .here) I<|JI I<|Jv I<|Jn<|J0 ?_)
 refine bd (fun k:Nat=>k<=r.ti.length) (fun k=>[(10,.q (k:Nat)),(9,.q (r.ti.length:Nat)),(8,.slice a r.ti.length cp),(0,.func (.yield l) #[] #[]),(1,.p b1),(2,.p b2),(3,.p b3)])
  (fun k=>[J (fH r v m k).length,JP b1 r s d (.slice a r.ti.length cp) p,bA b2 (.cells #[.q m] 3 (0,0)),bA b3 (.cells #[.q v] 3 (0,0))]) (fun k=>r.ti.length-k) ?_ ?_
 ·apply aJ 0 (by omega)
  case hs1=>exact cB
  case ht=>
   exact .h4 .nil
 intro k hk;by_cases aN:k<r.ti.length
 ·have c8:=ha (eV aN);have aG:=(hc k _ (ed aN)).2;have Yk:b ∉ fp:=oti (eV aN) b (by rw [c8];rfl);unfold Ti.cells at aG;have wI:∀ w',aH fp w w'->ao T_ 121 [.agg #[.q r.lv,.q r.ma,s,d,.slice a r.ti.length cp,p],.q v,.string (r.ti[k]).nm] w' (.bool (ib r.po v (r.ti[k]).nm)):=fun w' hk=>ph v _ (hR.jE hO hk)
  have oT:=iG aN;have uV:eY r k=(r.ti[k]).nm:=by unfold eY;rw [oT]
  by_cases sA:(r.ti[k]).fr=m
  ·cases sB:ib r.po v (r.ti[k]).nm with
   | true =>
    have tW:∀ w',aH fp w w'->ao T_ 121 [.agg #[.q r.lv,.q r.ma,s,d,.slice a r.ti.length cp,p],.q v,.string (r.ti[k]).nm] w' (.bool true):=fun w' hk=>sB ▸ wI w' hk
    have hq:CI r v m k=false:=by unfold CI;rw [uV,sB];simp
    have Kv:fH r v m (k+1)=fH r v m k:=by rw [sZ,if_neg (by rw [hq];decide),ZQ]
    (refine Jr<|JA I<|Jn<|Jq<|Jd I fun aA=>Jk<|Jq<|J0<|Jr<|Jv I<|ab (gr c8 aA) I<|ab (iw (.of I) (eO.C1 aG Yk) I) I<|Jz I I fun _ _=>Ja I<|aq (.of I) (.of I) .here I I (fc I I I) (bF I) an<|Ji<|bN I I ae<|JL I .here I<|JL I c6 I<|ab (fV (.of I) (.of I) sA) I<|Jv I<|JK I I<|ab (cN bO) I<|JK I I<|JL I dF I<|JK I I<|bN I I ae<|JK I I<|JL I .here I<|JK I I<|aj ek I (fun w' az=>(tW w' (Mem.keeps az)))<|JK I I<|JH I<|ab (bM (.of I) (.of I) (.of I) I) I<|Jv I<|gy I I I I<|gy I I I I<|au I I (fun hg bG=>(bL (.of I) .here an (by rfl))) I<|cK I I I I<|au I I (fun hg bG=>(fC (.bX bG I))) I<|ab (bM (.of I) (.of I) (.of I) I) I<|Jn<|bJ (.of I)<|Jw<|Jj<|Jt<|Jg<|JB I (by omega)<|Jv I<|Jn ?_)
    apply aI (k+1) (by omega) (by omega)
    case hs1=>exact cB
    case ht=>
     rw [Kv];exact .cons (.there .here) (.cons (.there .here) (.cons (.there .here) (.cons (.there .here) .nil)))
   | false =>
    have tW:∀ w',aH fp w w'->ao T_ 121 [.agg #[.q r.lv,.q r.ma,s,d,.slice a r.ti.length cp,p],.q v,.string (r.ti[k]).nm] w' (.bool false):=fun w' hk=>sB ▸ wI w' hk
    have hq:CI r v m k=true:=by unfold CI;rw [uV,sB,oT,decide_eq_true sA];rfl
    have Kv:fH r v m (k+1)=fH r v m k++[k]:=by rw [sZ,if_pos hq]
    have UZ:(fH r v m (k+1)).length=(fH r v m k).length+1:=by rw [Kv];simp
    have Uh:=hy _ _ (NO aN hq);rw [oT] at Uh
    (refine Jr<|JA I<|Jn<|Jq<|Jd I fun aA=>Jk<|Jq<|J0<|Jr<|Jv I<|ab (gr c8 aA) I<|ab (iw (.of I) (eO.C1 aG Yk) I) I<|Jz I I fun _ _=>Ja I<|aq (.of I) (.of I) .here I I (fc I I I) (bF I) an<|Ji<|bN I I ae<|JL I .here I<|JL I c6 I<|ab (fV (.of I) (.of I) sA) I<|Jv I<|JK I I<|ab (cN bO) I<|JK I I<|JL I dF I<|JK I I<|bN I I ae<|JK I I<|JL I .here I<|JK I I<|aj ek I (fun w' az=>(tW w' (Mem.keeps az)))<|JK I I<|JH I<|ab (cP (.of I) (.of I) (.of I) I) I<|Jv I<|JK I I<|Jv I<|JK I I<|Jv I<|JK I I<|ab (cN .here) I<|JK I I ?_)
    unfold Ti.cells at Uh
    with_reducible apply yw hB hF Uh
    case hx=>exact Is.of I
    case ha=>exact .o I (.o I .nil)
    case hd=>rfl
    case ht=>exact Take.there .here
    intro q;cases q with
    | false =>
     simp only [cond_false]
     (refine JK I I<|JH I<|ab (cP (.of I) (.of I) (.of I) I) I<|Jn<|ch (.of I)<|Je<|Jm<|Jh<|Jh<|Jm ?_)
     with_reducible first|apply aP|apply aQ
     case he=>exact qt I
     case hR=>
      intro w' az;exact aF false trivial (by exact .h1 (.cons (.there .here) (.cons (.there .here) (.cons (.there .here) .nil)))) az I
    | true =>
     simp only [cond_true]
     (refine JK I I<|JH I<|ab (bM (.of I) (.of I) (.of I) I) I<|Jn<|bJ (.of I)<|Jw<|Jj<|Jt<|Jg<|JB I (by omega)<|Jv I<|Jn ?_)
     apply aI (k+1) (by omega) (by omega)
     case hs1=>exact cB
     case ht=>
      rw [UZ];exact .h1 (.cons (.there .here) (.cons (.there .here) (.cons (.there .here) .nil)))
  ·have hq:CI r v m k=false:=by unfold CI;rw [oT,decide_eq_false sA];rfl
   have Kv:fH r v m (k+1)=fH r v m k:=by rw [sZ,if_neg (by rw [hq];decide),ZQ]
   (refine Jr<|JA I<|Jn<|Jq<|Jd I fun aA=>Jk<|Jq<|J0<|Jr<|Jv I<|ab (gr c8 aA) I<|ab (iw (.of I) (eO.C1 aG Yk) I) I<|Jz I I fun _ _=>Ja I<|aq (.of I) (.of I) .here I I (fc I I I) (bF I) an<|Ji<|bN I I ae<|JL I .here I<|JL I c6 I<|ab (hP (.of I) (.of I) sA) I<|Jv I<|au I I (fun hg bG=>(bL (.of I) bO an (by rfl))) I<|au I I (fun hg bG=>(ag (.of I) (At.lit dF I))) I<|au I I (fun hg bG=>(ai (.of I) ae)) I<|au I I (fun hg bG=>(ag (.bX bG I) (At.lit .here I))) I<|cK I I I I<|au I I (fun hg bG=>(fC (.bX bG I))) I<|ab (bM (.of I) (.of I) (.of I) I) I<|Jv I<|gy I I I I<|gy I I I I<|au I I (fun hg bG=>(bL (.of I) .here an (by rfl))) I<|cK I I I I<|au I I (fun hg bG=>(fC (.bX bG I))) I<|ab (bM (.of I) (.of I) (.of I) I) I<|Jn<|bJ (.of I)<|Jw<|Jj<|Jt<|Jg<|JB I (by omega)<|Jv I<|Jn ?_)
   apply aI (k+1) (by omega) (by omega)
   case hs1=>exact cB
   case ht=>
    rw [Kv];exact .cons (.there .here) (.cons (.there .here) (.cons (.there .here) (.cons (.there .here) .nil)))
 ·obtain rfl:k=r.ti.length:=by omega
  refine Jr<|JA I<|Jn<|Jq<|Jc I fun aA=>Jp<|Jl<|Jo ?_
  with_reducible first|apply aP|apply aQ
  case he=>exact qt I
  case hR=>
   intro w' az;exact aF true trivial (by exact .h4 .nil) az I
theorem Cu (l:List Int):∀ r∈ints l,∀ u∈r,u.oneCell'=true:=fun r hr=>by obtain ⟨x,_,rfl⟩:=Zw.1 hr;exact aU rfl eS
theorem sV (l:List Int):l.map (Value.int .i64)=(ints l).flatten:=by
 induction l with
 | nil=>rfl
 | cons x l ih=>show [Value.int .i64 x]++l.map (Value.int .i64)=_;rw [ih];rfl
theorem OW {lv:Value} {l:List Int} {w:World} (h:Rd w lv 1 (ints l)) (hl:l.length<=1000) :
  bB T_ 262 [lv] w [] (fun _:Value=>True) id (fun v=>[row 3 1 v l.length (l.map (.int .i64))]):=by
 have h':=h;obtain ⟨a,cp,b,o,rfl,dD,cr,ha,hc⟩:=h;refine aV func262 I I ?_;cases a with
 | none =>
  have oo:l=[]:=by
   cases l with
   | nil=>rfl
   | cons x r=>exact absurd (ha (by simp [ints])) (by simp)
  subst oo
  (refine Jr<|Ja I<|Jn<|Jq<|Jr<|Jv I<|ab (gN (.of I) (.of I)) I<|Jn<|ch (.of I)<|Jr<|Ja I<|Jn<|Ju ?_)
  refine aR 3 1 ?_
  with_reducible first|apply aP|apply aQ
  case he=>exact dS I I
  case hR=>
   intro w' az;exact aF (.z) trivial (by exact .h1 .nil) az I
 | some ad =>
  (refine Jr<|Ja I<|Jn<|Jq<|Jr<|Jv I<|ab (gN (.of I) (.of I)) I<|Jn<|bJ (.of I)<|Jk<|Jr<|bn (aB .nil I I I I) I fun _ _=>Jv I ?_)
  rename_i bq lN;refine bR (g:=bq) (E:=3) (ys:=[]) 0 1 (by exact .here) I I I ?_
  with_reducible apply eK
  case hx=>exact Is.of I
  case hy=>exact Is.of I
  case ht=>exact .here
  case hsrc=>exact fun w' az=>h'.keeps az.keeps
  case h1=>exact Cu l
  case hz=>exact I
  case hsz=>exact I
  case hb0=>exact I
  case hb=>rw [cU];omega
  case hd=>rfl
  intro v';rw [cU,<- sV,ZE,Za];refine Ja I<|Jn<|Je ?_
  with_reducible first|apply aP|apply aQ
  case he=>exact dS I I
  case hR=>
   intro w' az;exact aF v' trivial (by exact .h1 .nil) az I
theorem rh {P:Program} {c:Cx} {sl:aD} {hs:List bh} {ty:TypeId} {pos:String} {af:Array Edge} {t u:TypeId} {a b:ByteArray} (hx:Is sl x (.string a)) (hy:Is sl y (.string b)) (e:a=b) :
  cM P c sl hs ⟨dst,.binOp .eql t x y u,ty,pos,af,g⟩ (.bool true):=by
 have:=eR (P:=P) (c:=c) (hs:=hs) (dst:=dst) (ty:=ty) (pos:=pos) (af:=af) (g:=g) (t:=t) (u:=u) hx hy;rwa [decide_eq_true e] at this
theorem vA {P:Program} {c:Cx} {sl:aD} {hs:List bh} {ty:TypeId} {pos:String} {af:Array Edge} {t u:TypeId} {a b:ByteArray} (hx:Is sl x (.string a)) (hy:Is sl y (.string b)) (e:a≠b) :
  cM P c sl hs ⟨dst,.binOp .eql t x y u,ty,pos,af,g⟩ (.bool false):=by
 have:=eR (P:=P) (c:=c) (hs:=hs) (dst:=dst) (ty:=ty) (pos:=pos) (af:=af) (g:=g) (t:=t) (u:=u) hx hy;rwa [decide_eq_false e] at this
def xE (r:Ro) (v:Int) (so:ByteArray) (i:Nat):Bool:=ib r.po v (eY r i)&&decide (kN r v (eY r i)=so)
def By (r:Ro) (v:Int) (so:ByteArray) (k:Nat):List Nat:=(List.range k).filter (xE r v so)
theorem xb (r:Ro) (v:Int) (so:ByteArray) (k:Nat):By r v so (k+1)=By r v so k++if xE r v so k then [k] else []:=by
 unfold By;rw [Zbc,Zbh];congr 1;by_cases h:xE r v so k=true
 ·rw [Zbt h,if_pos h];rfl
 ·rw [List.filter_cons_of_neg h,if_neg h];rfl
def mJ (r:Ro) (so:ByteArray):Int:=(r.sr.getD (br (cz r) so).toNat ⟨⟨#[]⟩,0⟩).mx
def wk (x:Wy):Nat×List Nat:=(x.f,x.p)
def Qk (L:List (Nat×List Nat)) (W:List Wy):Prop:=W.map wk=L/\∀ y∈W,y.v.oneCell'=true
theorem Qk.add {L:List (Nat×List Nat)} {W:List Wy} (h:Qk L W) (y:Wy) (hy:y.v.oneCell'=true):Qk (L++[wk y]) (W++[y]):=by
 refine ⟨by rw [Zz,h.1];rfl,fun z hz=>?_⟩;rcases Zq.1 hz with hz | hz
 ·exact h.2 z hz
 ·rw [ZB.1 hz];exact hy
theorem LL (W:List Wy) (y:Wy):iN (W++[y])=nu 3 (W.map Wy.v++[y.v]) ((W.map fun x=>fY x.p)++[fY y.p]):=by unfold iN;rw [Zz,Zz];rfl
theorem zG (W:List Wy) (y:Wy):nf (W++[y])=nf W++[y.v,.q (y.f:Nat)]:=by rw [MG];rfl
theorem pB {c:Cx} {D:List Nat} {sl:aD} {hs h1 h2:List bh} {X:Act->World->Prop} {W:List Wy} (y:Wy) {n:Nat} {x:List Value} (ht:Take hs (iN W) h1) (ht2:Take h1 (row 3 1 y.v n x) h2) (hn:n=y.p.length) (hx:x=fY y.p)
  (k:Tr c D sl (iN (W++[y])::h2) X):Tr c D sl hs X:=by
 subst hx;refine nj (vs:=W.map Wy.v) (xs:=W.map fun x=>fY x.p) (v:=y.v) (show Take hs (nu 3 (W.map Wy.v) (W.map fun x=>fY x.p)) h1 from ht) ht2 (by rw [hn];unfold fY;rw [Zd]) (by rw [Zd,Zd]) ?_;rw [<- LL];exact k
theorem yB {c:Cx} {D:List Nat} {sl:aD} {hs:List bh} {X:Act->World->Prop} (k:Tr c D sl (iN []::hs) X):Tr c D sl hs X:=lj 3 k
set_option maxHeartbeats 1000000 in
theorem LI {r:Ro} {s d t p:Value} (v:Int) (so:ByteArray) {w:World} (h:RR w r s d t p) (cJ:r.ti.length<=1000) (RX:so∈cz r) :
  bB T_ 259 [RA r s d t p,.q v,.string so] w [] (fun x:Value×List Wy=>Qk ((By r v so r.ti.length).map (fun i=>(0,[i]))++(fH r v (mJ r so) r.ti.length).map (fun i=>(1,[i]))) x.2) (fun x=>x.1)
   (fun x=>[row 244 2 x.1 x.2.length (nf x.2),iN x.2]):=by
 obtain ⟨h1,h2,h3,h4⟩:=h.one;have hti:=h.ti;obtain ⟨a,cp,b,o',rfl,dD,cr,ha,hc⟩:=hti;have GY:=h.sr;obtain ⟨a2,l9,b2,o2,rfl,kp,fh,js,jT⟩:=GY;rw [bU] at *;rw [cy] at *;unfold maxLen at cr fh;obtain ⟨i0,uX⟩:∃ i:Nat,br (cz r) so=(i:Nat):=⟨(br (cz r) so).toNat,by have:=cF RX;omega⟩;have Eo:i0<r.sr.length:=by
  obtain ⟨hl,_⟩:=ei (l:=cz r) (s:=so) (by omega);rw [uX,Zy] at hl;unfold cz at hl;rwa [Zd] at hl
 have xT:mJ r so=(r.sr[i0]).mx:=by unfold mJ;rw [uX,Zy,Zk,Zc Eo];rfl
 have Uv:∀ w',aH [] w w'->ao T_ 180 [.agg #[.q r.lv,.q r.ma,.slice a2 r.sr.length l9,d,.slice a r.ti.length cp,p],.string so] w' (.q (i0:Nat)):=fun w' hk=>uX ▸ mI so (h.keeps hk)
 have hsrc:=Uv;unfold RA;refine aV func259 I I ?_
 (refine Jr<|Jy I I fun _ _=>Ja I<|Ji<|Jz I I fun _ _=>Jn<|Jq<|Jr<|bN I I ae<|JL I (.there .here) I<|JI I<|Jv I<|Jn<|J0 ?_)
 rename_i b3 uY b7 Ve;refine aR 244 2 ?_;refine yB ?_
 refine bd (ι:=Nat×Value×List Wy) (fun x=>x.1<=r.ti.length/\Qk ((By r v so x.1).map (fun i=>(0,[i]))) x.2.2)
  (fun x=>[(14,.q (x.1:Nat)),(13,.q (r.ti.length:Nat)),(12,.slice a r.ti.length cp),(7,.p b7),(3,.p b3),(1,.q v),(2,.string so)])
  (fun x=>[bA b7 (.cells #[x.2.1] 329 (0,0)),row 244 2 x.2.1 x.2.2.length (nf x.2.2),iN x.2.2,JP b3 r (.slice a2 r.sr.length l9) d (.slice a r.ti.length cp) p]) (fun x=>r.ti.length-x.1) ?_ ?_
 ·apply aJ (0,.z,[]) ⟨Zi _,I,fun y hy=>by cases hy⟩
  case hs1=>exact cB
  case ht=>
   exact .cons bO (.cons (.there .here) (.h2 .nil))
 rintro ⟨k,wv,W⟩ ⟨hk,hW⟩;dsimp only at hk hW ⊢;have PR:(nf W).length=W.length*2:=pz W;by_cases aN:k<r.ti.length
 ·have c8:=ha (eV aN);have aG:=(hc k _ (ed aN)).2;unfold Ti.cells at aG;have oT:=iG aN;have uV:eY r k=(r.ti[k]).nm:=by unfold eY;rw [oT]
  have hWk:W.length<=k:=by
   have:=congrArg List.length hW.1;rw [Zd,Zd] at this;rw [this];have:=Z5 (xE r v so) (List.range k);rw [Zar] at this;exact this
  have wI:∀ w',aH [] w w'->ao T_ 121 [.agg #[.q r.lv,.q r.ma,.slice a2 r.sr.length l9,d,.slice a r.ti.length cp,p],.q v,.string (r.ti[k]).nm] w' (.bool (ib r.po v (r.ti[k]).nm)):=fun w' hk=>ph v _ (h.keeps hk)
  have wH:∀ w',aH [] w w'->ao T_ 126 [.agg #[.q r.lv,.q r.ma,.slice a2 r.sr.length l9,d,.slice a r.ti.length cp,p],.q v,.string (r.ti[k]).nm] w' (.string (kN r v (r.ti[k]).nm)):=fun w' hk=>mX v _ (h.keeps hk) (by omega)
  cases sB:ib r.po v (r.ti[k]).nm with
  | false =>
   have tW:∀ w',aH [] w w'->ao T_ 121 [.agg #[.q r.lv,.q r.ma,.slice a2 r.sr.length l9,d,.slice a r.ti.length cp,p],.q v,.string (r.ti[k]).nm] w' (.bool false):=fun w' hk=>sB ▸ wI w' hk
   have hq:xE r v so k=false:=by unfold xE;rw [uV,sB];rfl
   have Kv:By r v so (k+1)=By r v so k:=by rw [xb,if_neg (by rw [hq];decide),ZQ]
   (refine Jr<|JA I<|Jn<|Jq<|Jd I fun aA=>Jk<|Jq<|J0<|Jr<|Jv I<|ab (gr c8 aA) I<|ab (iD (eO.base aG I)) I<|Jz I I fun _ _=>Ja I<|aq (.of I) (.of I) .here I I (fc I I I) (bF I) an<|Ji<|ab (cN dF) I<|Jv I<|bN I I ae<|JL I .here I<|aj ek I (fun w' az=>(tW w' (Mem.keeps az)))<|Jv I<|au I I (fun hg bG=>(bL (.of I) dF an (by rfl))) I<|gy I I I I<|au I I (fun hg bG=>(ai (.of I) ae)) I<|au I I (fun hg bG=>(ag (.bX bG I) (At.lit .here I))) I<|cK I I I I<|gy I I I I<|cK I I I I<|ab (bM (.of I) (.of I) (.of I) I) I<|Jn<|bJ (.of I)<|Jw<|Jj<|Jt<|Jg<|JB I (by omega)<|Jv I<|Jn ?_)
   apply aI (k+1,wv,W) ⟨show k+1<=r.ti.length by omega,by rw [Kv];exact hW⟩ (show r.ti.length-(k+1)<r.ti.length-k by omega)
   case hs1=>exact cB
   case ht=>(try simp only [Ze,Zf,Za]);exact .cons (.there .here) (.cons (.there .here) (.cons (.there .here) (.cons (.there .here) .nil)))
  | true =>
   have tW:∀ w',aH [] w w'->ao T_ 121 [.agg #[.q r.lv,.q r.ma,.slice a2 r.sr.length l9,d,.slice a r.ti.length cp,p],.q v,.string (r.ti[k]).nm] w' (.bool true):=fun w' hk=>sB ▸ wI w' hk
   by_cases rN:kN r v (r.ti[k]).nm=so
   ·have hq:xE r v so k=true:=by unfold xE;rw [uV,sB,decide_eq_true rN];rfl
    have Kv:By r v so (k+1)=By r v so k++[k]:=by rw [xb,if_pos hq]
    (refine Jr<|JA I<|Jn<|Jq<|Jd I fun aA=>Jk<|Jq<|J0<|Jr<|Jv I<|ab (gr c8 aA) I<|ab (iD (eO.base aG I)) I<|Jz I I fun _ _=>Ja I<|aq (.of I) (.of I) .here I I (fc I I I) (bF I) an<|Ji<|ab (cN dF) I<|Jv I<|bN I I ae<|JL I .here I<|aj ek I (fun w' az=>(tW w' (Mem.keeps az)))<|Jv I<|JK I I<|ab (cN dF) I<|JK I I<|Jv I<|JK I I<|bN I I ae<|JK I I<|JL I .here I<|JK I I<|aj ek I (fun w' az=>(wH w' (Mem.keeps az)))<|JK I I<|Jv I<|JK I I<|ab (rh (.of I) (.of I) rN) I<|ab (cP (.of I) (.of I) (.of I) I) I<|Jn<|ch (.of I)<|Jg<|JL I (.there .here) I<|Jv I<|bn (aB (.o I .nil) I I I I) I fun _ _=>ab (aX (.o I (.o I .nil)) an) I<|bn (bD (.o I .nil) I I bV bV an) I fun _ _=>?_)
    rename_i b9 hb9 bq lN bl PN;have K6:=hW.add ⟨.w bq 1 1,[k],0⟩ I;have Um:nf (W++[⟨.w bq 1 1,[k],0⟩])=nf W++[.w bq 1 1,.q 0]:=zG W _;have Ul:(W++[(⟨.w bq 1 1,[k],0⟩:Wy)]).length=W.length+1:=by simp
    refine bH (.of I) (.of I) dF .here an (by rfl) (gK I I) (by rfl) (by rfl) (by rfl) eC (by rfl) ?_;intro v';refine aT (by exact .here) fun a' il e=>?_;subst e
    (refine aq (.of I) (.of I) dF I I (dG I) (bF I) an<|Jx<|Jj<|Jt<|Jg<|JB I (by omega)<|Jv I<|Jn ?_)
    refine bR (g:=bq) (E:=3) (ys:=[.q (k:Nat)]) 1 1 c6 I I I ?_;refine pB (W:=W) ⟨.w bq 1 1,[k],0⟩ (n:=1) (x:=[.q (k:Nat)]) fx (by exact .here) I I ?_;apply aI (k+1,.slice a' (W.length+1) il,W++[⟨.w bq 1 1,[k],0⟩]) ⟨show k+1<=r.ti.length by omega,by rw [Kv,Zz];exact K6⟩ (show r.ti.length-(k+1)<r.ti.length-k by omega)
    case hs1=>exact cB
    case ht=>
     show bK _ [bA b7 (.cells #[.slice a' (W.length+1) il] 329 (0,0)),row 244 2 (.slice a' (W.length+1) il) (W++[(⟨.w bq 1 1,[k],0⟩:Wy)]).length (nf (W++[⟨.w bq 1 1,[k],0⟩])),iN (W++[⟨.w bq 1 1,[k],0⟩]),JP b3 r (.slice a2 r.sr.length l9) d (.slice a r.ti.length cp) p] _;rw [Ul,Um];exact .cons (.there .here) (.cons (.there .here) (.h1 (.cons bO .nil)))
   ·have hq:xE r v so k=false:=by unfold xE;rw [uV,sB,decide_eq_false rN];rfl
    have Kv:By r v so (k+1)=By r v so k:=by rw [xb,if_neg (by rw [hq];decide),ZQ]
    (refine Jr<|JA I<|Jn<|Jq<|Jd I fun aA=>Jk<|Jq<|J0<|Jr<|Jv I<|ab (gr c8 aA) I<|ab (iD (eO.base aG I)) I<|Jz I I fun _ _=>Ja I<|aq (.of I) (.of I) .here I I (fc I I I) (bF I) an<|Ji<|ab (cN dF) I<|Jv I<|bN I I ae<|JL I .here I<|aj ek I (fun w' az=>(tW w' (Mem.keeps az)))<|Jv I<|JK I I<|ab (cN dF) I<|JK I I<|Jv I<|JK I I<|bN I I ae<|JK I I<|JL I .here I<|JK I I<|aj ek I (fun w' az=>(wH w' (Mem.keeps az)))<|JK I I<|Jv I<|JK I I<|ab (vA (.of I) (.of I) rN) I<|ab (bM (.of I) (.of I) (.of I) I) I<|Jn<|bJ (.of I)<|Jw<|Jj<|Jt<|Jg<|JB I (by omega)<|Jv I<|Jn ?_)
    apply aI (k+1,wv,W) ⟨show k+1<=r.ti.length by omega,by rw [Kv];exact hW⟩ (show r.ti.length-(k+1)<r.ti.length-k by omega)
    case hs1=>exact cB
    case ht=>(try simp only [Ze,Zf,Za]);exact .cons (.there .here) (.cons (.there .here) (.cons (.there .here) (.cons (.there .here) .nil)))
 ·obtain rfl:k=r.ti.length:=by omega
  refine Jr<|JA I<|Jn<|Jq<|Jc I fun aA=>Jp<|Jl<|Jo<|Jt<|Jq<|Jq ?_;have rX:=js (gW Eo);have eF:=(jT i0 _ (fG Eo)).2;unfold Sr.cells at eF;have PF:=eF 1 _ I
  with_reducible refine eP 10 (by kernel_rfl) ?_
  (refine aM (cN c6) I<|mZ I I<|pZ I I ae<|aM (ic c6) I<|aM (cN c6) I<|mZ I I<|fQ bo I (fun w' az=>(hsrc w' (Mem.keeps az)))<|aM (aC (.of I) (.of I) rX (by omega) (by omega) bu) I<|pZ I I ae<|aM (ag (.of I) (At.base PF I)) I ?_)
  with_reducible refine eU ?_
  rw [<- xT]
  with_reducible apply jt
  case hr=>exact ek
  case hd=>rfl
  case ht=>exact bK.nil
  case hc=>
   intro w1 fp aY _ hs1;obtain rfl:fp=[]:=hs1;exact sU (s:=.slice a2 r.sr.length l9) (d:=d) (t:=.slice a r.ti.length cp) (p:=p) v (mJ r so) (h.keeps aY.keeps)
  intro y _;dsimp only [id_eq,Zb,Za];refine Jn<|J0 ?_;have tV:(fH r v (mJ r so) r.ti.length).length<=r.ti.length:=by
   have:=Z5 (CI r v (mJ r so)) (List.range r.ti.length);rw [Zar] at this;exact this
  have iE:(By r v so r.ti.length).length<=r.ti.length:=by
   have:=Z5 (xE r v so) (List.range r.ti.length);rw [Zar] at this;exact this
  refine jn (ps:=[51,52]) (f:=240) (first:=[]) (cap:=[.pointer (some ⟨y.1,0,none⟩),.pointer (some ⟨y.2.1,0,none⟩),.pointer (some ⟨y.2.2,0,none⟩)]) (ι:=Value×List Wy) (κ:=Empty) (rst:=[JP b3 r (.slice a2 r.sr.length l9) d (.slice a r.ti.length cp) p]) ?hg
   [JP y.1 r (.slice a2 r.sr.length l9) d (.slice a r.ti.length cp) p,bA y.2.1 (.cells #[.q (mJ r so)] 3 (0,0)),bA y.2.2 (.cells #[.q v] 3 (0,0))] (Mi r v (mJ r so)) ?hit
   (fun k x=>Qk ((By r v so r.ti.length).map (fun i=>(0,[i]))++((fH r v (mJ r so) r.ti.length).take k).map (fun i=>(1,[i]))) x.2)
   (fun x=>[bA b7 (.cells #[x.1] 329 (0,0)),row 244 2 x.1 x.2.length (nf x.2),iN x.2])
   (fun _=>False) (fun _=>[]) (fun _=>.ret) (wv,W) (by rw [Ze,Zf,ZQ];exact hW) ?ht ?hlen ?hps ?round ?kn ?kj
  case hg=>exact Is.of I
  case hit=>intro w' az;exact J7 v (mJ r so) h RO.nil (by omega)
  case ht=>
   dsimp only [Zb,Za];exact .cons c6 (.cons c6 (.cons c6 (.h3 .nil)))
  case hlen=>intro vs oS;obtain ⟨x,_,rfl⟩:=Zw.1 oS;rfl
  case hps=>intro t ht;simp only [ZO,Zo,or_false] at ht;rcases ht with rfl | rfl <;> exact Zax rfl
  case kj=>intro y;cases y
  case kn=>
   rintro ⟨wv,W⟩ D hq;dsimp only [Zb,Za] at hq ⊢;rw [uT,ZN] at hq;refine aT (E:=244) (sz:=2) (by exact Take.there .here) fun va vc e=>?_;subst e;refine Jj<|Jt<|Jr<|JL I .here I<|Ja I<|Jn<|Je ?_
   with_reducible first|apply aP|apply aQ
   case he=>exact dS I I
   case hR=>
    intro w' az;exact aF (.slice va W.length vc,W) hq (by exact .cons (.there .here) (.cons (.there .here) .nil)) az I
  case round=>
   rintro l2 rc W2 VD k ⟨wv,W⟩ vs hsz hk hq hB hF;dsimp only at hq;obtain ⟨i,hi,rfl,iY,WW⟩:=Ec hk;obtain ⟨su,KQ⟩:=Zl.1 hi;have htk:(fH r v (mJ r so) r.ti.length).take (k+1)=(fH r v (mJ r so) r.ti.length).take k++[i]:=by rw [Zn su,KQ]
   have PR:(nf W).length=W.length*2:=pz W;have hWk:W.length<=2000:=by
    have:=congrArg List.length hq.1;rw [Zd,Zg,Zd,Zd,Zs] at this;omega
   dsimp only [Ti.cells,List.zip_cons_cons,List.zip_nil_right,ml,Zb,Za];refine Jg<|Ja I<|Jn ?_
   with_reducible apply mF
   case ht=>exact .here
   refine aT (E:=244) (sz:=2) bO fun v1 v2 e=>?_;subst e
   (refine J0<|Jg<|JL I (.there .here) I<|Jv I<|bn (aB (.o I .nil) I I I I) I fun _ _=>ab (aX (.o I (.o I .nil)) an) I<|bn (bD (.o I .nil) I I bV bV an) I fun _ _=>?_)
   rename_i bq lN bl PN;have K6:=hq.add ⟨.w bq 1 1,[i],1⟩ I;have Um:nf (W++[⟨.w bq 1 1,[i],1⟩])=nf W++[.w bq 1 1,.q 1]:=zG W _;have Ul:(W++[(⟨.w bq 1 1,[i],1⟩:Wy)]).length=W.length+1:=by simp
   refine bH (.of I) (.of I) dF .here an (by rfl) (gK I I) (by rfl) (by rfl) (by rfl) eC (by rfl) ?_;intro v';refine aT (by exact .here) fun a' il e=>?_;subst e
   (refine aq (.of I) (.of I) dF I I (dG I) (bF I) an<|Jx<|Jj ?_)
   refine bR (g:=bq) (E:=3) (ys:=[.q (i:Nat)]) 1 1 c6 I I I ?_;refine pB (W:=W) ⟨.w bq 1 1,[i],1⟩ (n:=1) (x:=[.q (i:Nat)]) fx (by exact .here) I I ?_;apply lU (.slice a' (W.length+1) il,W++[⟨.w bq 1 1,[i],1⟩])
   case ht=>exact dF
   case hx=>
    show Qk _ _;rw [htk,Zz,<- Zh];exact K6
   case h2=>
    show bK _ [bA b7 (.cells #[.slice a' (W.length+1) il] 329 (0,0)),row 244 2 (.slice a' (W.length+1) il) (W++[(⟨.w bq 1 1,[i],1⟩:Wy)]).length (nf (W++[⟨.w bq 1 1,[i],1⟩])),iN (W++[⟨.w bq 1 1,[i],1⟩])] _;rw [Ul,Um];exact .cons (.there .here) (.cons (.there .here) (.h1 .nil))
def yl (r:Ro) (v:Int) (so:ByteArray):List (Nat×List Nat):=(By r v so r.ti.length).map (fun i=>(0,[i]))++(fH r v (mJ r so) r.ti.length).map (fun i=>(1,[i]))
theorem nr {r:Ro} (h:so∈cz r):jH r so=mJ r so:=by
 unfold jH mJ;rw [if_pos (cF h)]
theorem tx {r:Ro} (hn:n9 r) (h:gV r r.po) (v:Int) (so:ByteArray) (i:Nat):xE r v so i=(eh r r.po v so).ca i:=by
 unfold xE eh;rw [tw hn h]
theorem qK {r:Ro} (v:Int) (so:ByteArray) (m:Int) (i:Nat):CI r v m i=(decide ((eh r r.po v so).fr i=m)&&(eh r r.po v so).fe i):=rfl
theorem LD {r:Ro} {v:Int} (h:(eh r r.po v so).ca i=true):(eh r r.po v so).fe i=false:=by
 unfold eh at h ⊢;simp only [Zm] at h;simp [h.1]
theorem FM (N:Wn) (i:Nat):N.uv [i]=if N.fe i then 1 else 0:=by
 unfold Wn.uv;cases h:N.fe i <;> simp [h]
theorem K9 (N:Wn) (p:List Nat) {i:Nat} (h:N.fe i=true):N.uv (p++[i])=N.uv p+1:=by
 unfold Wn.uv;rw [List.countP_append];simp [h]
theorem Ia (N:Wn) (j:Nat):N.step [] j=(decide (j<N.n)&&(N.ca j||(N.fe j&&decide (N.fr j=N.zu)))):=by
 unfold Wn.step;simp [Wn.OG];rfl
theorem step_cons (N:Wn) {x:List Nat} (h:x≠[]) (j:Nat):N.step x j=(decide (j<N.n)&&(!x.contains j&&(N.fe j&&decide (N.fr j=N.fin x)))):=by
 unfold Wn.step;cases x with
 | nil=>exact absurd rfl h
 | cons a l=>simp
theorem LJ {r:Ro} (hn:n9 r) (h:gV r r.po) (v:Int) {so:ByteArray} (hs:so∈cz r) (q:List Nat):q∈(yl r v so).map Prod.snd↔q∈(eh r r.po v so).exts []:=by
 unfold yl Wn.exts Wn.Tj;rw [Zz,Zq,ZaI,ZaI];simp only [Zw,Za,Function.comp,ZA,ZU,By,fH];have bj:∀ j,(eh r r.po v so).step [] j=true↔j<r.ti.length/\(xE r v so j=true\/CI r v (mJ r so) j=true):=fun j=>by
  rw [Ia,tx hn h,qK v so];have e0:(eh r r.po v so).zu=mJ r so:=nr hs;rw [e0];simp only [Zm,ZP,decide_eq_true_eq];constructor
  ·rintro ⟨h1,h2 | ⟨h3,h4⟩⟩
   ·exact ⟨h1,.inl h2⟩
   ·exact ⟨h1,.inr ⟨h4,h3⟩⟩
  ·rintro ⟨h1,h2 | ⟨h3,h4⟩⟩
   ·exact ⟨h1,.inl h2⟩
   ·exact ⟨h1,.inr ⟨h4,h3⟩⟩
 constructor
 ·rintro (⟨j,⟨h1,h2⟩,rfl⟩ | ⟨j,⟨h1,h2⟩,rfl⟩)
  ·exact ⟨j,⟨h1,(bj j).2 ⟨h1,.inl h2⟩⟩,I⟩
  ·exact ⟨j,⟨h1,(bj j).2 ⟨h1,.inr h2⟩⟩,I⟩
 ·rintro ⟨j,⟨h1,h2⟩,rfl⟩;rcases ((bj j).1 h2).2 with h3 | h3
  ·exact .inl ⟨j,⟨h1,h3⟩,I⟩
  ·exact .inr ⟨j,⟨h1,h3⟩,I⟩
theorem SZ {r:Ro} (hn:n9 r) (h:gV r r.po) (v:Int) {so:ByteArray} {x:Nat×List Nat} (hx:x∈yl r v so):x.1=(eh r r.po v so).uv x.2:=by
 unfold yl at hx;rcases Zq.1 hx with hx | hx
 ·obtain ⟨i,hi,rfl⟩:=Zw.1 hx;have:=(ZA.1 hi).2;rw [tx hn h] at this;rw [FM,LD this];rfl
 ·obtain ⟨i,hi,rfl⟩:=Zw.1 hx;have:=(ZA.1 hi).2;rw [qK v so,Zm] at this;rw [FM,this.2];rfl
theorem O5 {r:Ro} (hn:n9 r) (h:gV r r.po) (v:Int) {so:ByteArray} (h6:r.ti.length<=6):(eh r r.po v so).wt ((yl r v so).map Prod.snd)<=1957:=by
 have e:(yl r v so).map Prod.snd=(By r v so r.ti.length++fH r v (mJ r so) r.ti.length).map (fun i=>([]:List Nat)++[i]):=by
  unfold yl;rw [Zz,ZaI,ZaI,Zz];rfl
 rw [e,Wn.Ds];have hl:(By r v so r.ti.length++fH r v (mJ r so) r.ti.length).length<=r.ti.length:=by
  refine lf _ _ ?_ ?_
  ·rw [Zx];refine ⟨List.nodup_range.filter _,List.nodup_range.filter _,?_⟩;intro a ha b hb e;subst e;have h1:=(ZA.1 ha).2;have h2:=(ZA.1 hb).2;rw [tx hn h] at h1;rw [qK v so,Zm] at h2;rw [LD h1] at h2;cases h2.2
  ·intro x hx;rcases Zq.1 hx with hx | hx <;> exact ZU.1 (ZA.1 hx).1
 have hN:(eh r r.po v so).n=r.ti.length:=rfl;rw [hN];generalize (By r v so r.ti.length++fH r v (mJ r so) r.ti.length).length=k at hl;generalize r.ti.length=n at hl h6;have:∀ n,n<=6->n*qi (n-1)<=1957:=by decide
 exact ZZ (Z9 _ hl) (by simpa using this n h6)
theorem Hf {r:Ro} {v:Int} {x:List Nat} (hx:x≠[]):(eh r r.po v so).exts x=((fH r v ((eh r r.po v so).fin x) r.ti.length).filter fun i=>!x.contains i).map fun i=>x++[i]:=by
 unfold Wn.exts Wn.Tj fH;rw [ZbA];congr 1;apply Zbb;intro j hj;have nh:=ZU.1 hj;rw [step_cons _ hx,qK v so];have:decide (j<(eh r r.po v so).n)=true:=decide_eq_true nh;rw [this,Zav];congr 1;exact Bool.and_comm _ _
theorem Ua {r:Ro} {v:Int} (p q:List Nat):(eh r r.po v so).lt p q=wl ((eh r r.po v so).uv p,p) ((eh r r.po v so).uv q,q):=rfl
def gQ (r:Ro) (de:ByteArray):Int:=(r.de.getD (br (bY r) de).toNat ⟨⟨#[]⟩,0,false⟩).mx
theorem Lj {r:Ro} {de:ByteArray} (h:de∈bY r):jR r de=gQ r de:=by
 unfold jR gQ;rw [if_pos (cF h)]
structure qg (N:Wn) (dm:Int) (Q kI:List Wy):Prop where
 sub:∀ x∈Q,x∈kI
 one:∀ x∈kI,x.v.oneCell'=true
 uv:∀ x∈Q,x.f=N.uv x.p
 inv:N.Inv dm (Q.map Wy.p)
 Ez:N.wt (Q.map Wy.p)<=1957
theorem qg.len {Q kI:List Wy} (h:qg N dm Q kI):Q.length<=1957:=by
 have:=N.HF (Q.map Wy.p);rw [Zd] at this;exact ZZ this h.Ez
theorem qg.begin {r:Ro} (hn:n9 r) (hv:gV r r.po) (v:Int) {so de:ByteArray} (hs:so∈cz r) (h6:r.ti.length<=6) (hne:mJ r so≠gQ r de) {W:List Wy} (hW:Qk (yl r v so) W):qg (eh r r.po v so) (gQ r de) W W:=by
 have hp:W.map Wy.p=(yl r v so).map Prod.snd:=by rw [<- hW.1,ZaI];rfl
 refine ⟨fun _ h=>h,hW.2,fun x hx=>?_,?_,?_⟩
 ·have:wk x∈yl r v so:=by rw [<- hW.1];exact Zai hx
  exact SZ hn hv v this
 ·refine Wn.GV (by rw [show (eh r r.po v so).zu=jH r so from I,nr hs];exact hne) fun q=>?_;rw [hp];exact LJ hn hv v hs q
 ·rw [hp];exact O5 hn hv v h6
theorem qg.perm {Q Q' kI:List Wy} (h:qg N dm Q kI) (hp:Q'.Perm Q):qg N dm Q' kI:=by
 have hm:=hp.map Wy.p;refine ⟨fun x hx=>h.sub x (hp.mem_iff.1 hx),h.one,fun x hx=>h.uv x (hp.mem_iff.1 hx),⟨fun q hq=>h.inv.ok q (hm.mem_iff.1 hq),fun p h1 h2=>?_⟩,by rw [Wn.EW hm];exact h.Ez⟩;obtain ⟨q,hq,h3⟩:=h.inv.cover p h1 h2;exact ⟨q,hm.mem_iff.2 hq,h3⟩
theorem qg.found {r:Ro} {v:Int} {x:Wy} {R kI:List Wy} (h:qg (eh r r.po v so) dm (x::R) kI) (hs:(x::R).Pairwise (fun x y=>wl (y.f,y.p) (x.f,x.p)=false)) (hf:(eh r r.po v so).fin x.p=dm):(eh r r.po v so).least dm x.p:=by
 refine Wn.GU h.inv (by simp) (fun q hq=>?_) hf;obtain ⟨y,hy,rfl⟩:=Zw.1 hq;rw [Ua,<- h.uv x (by simp),<- h.uv y hy];rcases ZO.1 hy with rfl | hy
 ·exact yp _
 ·exact (ZaX.1 hs).1 y hy
theorem qg.next {r:Ro} {v:Int} {x:Wy} {R W kI nZ:List Wy} (h:qg (eh r r.po v so) dm (x::R) kI) (hf:(eh r r.po v so).fin x.p≠dm) (iV:∀ y∈R++W,y∈nZ) (jc:∀ y∈nZ,y.v.oneCell'=true)
  (hW:W.map wk=((fH r v ((eh r r.po v so).fin x.p) r.ti.length).filter fun i=>!x.p.contains i).map fun i=>(x.f+1,x.p++[i])):qg (eh r r.po v so) dm (R++W) nZ/\(eh r r.po v so).wt ((R++W).map Wy.p)<(eh r r.po v so).wt ((x::R).map Wy.p):=by
 have hx:=h.inv.ok x.p (by simp);have hWp:W.map Wy.p=(eh r r.po v so).exts x.p:=by
  rw [Hf hx.2];have:=congrArg (fun l=>l.map Prod.snd) hW
  simp only [ZaI] at this;exact this
 have aN:(eh r r.po v so).wt ((R++W).map Wy.p)<(eh r r.po v so).wt ((x::R).map Wy.p):=by
  rw [Zz,hWp,Wn.yo,Zaf,Wn.wt];have:=Wn.MH hx.1;omega
 refine ⟨⟨iV,jc,fun y hy=>?_,?_,ZZ (Nat.le_of_lt aN) h.Ez⟩,aN⟩
 ·rcases Zq.1 hy with hy | hy
  ·exact h.uv y (ZT _ hy)
  ·have h1:wk y∈W.map wk:=Zai hy;rw [hW] at h1;obtain ⟨i,hi,e⟩:=Zw.1 h1;have e1:x.f+1=y.f:=congrArg Prod.fst e;have e2:x.p++[i]=y.p:=congrArg Prod.snd e;have h2:=(ZA.1 (ZA.1 hi).1).2;rw [qK v so,Zm] at h2;rw [<- e1,<- e2,K9 _ _ h2.2,h.uv x (by simp)]
 ·rw [Zz,hWp];refine Wn.Km h.inv (fun q=>?_) hf;rw [Zaf,ZO]
end Go.Proofs.A1
namespace Go.SL
open Go
theorem Fk {h:Nat->Option Obj} {E:TypeId} {sz:Nat} {v:Value} {n:Nat} {xs:List Value} {fp:List Nat} (hr:(kS E sz v n xs).sat h fp):fp=v.ownBlock.toList:=by
 obtain ⟨_,h1⟩:=hr;rcases h1 with ⟨rfl,rfl,_⟩ | ⟨g,off,cap,cur,rfl,rfl,_⟩
 ·simp [Value.ownBlock]
 ·simp [Value.ownBlock]
section
variable {P:Program} {c:Cx} {D:List Nat} {sl:aD} {hs hs':List bh} {d:Nat} {ty:TypeId} {pos:String} {af:Array Edge} {r:Option Nat} {ops:Array Oper} {Q:Exit->Act->World->Prop} {rest:List Oper}
theorem DE {t e:TypeId} {agg:Bool} {size bytes:Nat} {z:Value} {x y:Operand} {v:Value} {n b o m cp:Nat} {xs news:List Value} [hu:gJ P t (.slice e)] [hT:Ty P e agg size] [hZ:lQ P e z] [hB:u9 P e bytes]
  (hx:Is sl x v) (hy:Is sl y (.slice (some ⟨b,o,none⟩) m cp)) (ht:Take hs (kS e size v n xs) hs') (hn:eO c hs b o news) (hl:news.length=m*size) (h1:∀ u∈news,u.oneCell'=true) (hz:z.cells.size=size) (hsz:Nat.blt 0 size=true) (hb0:Nat.blt 0 bytes=true)
  (hb:(n+m)*bytes<=140737488355328) (hd:Nat.blt d c.nt=true)
  (k:∀ v',Tr c D ((d,v')::sl) (kS e size v' (n+m) (xs++news)::hs') (WL P r ops Q rest)) :
  Tr c D sl hs (WL P r ops Q (⟨some d,.call ⟨.builtin .append,#[x,y],#[t,t]⟩,ty,pos,af,none⟩::rest)):=fun a w bj=>by
 obtain ⟨de,i,lp,hi,_,iP⟩:=Ty.parts (P:=P) (t:=e) (agg:=agg) (n:=size);have hzero:i.zero=some z:=by have:=hZ.eq;rw [hi] at this;simpa using this
 have gZ:i.bytes=bytes:=by have:=hB.eq;rw [hi] at this;simpa using this
 have WJ:=bj.rG;have hm:=bj.mem.take (ht.append _);obtain ⟨kk,fp,jX,⟨f1,f2,rfl,PD,h2⟩,Ep⟩:=hm;obtain ⟨hlen,hrow⟩:=id PD;have CE:0<bytes:=by simpa using hb0
 have Ux:0<size:=by simpa using hsz
 have cr:n+m<=maxLen:=by
  have:(n+m)*1<=(n+m)*bytes:=Zbr _ CE;unfold maxLen;omega
 have rT:∀ j u,news[j]? = some u->w.cell? ((⟨b,o,none⟩:Addr).add j)=some u:=fun j u hj=>by rw [eW];exact hn.get j u hj w WJ
 have WK:(xs++news).length=(n+m)*size:=by rw [Zg,hlen,hl,Nat.add_mul]
 have key:∃ v' w' lO,(Builtin.append_ #[t,t] ty #[v,.slice (some ⟨b,o,none⟩) m cp]).run P w=.ok v' w'/\aH f1 w w'/\lO.Nodup/\(kS e size v' (n+m) (xs++news)).sat (hp w') lO/\∀ q∈lO,q∈f1\/w.heap.size<=q:=by
  rcases hrow with ⟨rfl,rfl,rfl⟩ | ⟨g,off,cap,cur,rfl,rfl,hg,hnc,hcm,hfit,htk⟩
  ·have rR:w.ownsRow 0 e size (.z) 0 xs:=⟨hlen,.inl ⟨I,I⟩⟩;obtain ⟨v',w',ij,rQ,wC,_⟩:=run_append_own (P:=P) w 0 t ty e i z size bytes hu.eq hi hzero iP gZ hz (by simpa using hsz) _ 0 xs rR ⟨b,o,none⟩ m cp news hl rT h1 cr hb (Zi _);have xU:=qS (P:=P) (t:=t) (ty:=ty) hu.eq hi hzero (by rw [iP];exact rR) (a:=⟨b,o,none⟩) (m:=m) (cp:=cp) (by rw [iP];exact hl) rT h1 cr (by rw [gZ];exact hb) ij;refine ⟨v',w',v'.ownBlock.toList,ij,⟨wC.os,wC.tape,wC.output,xU.2,wC.size,fun q hq _=>wC.block q hq (by simp [Value.ownBlock])⟩,by cases v'.ownBlock <;> simp,oD (lX rQ),fun q hq=>?_⟩
   have xA:v'.ownBlock=some q:=by simpa [Option.mem_toList] using hq
   rcases xU.1 with h | h
   ·rw [xA] at h;simp [Value.ownBlock] at h
   ·rw [h] at xA;cases xA;exact .inr (ZC _)
  ·have U4:w.heap[g]? = some (.cells cur e (0,0)):=hg;have hgs:g<w.heap.size:=(Z0.1 U4).1;have RT:cur.toList=cur.toList.take off++(xs++cur.toList.drop (off+n*size)):=by
    rw [<- htk]
    conv=>lhs;rw [<- ZX off cur.toList]
    congr 1
    conv=>lhs;rw [<- ZX (n*size) (cur.toList.drop off)]
    rw [Zbf]
   have hcs:cur.size=cur.toList.length:=by simp
   have hns:n*size<=cap*size:=Z9 _ hnc;have Bq:(cur.toList.take off).length=off:=by rw [Zs];omega
   by_cases zf:n+m<=cap
   ·have hms:(n+m)*size<=cap*size:=Z9 _ zf;rw [Nat.add_mul] at hms;have Sh:w.heap[g]? = some (.cells cur.toList.toArray e (0,0)):=by rw [ZaZ];exact U4
    obtain ⟨w',h3,h4,h5⟩:=ja (P:=P) (o:=off+n*size) news 0 cur.toList w Sh h1 (by omega);have hfc:=run_firstCells_some (P:=P) w i.size m ⟨b,o,none⟩ m cp news (by rw [iP];exact hl) rT;refine ⟨.slice (some ⟨g,off,none⟩) (n+m) cap,w',[g],?_,h4,by simp,⟨WK,.inr ⟨g,off,cap,_,I,I,h5,zf,hcm,?_,?_⟩⟩,fun q hq=>.inl hq⟩
    ·subst iP;have K6:(⟨g,off,none⟩:Addr).add (n*i.size)=⟨g,off+n*i.size,none⟩:=eW _ _ _;simp [Builtin.append_,aW hu.eq,sizeOf,typeInfo,hi,Builtin.lenOf,zf,hfc,K6,h3]
    ·rw [Zbm,kD,<- hcs];exact hfit
    ·show ((setCells cur.toList (off+n*size+0) news).drop off).take ((n+m)*size)=xs++news;have e1:setCells cur.toList (off+n*size+0) news=cur.toList.take off++xs++(news++(cur.toList.drop (off+n*size)).drop news.length):=by
      have YT:cur.toList.drop (off+n*size)=(cur.toList.drop (off+n*size)).take news.length++(cur.toList.drop (off+n*size)).drop news.length:=(ZX _ _).symm;have hle:((cur.toList.drop (off+n*size)).take news.length).length=news.length:=by rw [Zs,Zbe];omega
      have e2:cur.toList=(cur.toList.take off++xs)++((cur.toList.drop (off+n*size)).take news.length++(cur.toList.drop (off+n*size)).drop news.length):=by rw [<- YT,Zh];exact RT
      have Ox:(cur.toList.take off++xs).length=off+n*size+0:=by rw [Zg,Bq,hlen,Zay]
      conv=>lhs;rw [e2]
      rw [<- Ox];exact zY _ _ _ _ hle.symm
     rw [e1,Zh,<- Bq]
     conv=>lhs;rw [Bq]
     rw [List.drop_left' Bq,<- WK,<- Zh,List.take_left]
   ·have holds:∀ j u,xs[j]? = some u->w.cell? ((⟨g,off,none⟩:Addr).add j)=some u:=fun j u hj=>by
     rw [eW];simp only [World.cell?,U4];rw [<- htk] at hj;have aN:j<n*size:=by
      have:=(Zl.1 hj).1;rw [Zs] at this;omega
     rw [List.getElem?_take_of_lt aN,Zbg] at hj;simpa using hj
    obtain ⟨v',w',ij,rQ,wC⟩:=run_append_arg_grows (P:=P) (w:=w) t ty e i z size bytes hu.eq hi hzero iP gZ hz Ux ⟨g,off,none⟩ n cap xs hlen holds ⟨b,o,none⟩ m cp news hl rT (by omega) cr hb;have hr:=run_append_grow (P:=P) w t ty e i z hu.eq hi hzero ⟨g,off,none⟩ n cap xs (by rw [iP];exact hlen) holds ⟨b,o,none⟩ m cp news (by rw [iP];exact hl) rT (by omega) (by unfold maxLen at cr;omega) (growslice_fits (by omega) (by rw [gZ];exact hb));have Es:w.drawn<=w'.drawn/\v'.ownBlock=some w.heap.size:=by
     rw [ij] at hr;cases hr;exact ⟨Nat.le_succ _,I⟩
    have UI:w'.ownsRow 0 e size v' (n+m) (xs++news):=⟨rQ.1,rQ.2.imp id fun ⟨g',il,aay,e1,_,r⟩=>⟨g',il,aay,e1,Zi _,r⟩⟩
    refine ⟨v',w',v'.ownBlock.toList,ij,⟨wC.os,wC.tape,wC.output,Es.1,wC.size,fun q hq _=>wC.block q hq (by simp)⟩,by cases v'.ownBlock <;> simp,oD (lX UI),fun q hq=>?_⟩
    rw [Es.2] at hq;simp at hq;exact .inr (by omega)
 obtain ⟨v',w',lO,ij,hk,hnf,gY,xU⟩:=key;refine mB I ⟨eb _ _ _ _ _,?_⟩;rw [Oper.semAt_eq _ _ _ (by simp)];have:(execOp a.eval ⟨some d,.call ⟨.builtin .append,#[x,y],#[t,t]⟩,ty,pos,af,none⟩).run P w=.ok (.value v') w':=by
  simp [execOp,resolve,invoke,builtin,hx a bj.dh,hy a bj.dh,ij]
 rw [this];refine k v' _ _ ((bj.put (by simpa [Z1] using hd) v').heap ?_);have mr:Mem c ([kS e size v n xs]++(hs'++mN D)) w:=bj.mem.take (ht.append _);have:=Mem.change (Bs:=[kS e size v' (n+m) (xs++news)]) (w':=w') mr fun fp uW hf=>by
  obtain ⟨g1,g2,e1,hr,e2⟩:=hf;obtain rfl:g2=[]:=e2;have h3:=Fk hr;have h4:=Fk PD;rw [ZQ] at e1;subst e1;rw [h3,<- h4];exact ⟨hk,lO,hnf,⟨lO,[],by simp,gY,I⟩,xU⟩
 exact this
end
end Go.SL
