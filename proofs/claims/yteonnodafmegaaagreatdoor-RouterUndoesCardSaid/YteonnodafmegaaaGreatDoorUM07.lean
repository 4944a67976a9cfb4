/- Parts of the proof: KF KV GkOff GkSortK TryzSortF KG KH KI KJq GkAppO. -/
import Derived.Test.YteonnodafmegaaaGreatDoorUM06
import Derived.Test.YteonnodafmegaaaGreatDoorUM04
import Derived.Test.YteonnodafmegaaaGreatDoorUM03
import Derived.Test.YteonnodafmegaaaGreatDoorUM02
import Derived.ArgAppend
import Derived.Shelf.SlSortCmp.WholeK
import Derived.Shelf.SlSortCmp.NoneTotal
import Derived.Shelf.SlicesG.Cmp
import Derived.Ground.SlsfProg
import Derived.Ground.SlgcProg
import Derived.Ground.NamesProg
import Derived.Ground.Names2Prog
import Derived.Test.YteonnodafmegaaaGreatDoorProg
set_option linter.unusedSectionVars false
set_option linter.unusedVariables false
set_option linter.unusedSimpArgs false
namespace Go.Proofs.A1
open Go Go.SL
open Tryz
open Tryz renaming prog->T_
variable {B:Nat->ByteArray} {fp:List Nat} {vs:List Value} {w:World}
theorem zU :∀ {cs cur:List Value} {o:Nat},o+vs.length<=cs.length->setCells (cs++cur) o vs=setCells cs o vs++cur:=by
 induction vs with
 | nil=>intro cs cur o _;rfl
 | cons v vs ih =>
  intro cs cur o h;simp only [ZI] at h;rw [setCells,setCells,Zbv _ _ (by omega),ih (by simp;omega)]
theorem xD {cs vs:List Value} (h:vs.length=cs.length):setCells cs 0 vs=vs:=by
 apply Zan;intro k;rw [gE _ _ _ _ (by omega)];by_cases hk:k<vs.length
 ·rw [if_pos (by omega),Nat.sub_zero]
 ·rw [if_neg (by omega),Zai (by omega),Zai (by omega)]
theorem Nt {n sz i:Nat} {f:Nat->List Value} (hf:∀ i,i<n->(f i).length=sz) (hi:i<n) (hv:vs.length=sz):setCells (tu n f) (i*sz) vs=tu n (fun k=>if k=i then vs else f k):=by
 have:=Ns (o:=0) hf hi (by omega:0+vs.length<=sz);rw [Zau] at this;rw [this];apply mJ;intro k _;show (if k=i then _ else _)=(if k=i then _ else _)
 split
 ·exact xD (by rw [hf i hi,hv])
 ·rfl
def swp (B:Nat->ByteArray) (m k:Nat):Nat->ByteArray:=fun x=>if x<k\/m-k<=x then B (m-1-x) else B x
def s1 (B:Nat->ByteArray):Nat->List Value:=fun i=>[.string (B i)]
theorem oF (B:Nat->ByteArray) (m:Nat):∀ i,i<m->(s1 B i).length=1:=fun _ _=>rfl
theorem I5 {m i:Nat} (cur:List Value) (h:i<m):(tu m (s1 B)++cur)[i*1]? = some (.string (B i)):=by
 have hl:=ir (oF B m);rw [ZD (by rw [hl];omega)];exact zN (j:=0) (oF B m) h (by omega)
theorem I4 {B C:Nat->ByteArray} {m i:Nat} {v:ByteArray} (cur:List Value) (h:i<m) (hC:∀ k,k<m->C k=if k=i then v else B k):setCells (tu m (s1 B)++cur) (i*1) [.string v]=tu m (s1 C)++cur:=by
 have hl:=ir (oF B m);rw [zU (by rw [hl];simp;omega),Nt (oF B m) h I];congr 1;apply mJ;intro k hk;unfold s1;rw [hC k hk];split <;> rfl
set_option maxHeartbeats 4000000 in
theorem JO {v:Value} {m:Nat} (hm:0<m) (ag4:m<=1000000) (hn:fp.Nodup) (hs:cC (hp w) [row 9 1 v m (tu m (s1 B))] fp) :
  bb T_ 117 [v] w fp (fun _:Unit=>True) (fun _=>.tuple #[]) (fun _=>[row 9 1 v m (tu m (s1 fun i=>B (m-1-i)))]):=by
 refine dU func117 I I hn hs ?_;refine cQ (by exact .here) hm ?_;rintro g cap cur rfl dp sU hsz Qd;have hlen:=ir (oF B m);refine Jr<|Jv I<|JI I<|JS I (by omega)<|Ja I<|Ja I<|Jn<|J0 ?_;refine a7 (fun k:Nat=>2*k<=m) (fun k=>[(2,.int .i64 k),(3,.int .i64 ((m-1-k:Nat):Int)),(0,.slice (some ⟨g,0,none⟩) m cap)]) (fun k=>[bo g (.cells (tu m (s1 (swp B m k))++cur).toArray 9 (0,0))]) (fun k=>m-2*k) ?_ ?_
 ·apply aI 0 (by omega)
  case hs1=>exact .cons I (.L5 I (by congr 1;omega) (.cons I .nil))
  case ht=>
   rw [show tu m (s1 (swp B m 0))=tu m (s1 B) from mJ fun i hi=>by unfold s1 swp;rw [if_neg (by omega)]]
   exact .h1 .nil
 intro k hk;have xk:=ir (oF (swp B m k) m);by_cases aN:k<m-1-k
 ·have hj:m-1-k<m:=by omega
  have SR:k<m:=by omega
  have c1:=I5 (B:=swp B m k) cur SR;have c2:=I5 (B:=swp B m k) cur hj;have Lo:=I4 (C:=fun i=>if i=k then swp B m k (m-1-k) else swp B m k i) cur SR (v:=swp B m k (m-1-k)) (B:=swp B m k) fun i _=>rfl
  have S0:=I4 (C:=swp B m (k+1)) cur hj (v:=swp B m k k) (B:=fun i=>if i=k then swp B m k (m-1-k) else swp B m k i) fun i hi=>by
   symm;unfold swp;by_cases e1:i=m-1-k
   ·subst e1;rw [if_pos I,if_neg (by omega),if_pos (by omega)];congr 1;omega
   ·rw [if_neg e1];by_cases e2:i=k
    ·subst e2;rw [if_pos I,if_neg (by omega),if_pos (by omega)]
    ·rw [if_neg e2];by_cases e3:i<k\/m-k<=i
     ·rw [if_pos e3,if_pos (by omega)]
     ·rw [if_neg e3,if_neg (by omega)]
  have tN:k*1+1<=(tu m (s1 (swp B m k))++cur).length:=by rw [Zg,xk];omega
  have tM:(m-1-k)*1+1<=(tu m (s1 (fun i=>if i=k then swp B m k (m-1-k) else swp B m k i))++cur).length:=by rw [Zg,ir (oF _ m)];omega
  refine Jq<|Jr<|Jv I<|Jv I<|JA I<|Jn<|Jd I fun ar=>Jk<|Jq<|J0 ?_
  with_reducible refine FB 16 I ?_
  (refine dd 0 I iU iU iU (fun w ρ=>rfl) (fun w=>(aX (.of I))) I<|dd 1 I iU iU iU (fun w ρ=>rfl) (fun w=>(aX (.of I))) I<|dd 2 I iU iU iU (fun w ρ=>rfl) (fun w=>(aX (.of I))) I<|dd 3 I iU iU iU (fun w ρ=>rfl) (fun w=>(aX (.of I))) I<|dd 4 I iU iU iU (fun w ρ=>rfl) (fun w=>(aX (.of I))) I<|dd 5 I iU iU iU (fun w ρ=>rfl) (fun w=>(aX (.of I))) I<|dd 6 I iU iU iU (fun w ρ=>rfl) (fun w=>(au (.of I) (.of I) I (by omega) (by omega) bn)) I<|dd 8 I iU iU iU (fun w ρ=>rfl) (fun w=>(aX (.of I))) I<|dd 9 I iU iU iU (fun w ρ=>rfl) (fun w=>(aX (.of I))) I<|dd 10 I iU iU iU (fun w ρ=>rfl) (fun w=>(au (.of I) (.of I) I (by omega) (by omega) bn)) I ?_)
  refine ct (rs:=[7,11]) (by kernel_rfl) (by simp) (Zw.2 ⟨?_,Zw.2 ⟨?_,fun _ h=>absurd h Zp⟩⟩)
  ·refine cF I ?_
   (refine ab (ag (.of I) (At.mW .here c2)) I<|Jn ?_)
   ·refine ct (rs:=[11]) (by kernel_rfl) (by simp) (Zw.2 ⟨?_,fun _ h=>absurd h Zp⟩);refine cF I ?_
    (refine ab (ag (.of I) (At.mW .here c1)) I<|Jn ?_)
    refine dd 12 I iU iU iU (fun w ρ=>rfl) (fun w=>(au (.of I) (.of I) I (by omega) (by omega) bn)) I ?_;refine ct (rs:=[13]) (by kernel_rfl) (by simp) (Zw.2 ⟨?_,fun _ h=>absurd h Zp⟩);refine cF I ?_
    with_reducible apply an
    case hx=>exact Is.of I
    case hy=>exact Is.of I
    case ht=>exact .here
    case hv=>exact I
    case hl=>rfl
    case h1=>exact aM I dT
    case h2=>exact tN
    case he=>exact Lo
    refine Jn ?_;refine dd 14 I iU iU iU (fun w ρ=>rfl) (fun w=>(au (.of I) (.of I) I (by omega) (by omega) bn)) I ?_;refine ct (rs:=[15]) (by kernel_rfl) (by simp) (Zw.2 ⟨?_,fun _ h=>absurd h Zp⟩);refine cF I ?_
    with_reducible apply an
    case hx=>exact Is.of I
    case hy=>exact Is.of I
    case ht=>exact .here
    case hv=>exact I
    case hl=>rfl
    case h1=>exact aM I dT
    case h2=>exact tM
    case he=>exact S0
    refine Jn ?_
    with_reducible refine cM (by kernel_rfl) ?_
    refine Jj<|Jt<|Jg<|Jv I<|JB I (by omega)<|Jv I<|JS I (by omega)<|Ja I<|Ja I<|Jn ?_;apply aL (k+1) (by omega) (by omega)
    case hs1=>exact .cons I (.L5 I (by congr 1;omega) (.cons I .nil))
    case ht=>exact ng
  ·refine cF I ?_
   (refine ab (ag (.of I) (At.mW .here c1)) I<|Jn ?_)
   ·refine ct (rs:=[7]) (by kernel_rfl) (by simp) (Zw.2 ⟨?_,fun _ h=>absurd h Zp⟩);refine cF I ?_
    (refine ab (ag (.of I) (At.mW .here c2)) I<|Jn ?_)
    refine dd 12 I iU iU iU (fun w ρ=>rfl) (fun w=>(au (.of I) (.of I) I (by omega) (by omega) bn)) I ?_;refine ct (rs:=[13]) (by kernel_rfl) (by simp) (Zw.2 ⟨?_,fun _ h=>absurd h Zp⟩);refine cF I ?_
    with_reducible apply an
    case hx=>exact Is.of I
    case hy=>exact Is.of I
    case ht=>exact .here
    case hv=>exact I
    case hl=>rfl
    case h1=>exact aM I dT
    case h2=>exact tN
    case he=>exact Lo
    refine Jn ?_;refine dd 14 I iU iU iU (fun w ρ=>rfl) (fun w=>(au (.of I) (.of I) I (by omega) (by omega) bn)) I ?_;refine ct (rs:=[15]) (by kernel_rfl) (by simp) (Zw.2 ⟨?_,fun _ h=>absurd h Zp⟩);refine cF I ?_
    with_reducible apply an
    case hx=>exact Is.of I
    case hy=>exact Is.of I
    case ht=>exact .here
    case hv=>exact I
    case hl=>rfl
    case h1=>exact aM I dT
    case h2=>exact tM
    case he=>exact S0
    refine Jn ?_
    with_reducible refine cM (by kernel_rfl) ?_
    refine Jj<|Jt<|Jg<|Jv I<|JB I (by omega)<|Jv I<|JS I (by omega)<|Ja I<|Ja I<|Jn ?_;apply aL (k+1) (by omega) (by omega)
    case hs1=>exact .cons I (.L5 I (by congr 1;omega) (.cons I .nil))
    case ht=>exact ng
 ·have YE:tu m (s1 (swp B m k))=tu m (s1 fun i=>B (m-1-i)):=mJ fun i hi=>by
   unfold s1 swp;by_cases e:i<k\/m-k<=i
   ·rw [if_pos e]
   ·rw [if_neg e];show [Value.string (B i)]=[Value.string (B (m-1-i))];rw [show m-1-i=i by omega]
  rw [YE];have Gc:=ir (oF (fun i=>B (m-1-i)) m)
  refine cH (n:=m) (cap:=cap) (sz:=1) (show Take _ (bo g (.cells ((tu m (s1 fun i=>B (m-1-i)))++cur).toArray 9 (0,0))) _ by exact .here) dp sU (by rw [Zg,Gc];rw [Zg,Qd] at hsz;omega) Gc ?_;refine Jq<|Jr<|Jv I<|Jv I<|JA I<|Jn<|Jc I fun ar=>Jp<|Jl<|Jo ?_
  with_reducible first|apply aR|apply aS
  case he=>exact nS I
  case hR=>
   intro w' aA;exact aD () trivial (by exact .h1 .nil) aA I
theorem FH (l:List ByteArray):aJ l=tu l.length (s1 fun i=>l.getD i ⟨#[]⟩):=by
 rw [Ea];apply Zan;intro k;have h1:((List.range l.length).map (s1 fun i=>l.getD i ⟨#[]⟩)).flatten=(List.range l.length).map fun i=>Value.string (l.getD i ⟨#[]⟩):=by
  have:=ly ((List.range l.length).map fun i=>Value.string (l.getD i ⟨#[]⟩))
  rw [Zat] at this;exact this
 rw [h1];unfold aJ;by_cases h:k<l.length
 ·simp [h,Zk]
 ·simp [h]
theorem Nv (l:List ByteArray):aJ l.reverse=tu l.length (s1 fun i=>l.getD (l.length-1-i) ⟨#[]⟩):=by
 rw [FH,List.length_reverse];apply mJ;intro i hi;show [Value.string (l.reverse.getD i ⟨#[]⟩)]=[Value.string (l.getD (l.length-1-i) ⟨#[]⟩)];rw [Zk,Zk,List.getElem?_reverse hi]
theorem En {v:Value} {l:List ByteArray} {n:Nat} (hl:n=l.length) (hm:n<=1000000) (hn:fp.Nodup) (hs:cC (hp w) [row 9 1 v n (aJ l)] fp) :
  bb T_ 117 [v] w fp (fun _:Unit=>True) (fun _=>.tuple #[]) (fun _=>[row 9 1 v n (aJ l.reverse)]):=by
 subst hl;by_cases h0:0<l.length
 ·rw [FH] at hs;rw [Nv];exact JO h0 hm hn hs
 ·obtain rfl:l=[]:=Z5 (by omega);show bb T_ 117 [v] w fp (fun _:Unit=>True) (fun _=>.tuple #[]) (fun _=>[row 9 1 v 0 []])
  replace hs:cC (hp w) [row 9 1 v 0 []] fp:=hs
  refine dU func117 I I hn hs ?_;refine aY (E:=9) (sz:=1) (by exact .here) fun a cp e=>?_;subst e;refine Jr<|Jv I<|JI I<|JS I (by omega)<|Ja I<|Ja I<|Jn<|J0 ?_;refine a7 (fun _:Nat=>True) (fun k=>[(2,.q 0),(3,.q (-1)),(0,.slice a 0 cp)]) (fun k=>[row 9 1 (.slice a 0 cp) 0 []]) (fun k=>k) ?_ ?_
  ·apply aI 0 trivial
   case hs1=>exact cu
   case ht=>exact ng
  intro k _;refine Jq<|Jr<|Jv I<|Jv I<|JA I<|Jn<|Jc I fun ar=>Jp<|Jl<|Jo ?_
  with_reducible first|apply aR|apply aS
  case he=>exact nS I
  case hR=>
   intro w' aA;exact aD () trivial (by exact .h1 .nil) aA I
theorem Mt {r:Ro} {s d t p:Value} (v:Int) (o:ByteArray) {y:Nat×Nat×Nat} {w:World} {fp:List Nat} (jv:fp.Nodup) (hs:cC (hp w) [bo y.1 (.cells #[.string o] 9 (0,0)),JP y.2.1 r s d t p,bo y.2.2 (.cells #[.q v] 3 (0,0))] fp)
  (h:RR w r s d t p) (hO:RO fp r s d t p) (cO:r.ti.length<=1000000) :
  bb T_ 221 [.z,.func (.func 222) #[] #[.pointer (some ⟨y.1,0,none⟩),.pointer (some ⟨y.2.1,0,none⟩),.pointer (some ⟨y.2.2,0,none⟩)]] w fp (fun _:Value=>True) id (fun v1=>[row 9 1 v1 (eX r.po v (r.ti.length+1) o).length (aJ (eX r.po v (r.ti.length+1) o))]):=by
 have hlen:=kd r.po v (r.ti.length+1) o;refine dU func221 I I jv hs ?_;refine Jr<|Jy I I fun _ _=>Ja I<|Jn<|Jq<|Jr<|Jv I<|Jn<|J0 ?_;rename_i b2 tM;refine aP 9 1 ?_
 refine jn (ps:=[7]) (f:=222) (first:=[]) (cap:=[.pointer (some ⟨y.1,0,none⟩),.pointer (some ⟨y.2.1,0,none⟩),.pointer (some ⟨y.2.2,0,none⟩)]) (ι:=Nat×Value) (κ:=Empty) (rst:=[]) ?hg
  [bo y.1 (.cells #[.string o] 9 (0,0)),JP y.2.1 r s d t p,bo y.2.2 (.cells #[.q v] 3 (0,0))] (xG r.po v (r.ti.length+1) o) ?hit
  (fun k x=>x.1=k/\k<=(eX r.po v (r.ti.length+1) o).length)
  (fun x=>[bo b2 (.cells #[x.2] 32 (0,0)),row 9 1 x.2 x.1 (aJ ((eX r.po v (r.ti.length+1) o).take x.1))])
  (fun _=>False) (fun _=>[]) (fun _=>.ret) (0,.z) ⟨I,Zi _⟩ ?ht ?hlen ?hps ?round ?kn ?kj
 case hg=>exact Is.of I
 case hit=>intro w' aA;exact Ez v o h hO cO
 case ht=>
  exact .cons (.there .here) (.h4 .nil)
 case hlen=>intro vs oQ;obtain ⟨x,_,rfl⟩:=Zo.1 oQ;rfl
 case hps=>intro t ht;simp only [ZO,Zp,or_false] at ht;subst ht;exact Zay rfl
 case kj=>intro y;cases y
 case kn=>
  rintro ⟨n,v1⟩ D ⟨hq,_⟩;dsimp only [Zb,Za] at hq ⊢;rw [rM] at hq;subst hq;rw [ZL];refine Jj<|Jt<|Jr<|JL I .here I<|Ja I<|Jn<|Je ?_;refine aY (E:=9) (sz:=1) (by exact Take.there .here) fun va vc e=>?_;subst e
  skip
  with_reducible first|apply aR|apply aS
  case he=>exact dH I I
  case hR=>
   intro w' aA;exact aD (.slice va (eX r.po v (r.ti.length+1) o).length vc) trivial (by exact .cons (.there .here) .nil) aA I
 case round=>
  rintro l2 rc W Wr k ⟨n,v1⟩ vs hsz hk ⟨hq,O0⟩ hB hF;dsimp only at hq;subst hq;obtain ⟨a,hit,rfl,C0⟩:=Ey hk;obtain ⟨aN,Lk⟩:=Zm.1 C0;have htk:aJ ((eX r.po v (r.ti.length+1) o).take (n+1))=aJ ((eX r.po v (r.ti.length+1) o).take n)++[.string a]:=by rw [Zn aN,Lk,fw];rfl
  have xk:(aJ ((eX r.po v (r.ti.length+1) o).take n)).length=n*1:=by rw [dq,ZaI (by omega),Zap]
  dsimp only [List.zip_cons_cons,List.zip_nil_right,mw,Zb,Za];refine Jg<|Ja I<|Jn ?_
  with_reducible apply mI
  case ht=>exact .here
  refine aY (E:=9) (sz:=1) bF fun v1 v2 e=>?_;subst e;refine J0<|Jg<|JL I (.there .here) I<|Jv I<|bu (aC (.o I .nil) I I I I) I fun _ _=>?_;refine bK (.of I) (.of I) cA .here ak (by rfl) (eL I) (by rfl) (by rfl) (by rfl) fa (by rfl) ?_;intro v';refine aY (by exact .here) fun a' ic e=>?_;subst e
  (refine an (.of I) (.of I) cA I I (eL I) (bG I) ak<|Jx<|Jj ?_)
  apply l5 (n+1,.slice a' (n+1) ic)
  case ht=>exact cA
  case hx=>exact ⟨I,aN⟩
  case h2=>
   show bj _ [bo b2 (.cells #[.slice a' (n+1) ic] 32 (0,0)),row 9 1 (.slice a' (n+1) ic) (n+1) (aJ ((eX r.po v (r.ti.length+1) o).take (n+1)))] _;rw [htk];exact .h2 .nil
theorem L6 {r:Ro} {s d t p:Value} (v:Int) (o:ByteArray) {y:Nat×Nat×Nat} {w:World} {fp:List Nat} (jv:fp.Nodup) (hs:cC (hp w) [bo y.1 (.cells #[.string o] 9 (0,0)),JP y.2.1 r s d t p,bo y.2.2 (.cells #[.q v] 3 (0,0))] fp)
  (h:RR w r s d t p) (hO:RO fp r s d t p) (cO:r.ti.length<=1000000) :
  bb T_ 115 [.func (.func 222) #[] #[.pointer (some ⟨y.1,0,none⟩),.pointer (some ⟨y.2.1,0,none⟩),.pointer (some ⟨y.2.2,0,none⟩)]] w fp (fun _:Value=>True) id (fun v1=>[row 9 1 v1 (eX r.po v (r.ti.length+1) o).length (aJ (eX r.po v (r.ti.length+1) o))]):=by
 refine dU func115 I I jv hs ?_;refine Jr<|Ja I<|Ji<|Jv I ?_
 with_reducible apply eH (As:=[bo y.1 (.cells #[.string o] 9 (0,0)),JP y.2.1 r s d t p,bo y.2.2 (.cells #[.q v] 3 (0,0))])
 case hr=>exact ba
 case hd=>rfl
 case ht=>exact ng
 case hc=>
  intro w1 BE aG uf hs1 DN _;exact Mt v o uf hs1 (h.jE hO aG.keeps) (h.out hO DN) cO
 intro v1 _;dsimp only [id_eq,Zb,Za];refine Ja I<|Jn<|Je ?_
 with_reducible first|apply aR|apply aS
 case he=>exact dH I I
 case hR=>
  intro w' aA;exact aD v1 trivial (by exact .h1 .nil) aA I
def BJ (r:Ro) (v:Int) (o:ByteArray):Int:=aW [ew r,DH r v,mB r o]
def oz (r:Ro) (v:Int) (o:ByteArray):List ByteArray:=if eX r.po v (r.ti.length+1) o=[] then [] else (eX r.po v (r.ti.length+1) o).reverse++[o]
def DY (r:Ro) (v:Int) (o:ByteArray):List ByteArray:=if BJ r v o≠0 then [] else oz r v o
theorem PQ {r:Ro} {s d t p:Value} (v:Int) (o:ByteArray) {w:World} (h:RR w r s d t p) (cO:kE r):bb T_ 22 [RA r s d t p,.q v,.string o] w [] (fun _:Value=>True) (fun x=>.tuple #[x,.q (BJ r v o)]) (fun x=>[row 9 1 x (DY r v o).length (aJ (DY r v o))]):=by
 obtain ⟨h1,h2,h3,h4⟩:=h.one;have aiv:=cO.2.2;have dD:∀ w',aK [] w w'->aj T_ 34 [.agg #[.int .i64 r.lv,.int .i64 r.ma,s,d,t,p]] w' (.int .i64 (ew r)):=fun w' hk=>dR (h.keeps hk) cO
 have hle:∀ w',aK [] w w'->aj T_ 114 [.agg #[.q r.lv,.q r.ma,s,d,t,p],.q v] w' (.q (DH r v)):=fun w' hk=>kS v (h.keeps hk)
 have lR:∀ w',aK [] w w'->aj T_ 112 [.agg #[.q r.lv,.q r.ma,s,d,t,p],.string o] w' (.q (mB r o)):=fun w' hk=>dY o (h.keeps hk)
 unfold RA;refine aT func22 I I ?_;refine Jr<|Jy I I fun _ _=>Ja I<|Ja I<|Jn<|Jq<|Jq ?_;rename_i b3 uR
 with_reducible refine cW 9 (by kernel_rfl) ?_
 (refine ao (cK .here) I<|a8 bz I (fun w' aA=>(dD w' (Mem.keeps aA)))<|ao (cK .here) I<|ao lX I<|a8 ba I (fun w' aA=>(hle w' (Mem.keeps aA)))<|ao (cK .here) I<|ao lX I<|a8 ba I (fun w' aA=>(lR w' (Mem.keeps aA)))<|eC (aC (.o I (.o I (.o I .nil))) I I I I) I I ?_)
 with_reducible refine dw I fun bq nf=>?_
 (refine ai bz I (fun w' aA=>(dG (Mem.dh aA .here I I) (cm.cons (cm.cons (cm.cons cm.nil)))))<|Ja I<|Ji<|Jv I<|JD I<|Jn<|gB I (fun ar=>?_) fun ar=>?_;refine Jr<|Jv I<|Ja I<|Ja I<|Jn<|Ju ?_;rotate_left;refine Jk<|Jr<|ab (cK (.there .here)) I<|Jv I<|Jv I ?_;rotate_right)
 ·have e1:DY r v o=[]:=if_pos ar;rw [e1];refine aP 9 1 ?_
  with_reducible first|apply aR|apply aS
  case he=>exact gq I I I
  case hR=>
   intro w' aA;exact aD (.z) trivial (by exact .h1 .nil) aA I
 have e1:DY r v o=oz r v o:=if_neg ar;have e0:aW [ew r,DH r v,mB r o]=0:=Zq.1 ar;have e2:BJ r v o=0:=e0;clear ar;rw [e1,e2];refine JN eK I (fun w1 aG=>vG v o (h.keeps aG.keeps)) ?_;intro y _;dsimp only [id_eq,Zb,Za]
 skip
 with_reducible apply eH (As:=[bo y.1 (.cells #[.string o] 9 (0,0)),JP y.2.1 r s d t p,bo y.2.2 (.cells #[.q v] 3 (0,0))])
 case hr=>exact bz
 case hd=>rfl
 case ht=>exact ng
 case hc=>
  intro w1 BE aG uf hs1 DN _;exact L6 v o uf hs1 (h.keeps aG.keeps) (h.out (md:=[]) RO.nil (fun b hb=>DN b hb)) (by omega)
 intro v1 _;have hlen:=kd r.po v (r.ti.length+1) o;dsimp only [id_eq,Zb,Za];refine aY (E:=9) (sz:=1) (by exact .here) fun va vc e=>?_;subst e;unfold oz;generalize hL:eX r.po v (r.ti.length+1) o=L at hlen ⊢
 (refine Ja I<|Jn<|Jq<|Jr<|Jv I<|JI I<|JC I<|Jn<|gB I (fun ar=>?_) fun ar=>?_;refine Jr<|Ja I<|Ja I<|Jn<|Ju ?_;rotate_left;refine Jk<|Jr<|Jv I ?_;rotate_right)
 ·have Ld:L=[]:=Z5 (by omega);rw [if_pos Ld];refine aP 9 1 ?_
  with_reducible first|apply aR|apply aS
  case he=>exact gq I I I
  case hR=>
   intro w' aA;exact aD (.z) trivial (by exact .h1 .nil) aA I
 have hnn:¬ L=[]:=fun e=>by rw [e] at ar;exact ar I
 rw [if_neg hnn]
 with_reducible apply eH (As:=[row 9 1 (.slice va L.length vc) L.length (aJ L)])
 case hr=>exact bz
 case hd=>rfl
 case ht=>exact ng
 case hc=>
  intro w1 BE aG uf hs1 DN _;exact En I (by omega) uf hs1
 intro _ _;have bh:aJ (L.reverse++[o])=aJ L.reverse++[.string o]:=by rw [fw];rfl
 have hlr:(aJ L.reverse).length=L.length*1:=by rw [dq,List.length_reverse,Zap]
 have Gc:(L.reverse++[o]).length=L.length+1:=by simp
 rw [Gc,bh];dsimp only [id_eq,Zb,Za];refine Ji<|Jv I<|Jv I<|bu (aC (.o I .nil) I I I I) I fun _ _=>?_;refine bK (.of I) (.of I) (.there .here) .here ak (by rfl) (eL I) (by rfl) (by rfl) (by rfl) fa (by rfl) ?_;intro v';refine Ja I<|Ja I<|Jn<|Je ?_
 with_reducible first|apply aR|apply aS
 case he=>exact gq I I I
 case hR=>
  intro w' aA;exact aD v' trivial (by exact .h1 .nil) aA I
theorem Hh {α:Type} {R:α->α->Prop} (ht:∀ a b c,R a b->R b c->R a c):∀ {l:List α},(∀ k (h:k+1<l.length),R l[k] l[k+1])->l.Pairwise R:=by
 intro l h;rw [Zaa];intro i j hi hj xK;obtain ⟨d,rfl⟩:∃ d,j=i+1+d:=⟨j-(i+1),by omega⟩;clear xK
 induction d with
 | zero=>exact h i hj
 | succ d ih=>exact ht _ _ _ (ih (by omega)) (h (i+1+d) hj)
theorem pg {a b c d:Int}:¬ lT [a,b] [c,d]<=0↔c<a\/c=a/\d<b:=by
 unfold lT;by_cases h1:kC a c=0
 ·rw [if_neg (not_not_intro h1)];have:=iG.1 h1;unfold lT;by_cases h2:kC b d=0
  ·rw [if_neg (not_not_intro h2)];have:=iG.1 h2;unfold lT;omega
  ·rw [if_pos h2];unfold kC at h2 ⊢;split at h2 <;> split <;> first | omega | (split <;> omega)
 ·rw [if_pos h1];have DO:a≠c:=fun e=>h1 (iG.2 e)
  unfold kC;split
  ·omega
  ·split <;> omega
theorem KC {r:Ro} (hd:DB r) (h6:r.ti.length<=6):qw r:=by
 obtain ⟨_,_,_,d1,d2,d3⟩:=hd.parts;exact ⟨d1,d2,d3,by unfold cN;rw [Zd];exact h6⟩
structure tY (r:Ro):Prop where
 lim:1<=r.lv/\r.lv<=3/\1<=r.ma/\r.ma<=4
 Ii:DB r
 len:r.sr.length<=8/\r.de.length<=8/\r.ti.length<=6
 sm:∀ x∈r.sr,0<=x.mx/\x.mx<r.ma
 dm:∀ x∈r.de,0<=x.mx/\x.mx<r.ma
 tm:∀ x∈r.ti,(0<=x.fr/\x.fr<r.ma)/\(0<=x.to/\x.to<r.ma)/\x.fr≠x.to
 val:gT r r.po
theorem tY.uL {r:Ro} (h:tY r):qw r:=KC h.Ii h.len.2.2
theorem fI {r:Ro} {m:Int}:fj r m=0↔0<=m/\m<r.ma:=by
 unfold fj;rw [bI (by decide)];simp
theorem Kv {r:Ro} (hd:∀ x∈r.de,0<=x.mx) (ht:∀ x∈r.ti,0<=x.fr) {s:ByteArray} (h:0<=jO r s):s∈bU r\/s∈cN r:=by
 by_cases h1:s∈bU r
 ·exact .inl h1
 ·by_cases h2:s∈cN r
  ·exact .inr h2
  ·unfold jO at h;have f1:=cg.2 h1;have f2:=cg.2 h2;rw [if_neg (by omega),if_neg (by omega)] at h;omega
theorem KW {r:Ro} {s:ByteArray} (h:0<=jP r s):s∈cG r\/s∈cN r:=by
 by_cases h1:s∈cG r
 ·exact .inl h1
 ·by_cases h2:s∈cN r
  ·exact .inr h2
  ·unfold jP at h;have f1:=cg.2 h1;have f2:=cg.2 h2;rw [if_neg (by omega),if_neg (by omega)] at h;omega
theorem nA {r:Ro} {x:Po} (h:my r x=0):(0<=x.lv/\x.lv<r.lv)/\0<=jO r x.ou/\0<=jP r x.ip/\jO r x.ou=jP r x.ip:=by
 unfold my at h;rw [bS] at h;have h1:=gC.1 (h _ Zr);have h2:=(bI (by decide)).1 (h (bQ (decide (jO r x.ou<0)) 10) (by simp));have h3:=(bI (by decide)).1 (h (bQ (decide (jP r x.ip<0)) 10) (by simp));have h4:=(bI (by decide)).1 (h (bQ (decide (jO r x.ou≠jP r x.ip)) 24) (by simp));simp only [decide_eq_false_iff_not,ne_eq,Zq] at h2 h3 h4;exact ⟨by omega,by omega,by omega,h4⟩
theorem lG {r:Ro} {q:Int->Bool}:j5 r q=false↔∀ v:Int,0<=v->v<r.lv->q v=false:=by
 unfold j5;rw [Zac];constructor
 ·intro h v h0 h1;have:=h v.toNat (ZP.2 (by omega));rw [show ((v.toNat:Nat):Int)=v by omega] at this;simpa using this
 ·intro h i hi;have:=ZP.1 hi;rw [h i (by omega) (by omega)];decide
theorem rO {r:Ro} (h:ew r=0):tY r:=by
 obtain ⟨h1,h2,h3,h4⟩:=mC h;obtain ⟨jZ,hlen,hs,hd,ht⟩:=An h2;have hdm:∀ x∈r.de,0<=x.mx/\x.mx<r.ma:=fun x hx=>fI.1 (hd x hx)
 have Xm:∀ x∈r.ti,(0<=x.fr/\x.fr<r.ma)/\(0<=x.to/\x.to<r.ma)/\x.fr≠x.to:=fun x hx=>by
  have:=ht x hx;unfold nk at this;rw [bS] at this;have g3:=(bI (by decide)).1 (this (bQ (decide (x.fr=x.to)) 24) (by simp));exact ⟨fI.1 (this _ (by simp)),fI.1 (this _ (by simp)),by simpa using g3⟩
 have hp:∀ k (hk:k<r.po.length),my r r.po[k]=0/\¬ lT [(r.po[k]).lv,dI r (r.po[k]).ou] (Fh r (if k=0 then none else r.po[k-1]?))<=0:=fun k hk=>by
  have:=dV.1 h3 k hk;rw [rL hk] at this;by_cases e:my r r.po[k]=0
  ·rw [if_neg (not_not_intro e)] at this;by_cases e2:lT [(r.po[k]).lv,dI r (r.po[k]).ou] (Fh r (if k=0 then none else r.po[k-1]?))<=0
   ·rw [if_pos e2] at this;exact absurd this (by decide)
   ·exact ⟨e,e2⟩
  ·rw [if_pos e] at this;exact absurd this e
 have OS:∀ p∈r.po,my r p=0:=fun p nQ=>by
  obtain ⟨k,hk,rfl⟩:=Zx nQ;exact (hp k hk).1
 have SQ:∀ p∈r.po,0<=p.lv/\p.lv<r.lv:=fun p nQ=>(nA (OS p nQ)).1
 have hti:(cN r).length=r.ti.length:=by unfold cN;rw [Zd]
 unfold AF at h4;rw [bS] at h4;have VZ:=lG.1 ((bI (by decide)).1 (h4 (bQ (j5 r fun v=>r.ti.any (MZ r v)) 33) (by simp)))
 have YP:=lG.1 ((bI (by decide)).1 (h4 (bQ (j5 r fun v=>r.ti.any (Ku r v)) 32) (by simp)))
 have Hz:∀ v:Int,¬ (0<=v/\v<r.lv)->∀ o,ed r.po v o=none:=fun v hv o=>iy.2 fun p nQ e=>hv (e.1 ▸ SQ p nQ)
 refine ⟨vR h1,jZ,hlen,fun x hx=>fI.1 (hs x hx),hdm,Xm,?_,SQ,?_,?_,?_,?_,?_⟩
 ·refine Hh (R:=fun a b=>pQ r a b=true) (fun a b c h h'=>yL h h') fun k hk=>?_;have:=(hp (k+1) hk).2;rw [if_neg (by omega),ZaE,Zc (by omega)] at this;have:=pg.1 this;unfold pQ;simp only [ZQ,Zl,decide_eq_true_eq];exact this
 ·exact fun p nQ=>Kv (fun x hx=>(hdm x hx).1) (fun x hx=>(Xm x hx).1.1) (nA (OS p nQ)).2.1
 ·exact fun p nQ=>KW (nA (OS p nQ)).2.2.1
 ·exact fun p nQ=>(nA (OS p nQ)).2.2.2
 ·rintro v ⟨t,Hw,hc⟩;rw [hti] at hc;by_cases hv:0<=v/\v<r.lv
  ·obtain ⟨x,hx,rfl⟩:=Zo.1 Hw;have:=Zac.1 (VZ v hv.1 hv.2) x hx;exact this (dZ.2 hc)
  ·rw [ph (Hz v hv t)] at hc;cases hc
 ·intro v t Hw;by_cases hv:0<=v/\v<r.lv
  ·obtain ⟨x,hx,rfl⟩:=Zo.1 Hw;have:=Zac.1 (YP v hv.1 hv.2) x hx;unfold Ku at this;cases h1:ig r.po v x.nm <;> cases h2:nh r.po v x.nm <;> rw [h1,h2] at this <;> simp at this <;> simp
  ·have e1:ig r.po v t=false:=by unfold ig;rw [Hz v hv t];rfl
   have e2:nh r.po v t=false:=by
    unfold nh;rw [Zac];intro p nQ e;unfold AL at e;simp only [Zl,decide_eq_true_eq] at e;exact hv (e.1 ▸ SQ p nQ)
   rw [e1,e2]
theorem th {r:Ro} (hn:qw r) (h:gT r r.po) (v:Int) (o:ByteArray):k8 r v o=qP r.po v (cG r) o:=by
 have hti:(cN r).length=r.ti.length:=by unfold cN;rw [Zd]
 have:=HS hn h v o;rw [hti] at this;unfold k8 qP;rw [this];by_cases hm:fR r.po v 7 o∈cG r
 ·have h0:=eE hm;obtain ⟨x,hx,e⟩:=Zo.1 hm;rw [if_pos (ZN.2 ⟨x,hx,by simpa using e⟩),if_neg (by omega)]
 ·have h0:=cg.2 hm;rw [if_neg (fun e=>by
   obtain ⟨x,hx,e⟩:=ZN.1 e;exact hm (Zo.2 ⟨x,hx,by simpa using e⟩)),if_pos h0]
end Go.Proofs.A1
namespace Go.SL
open Go
def kH (E:TypeId) (sz:Nat) (v:Value) (n:Nat) (xs:List Value):bd where
 sat h fp:=xs.length=n*sz/\((fp=[]/\v=.z/\n=0) \/
  ∃ g off cap cur,fp=[g]/\v=.slice (some ⟨g,off,none⟩) n cap/\h g=some (.cells cur E (0,0))/\n<=cap/\cap<=maxLen/\off+cap*sz<=cur.size/\(cur.toList.drop off).take (n*sz)=xs)
 loc:=by
  rintro h h' fp ⟨hl,h1⟩ hb;refine ⟨hl,h1.imp id ?_⟩;rintro ⟨g,off,cap,cur,rfl,rfl,hg,r⟩;exact ⟨g,off,cap,cur,I,I,by rw [hb g (by simp)];exact hg,r⟩
 own:=by
  rintro h fp ⟨hl,h1⟩ b hb;rcases h1 with ⟨rfl,_⟩ | ⟨g,off,cap,cur,rfl,rfl,hg,_⟩
  ·cases hb
  ·rw [ZE] at hb;subst hb;exact ⟨_,hg⟩
theorem oG {h:Nat->Option Obj} {E:TypeId} {sz:Nat} {v:Value} {n:Nat} {xs:List Value} {fp:List Nat} (hr:(row E sz v n xs).sat h fp):(kH E sz v n xs).sat h fp:=by
 obtain ⟨e,hl,h1⟩:=hr;rcases h1 with ⟨rfl,h0⟩ | ⟨g,cap,cur,rfl,hg,h2,h3,h4,h5⟩
 ·exact ⟨hl,.inl ⟨by simpa [Value.ownBlock] using e,I,h0⟩⟩
 ·exact ⟨hl,.inr ⟨g,0,cap,cur,by simpa [Value.ownBlock] using e,I,hg,h2,h3,by omega,by simpa using h5⟩⟩
section
variable {c:Cx} {D:List Nat} {sl:aH} {hs hs':List bd} {X:Act->World->Prop} {E:TypeId} {sz:Nat} {v:Value} {n:Nat} {xs:List Value}
theorem uw {A B:bd} (ht:Take hs A hs') (hc:∀ h fp,A.sat h fp->B.sat h fp) (k:Tr c D sl (B::hs') X):Tr c D sl hs X:=fun a w bh=>
 k a w (bh.heap (by
  obtain ⟨kk,fp,jv,⟨f1,f2,rfl,h1,h2⟩,hb⟩:=bh.mem.take (ht.append _);exact ⟨kk,f1++f2,jv,⟨f1,f2,I,hc _ _ h1,h2⟩,hb⟩))
theorem GV (ht:Take hs (row E sz v n xs) hs') (k:Tr c D sl (kH E sz v n xs::hs') X):Tr c D sl hs X:=uw ht (fun _ _ h=>oG h) k
theorem yl (ht:Take hs (kH E sz v n xs) hs') (k:∀ a cap,v=.slice a n cap->n<=cap->cap<=maxLen->Tr c D sl hs X):Tr c D sl hs X:=fun a w bh=>by
 obtain ⟨kk,fp,jv,⟨f1,f2,rfl,⟨_,h1⟩,h2⟩,hb⟩:=bh.mem.take (ht.append _);rcases h1 with ⟨_,e,h0⟩ | ⟨g,off,cap,cur,_,e,_,hc,hm,_⟩
 ·subst h0;exact k none 0 e (Zz _) (by unfold maxLen;omega) a w bh
 ·exact k _ cap e hc hm a w bh
theorem BO (ht:Take hs (kH E sz v n xs) hs') (hn:0<n)
  (k:∀ g off cap pre cur,v=.slice (some ⟨g,off,none⟩) n cap->pre.length=off->n<=cap->cap<=maxLen->off+cap*sz<=(pre++xs++cur).length->xs.length=n*sz->Tr c D sl (bo g (.cells (pre++xs++cur).toArray E (0,0))::hs') X):Tr c D sl hs X:=fun a w bh=>by
 obtain ⟨kk,fp,jv,⟨f1,f2,rfl,⟨hl,h1⟩,h2⟩,hb⟩:=bh.mem.take (ht.append _);rcases h1 with ⟨_,_,h0⟩ | ⟨g,off,cap,cur,rfl,e,hg,hc,hm,hfit,htk⟩
 ·omega
 ·have hsz:n*sz<=cap*sz:=Z4 _ hc;have Qv:cur.size=cur.toList.length:=by simp
  have nI:cur=(cur.toList.take off++xs++cur.toList.drop (off+n*sz)).toArray:=by
   apply Array.ext';show cur.toList=_;rw [<- htk]
   conv=>lhs;rw [<- ZV off cur.toList]
   rw [Zh];congr 1
   conv=>lhs;rw [<- ZV (n*sz) (cur.toList.drop off)]
   rw [Zbi]
  refine k g off cap (cur.toList.take off) (cur.toList.drop (off+n*sz)) e ?_ hc hm ?_ hl a w (bh.heap ⟨kk,[g]++f2,jv,⟨[g],f2,I,⟨I,by rw [<- nI];exact hg⟩,h2⟩,hb⟩)
  ·rw [Zs];omega
  ·have:=congrArg (fun x:Array Value=>x.toList.length) nI
   simp only [ZaN] at this;rw [<- this];exact hfit
theorem yy {h:Nat->Option Obj} {g off cap:Nat} {pre cur:List Value} {fp:List Nat} (hb:(bo g (.cells (pre++xs++cur).toArray E (0,0))).sat h fp) (hp:pre.length=off) (hc:n<=cap) (hm:cap<=maxLen) (hfit:off+cap*sz<=(pre++xs++cur).length) (hl:xs.length=n*sz):(kH E sz (.slice (some ⟨g,off,none⟩) n cap) n xs).sat h fp:=by
 obtain ⟨e,hg⟩:=hb;refine ⟨hl,.inr ⟨g,off,cap,_,e,I,hg,hc,hm,by rw [Zbs];exact hfit,?_⟩⟩;show ((pre++xs++cur).drop off).take (n*sz)=xs;rw [Zh,<- hp,List.drop_left,<- hl,List.take_left]
theorem BN {g off cap:Nat} {pre cur:List Value} (ht:Take hs (bo g (.cells (pre++xs++cur).toArray E (0,0))) hs') (hp:pre.length=off) (hc:n<=cap) (hm:cap<=maxLen) (hfit:off+cap*sz<=(pre++xs++cur).length) (hl:xs.length=n*sz)
  (k:Tr c D sl (kH E sz (.slice (some ⟨g,off,none⟩) n cap) n xs::hs') X):Tr c D sl hs X:=uw ht (fun _ _ h=>yy h hp hc hm hfit hl) k
theorem BM {a:Option Addr} {cap:Nat} (ht:Take hs (kH E sz (.slice a (n+1) cap) (n+1) xs) hs') (k:Tr c D sl (kH E sz (Go.sliced a 1 (n+1) cap sz) n (xs.drop sz)::hs') X):Tr c D sl hs X:=
 uw ht (fun h fp hr=>by
  obtain ⟨hl,h1⟩:=hr;rcases h1 with ⟨_,_,h0⟩ | ⟨g,off,ic,cur,rfl,e,hg,hc,hm,hfit,htk⟩
  ·omega
  ·obtain ⟨rfl,-,rfl⟩:=Value.slice.inj e;have Gc:(xs.drop sz).length=n*sz:=by rw [ZaS,hl,Zab];omega
   refine ⟨Gc,.inr ?_⟩;have Vb:(cur.toList.drop (off+sz)).take (n*sz)=xs.drop sz:=by
    rw [<- htk,List.drop_take,Zbi,show (n+1)*sz-sz=n*sz by rw [Zab];omega]
   by_cases XH:cap=1
   ·subst XH;have OW:n=0:=by omega
    subst OW;refine ⟨g,off,0,cur,I,?_,hg,Zz _,by omega,by omega,?_⟩
    ·simp [Go.sliced]
    ·rw [<- Vb];simp
   ·refine ⟨g,off+sz,cap-1,cur,I,?_,hg,by omega,by omega,?_,Vb⟩
    ·simp only [Go.sliced,if_neg XH,ZaP,Addr.add,Nat.one_mul,ZaE];by_cases h0:sz=0
     ·rw [if_pos h0,h0];rfl
     ·rw [if_neg h0]
    ·have:cap*sz=(cap-1)*sz+sz:=by
      rw [<- Zab];congr 1;omega
     omega) k
end
end Go.SL
namespace Go.SL
open Go Go.Shelf Go.RowKit Go.Proofs Go.Lib Go.Sort
theorem aK.grown {w w':World} (h:aK [] w w'):∃ q os',w'=Go.Sort.grow (w.drewN q) os':=by
 refine ⟨w'.drawn-w.drawn,w'.heap.extract w.heap.size w'.heap.size,?_⟩;have hd:=h.dr;have hh:w'.heap=w.heap++w'.heap.extract w.heap.size w'.heap.size:=by
  apply Array.ext_getElem?;intro k;by_cases hk:k<w.heap.size
  ·rw [Array.getElem?_append_left hk];exact h.block k hk (by simp)
  ·rw [Array.getElem?_append_right (by omega),Array.getElem?_extract];have hs:=h.size;by_cases eM:k<w'.heap.size
   ·rw [if_pos (by omega)];congr 1;omega
   ·rw [if_neg (by omega),ZbB (by omega)]
 cases w';cases w;have h1:=h.os;have h2:=h.tape;have h3:=h.output;simp only at h1 h2 h3 hh hd;subst h1;subst h2;subst h3;simp only [Go.Sort.grow,World.drewN];congr 1;omega
section
variable {P:Program} {α:Type} [Inhabited α]
theorem wu {enc:α->List Value} {k:Nat} (hk:∀ x,(enc x).length=k) (l:List α):(Go.Sort.flatK enc k l.toArray).toList=(l.map enc).flatten:=by
 have sX:=iQ hk l;apply Zan;intro t;by_cases ht:t<l.length*k
 ·have MW:0<k:=by
   rcases Nat.eq_zero_or_pos k with e | e
   ·rw [e] at ht;omega
   ·exact e
  have h1:t / k<l.length:=by rw [Nat.div_lt_iff_lt_mul MW];exact ht
  have h2:t % k<k:=Nat.mod_lt _ MW;have e3:=LJ hk h1 h2 [];rw [ZS,Nat.div_add_mod' t k] at e3;rw [e3,ZaB];have hsz:t<(Go.Sort.flatK enc k l.toArray).size:=by rw [Go.Sort.size_flatK];simpa using ht
  have e4:(Go.Sort.flatK enc k l.toArray)[t]? = some ((Go.Sort.flatK enc k l.toArray)[t]!):=by
   rw [getElem!_pos _ t hsz];exact getElem?_pos _ t hsz
  rw [e4,Go.Sort.get_flatK _ _ _ _ (by simpa using ht),getElem!_pos l.toArray (t / k) (by simpa using h1)];have h5:t % k<(enc l[t / k]).length:=by rw [hk];exact h2
  rw [Zc h5];congr 1;show (enc (l.toArray[t / k]'_))[t % k]! = _;rw [show l.toArray[t / k]'(by simpa using h1)=l[t / k] from I,getElem!_pos _ (t % k) h5]
 ·rw [Zai (by rw [ZaN,Go.Sort.size_flatK];simpa using ht),Zai (by rw [sX];omega)]
theorem Cw (pre cur vs ws:List Value) (h:ws.length=vs.length):Go.Sort.putCells id pre.length ws.toArray (pre++vs++cur).toArray=(pre++ws++cur).toArray:=by
 apply Array.ext_getElem?;intro j;unfold Go.Sort.putCells;rw [Array.getElem?_mapIdx];simp only [List.getElem?_toArray,Zbs];by_cases h1:j<pre.length
 ·rw [Zh,Zh,ZD h1,ZD h1];rw [Zc h1];simp only [ZaP];rw [if_neg (by omega)]
 ·by_cases h2:j<pre.length+ws.length
  ·have e1:(pre++vs++cur)[j]? = some ((pre++vs++cur)[j]'(by simp;omega)):=Zc _;rw [e1,ZaP,if_pos (by omega)];rw [Zh,ZJ (by omega),ZD (by omega),Zc (by omega)];congr 1;show ws.toArray[j-pre.length]! = _;rw [getElem!_pos ws.toArray (j-pre.length) (by simp;omega)]
   rfl
  ·rw [ZJ (by simp;omega),ZJ (by simp;omega)];simp only [Zg,h];cases cur[j-(pre.length+vs.length)]? with
   | none=>rfl
   | some x =>
    rw [ZaP,if_neg (by omega)]
theorem B3 {ρ:Ren} (L:SlLaysF0.n6 P ρ) {k:Nat} (aE:∀ w,(isAgg (ρ.t 24)).run P w=.ok true w) (zE:∀ w,(Go.sizeOf (ρ.t 24)).run P w=.ok k w) {enc:α->List Value} (hk:∀ x,(enc x).length=k) (h1:∀ x,∀ v∈enc x,v.oneCell'=true) {cf:α->α->Int} (hO:Go.Sort.SWO (ltOf cf))
  {g b cap:Nat} {cb:Array Value} {l:List α} {pre cur:List Value} {E:TypeId} {w:World} (eg:∀ args w,(callFunc g args).run P w=.ok (.enter g args) w) (hb:w.heap[b]? = some (.cells (pre++(l.map enc).flatten++cur).toArray E (0,0))) (hsz:l.length<4611686018427387904)
  (aaz:∀ w',aK [b] w w'->∀ x y:α,Calls P g (#[.agg (enc x).toArray,.agg (enc y).toArray]++cb) w' fun e zq=>e=.returned (.q (cf x y))/\aK [] w' zq) :
  Calls P (ρ.f 6) #[.slice (some ⟨b,pre.length,none⟩) l.length cap,.func (.func g) #[] cb] w fun e w'=>
   e=.returned (.tuple #[])/\∃ l':List α,l'.Perm l/\l'.Pairwise (fun x y=>ltOf cf y x=false)/\aK [b] w w'/\w'.heap[b]? = some (.cells (pre++(l'.map enc).flatten++cur).toArray E (0,0)):=by
 have QA:b<w.heap.size:=(Z2.1 hb).1;have Vq:∀ (m:Nat) (d:Array α) (os:Array Obj),aK [b] w (sortWorldK enc k w b pre.length m d os):=by
  intro m d os;unfold sortWorldK putRowK;refine ⟨I,I,I,Nat.le_add_right _ _,by simp,fun q hq hne=>?_⟩;rw [Go.Sort.heap_grow_old _ _ (by simpa using hq)];have:b≠q:=fun e=>hne (by rw [e];simp)
  simp [Go.Sort.putRow,Go.Sort.mapBlock,Go.Sort.ahead,Zbo,this]
 have hC:CmpLays P g cb enc k cf b pre.length l.toArray.size w:=fun m os dk _ x y=>(aaz _ (Vq m dk os) x y).mono fun e w' ⟨he,xl⟩=>⟨he,xl.grown⟩
 have sX:=iQ hk l;have hH:HoldsK enc k w b pre.length l.toArray:=by
  intro j hj;rw [Go.Sort.size_flatK] at hj;have nZ:j<l.length*k:=by simpa using hj
  refine ⟨?_,by simp [World.frozen?,hb]⟩;have h0:=wu hk l;simp only [World.cell?,hb,Option.isSome_none,ZaT,if_false,List.getElem?_toArray];rw [Zh,ZJ (by omega),Nat.add_sub_cancel_left,ZD (by omega),<- h0,ZaB];have hs:j<(Go.Sort.flatK enc k l.toArray).size:=by rw [Go.Sort.size_flatK];exact hj
  rw [getElem!_pos _ j hs];exact getElem?_pos _ j hs
 have key:=AnyQ.slices_SortFunc L k aE zE enc hk h1 cf hO g cb b pre.length cap l.toArray w eg hC hH QA (by simpa using hsz);refine Calls.mono key ?_;rintro e w' ⟨he,d',m,os,hp,AP,hw⟩;subst hw;obtain ⟨Bx,_,hp3⟩:=hp;have hd:List.Perm d'.toList l:=by
  rw [show (l.toArray.extract 0 l.toArray.size)=l.toArray by simp,show d'.extract 0 l.toArray.size=d' by rw [<- Bx];simp] at hp3;exact hp3
 refine ⟨he,d'.toList,hd,?_,Vq m d' os,?_⟩
 ·rw [Zaa];intro i j hi hj xK;rw [ZaN] at hi hj;have VX:d'.size=l.length:=by rw [Bx];simp
  have:=AP i j (Zi _) xK (by simp;omega);rw [getElem!_pos d' i hi,getElem!_pos d' j hj] at this;simpa using this
 ·unfold sortWorldK putRowK;rw [Go.Sort.heap_grow_old _ _ (by simpa using QA)];have YL:=Cw pre cur (l.map enc).flatten (Go.Sort.flatK enc k d').toList (by
   rw [ZaN,Go.Sort.size_flatK,sX,Bx];simp)
  have XA:=wu hk d'.toList;rw [ZaW] at XA YL;rw [XA] at YL;simp [Go.Sort.putRow,Go.Sort.mapBlock,Go.Sort.ahead,Zbo,hb,Go.Sort.onCells];simpa using YL
end
end Go.SL
namespace Go.Proofs
open Go.Shelf
def Tryz.Ee:Go.Shelf.Ren:=⟨fun | 6=>260 | 15=>245 | 14=>320 | 28=>312 | 29=>313 | 20=>349 | 21=>350 | 22=>351 | 23=>352 | 24=>353 | 25=>354 | 26=>355 | 27=>356 | 46=>376 | 47=>344 | 48=>345 | 49=>377 | 50=>378 | 57=>392 | n=>n,fun | 22=>329 | 24=>244 | 25=>332 | 3=>3 | 39=>318 | 0=>0 | 53=>381 | 55=>383 | 4=>4 | 46=>374 | 45=>373 | 50=>272 | 5=>5 | 9=>9 | 66=>409 | 70=>413 | 76=>428 | 77=>359 | n=>n,fun | n=>n⟩
theorem Tryz.Ef:Go.Proofs.SlLaysF0.n6 Tryz.prog Tryz.Ee:={
 mixed:=by kernel_rfl
 f6:=⟨Tryz.f260.name,by decide,Tryz.func260.trans (congrArg some (by kernel_rfl))⟩
 f14:=⟨Tryz.f320.name,by decide,Tryz.func320.trans (congrArg some (by kernel_rfl))⟩
 f15:=Tryz.func245.trans (congrArg some (by kernel_rfl))
 f20:=⟨Tryz.f349.name,by decide,Tryz.func349.trans (congrArg some (by kernel_rfl))⟩
 f21:=⟨Tryz.f350.name,by decide,Tryz.func350.trans (congrArg some (by kernel_rfl))⟩
 f22:=⟨Tryz.f351.name,by decide,Tryz.func351.trans (congrArg some (by kernel_rfl))⟩
 f23:=⟨Tryz.f352.name,by decide,Tryz.func352.trans (congrArg some (by kernel_rfl))⟩
 f24:=⟨Tryz.f353.name,by decide,Tryz.func353.trans (congrArg some (by kernel_rfl))⟩
 f25:=⟨Tryz.f354.name,by decide,Tryz.func354.trans (congrArg some (by kernel_rfl))⟩
 f26:=⟨Tryz.f355.name,by decide,Tryz.func355.trans (congrArg some (by kernel_rfl))⟩
 f27:=⟨Tryz.f356.name,by decide,Tryz.func356.trans (congrArg some (by kernel_rfl))⟩
 f28:=Tryz.func312.trans (congrArg some (by kernel_rfl))
 f29:=Tryz.func313.trans (congrArg some (by kernel_rfl))
 f46:=⟨Tryz.f376.name,by decide,Tryz.func376.trans (congrArg some (by kernel_rfl))⟩
 f47:=Tryz.func344.trans (congrArg some (by kernel_rfl))
 f48:=Tryz.func345.trans (congrArg some (by kernel_rfl))
 f49:=⟨Tryz.f377.name,by decide,Tryz.func377.trans (congrArg some (by kernel_rfl))⟩
 f50:=⟨Tryz.f378.name,by decide,Tryz.func378.trans (congrArg some (by kernel_rfl))⟩
 f57:=⟨Tryz.f392.name,by decide,Tryz.func392.trans (congrArg some (by kernel_rfl))⟩
 t0:=Tryz.underlying0
 a0:=Tryz.isAgg0
 z0:=Tryz.sizeOf0
 v0:=Tryz.zeroValue0
 t3:=Tryz.underlying3
 a3:=Tryz.isAgg3
 z3:=Tryz.sizeOf3
 v3:=Tryz.zeroValue3
 t4:=Tryz.underlying4
 a4:=Tryz.isAgg4
 z4:=Tryz.sizeOf4
 v4:=Tryz.zeroValue4
 t5:=Tryz.underlying5
 a5:=Tryz.isAgg5
 z5:=Tryz.sizeOf5
 v5:=Tryz.zeroValue5
 t9:=Tryz.underlying9
 a9:=Tryz.isAgg9
 z9:=Tryz.sizeOf9
 v9:=Tryz.zeroValue9
 t22:=Tryz.underlying329
 a22:=Tryz.isAgg329
 z22:=Tryz.sizeOf329
 v22:=Tryz.zeroValue329
 t25:=Tryz.underlying332
 a25:=Tryz.isAgg332
 z25:=Tryz.sizeOf332
 v25:=Tryz.zeroValue332
 t39:=Tryz.underlying318
 a39:=Tryz.isAgg318
 z39:=Tryz.sizeOf318
 v39:=Tryz.zeroValue318
 t45:=Tryz.underlying373
 a45:=Tryz.isAgg373
 z45:=Tryz.sizeOf373
 v45:=Tryz.zeroValue373
 t46:=Tryz.underlying374
 a46:=Tryz.isAgg374
 z46:=Tryz.sizeOf374
 v46:=Tryz.zeroValue374
 t50:=Tryz.underlying272
 a50:=Tryz.isAgg272
 z50:=Tryz.sizeOf272
 v50:=Tryz.zeroValue272
 t53:=Tryz.underlying381
 a53:=Tryz.isAgg381
 z53:=Tryz.sizeOf381
 v53:=Tryz.zeroValue381
 t55:=Tryz.underlying383
 a55:=Tryz.isAgg383
 z55:=Tryz.sizeOf383
 v55:=Tryz.zeroValue383
 t66:=Tryz.underlying409
 a66:=Tryz.isAgg409
 z66:=Tryz.sizeOf409
 v66:=Tryz.zeroValue409
 t70:=Tryz.underlying413
 a70:=Tryz.isAgg413
 z70:=Tryz.sizeOf413
 v70:=Tryz.zeroValue413
 t76:=Tryz.underlying428
 a76:=Tryz.isAgg428
 z76:=Tryz.sizeOf428
 v76:=Tryz.zeroValue428
 t77:=Tryz.underlying359
 a77:=Tryz.isAgg359
 z77:=Tryz.sizeOf359
 v77:=Tryz.zeroValue359 }
def Tryz.Eg:Go.Shelf.Ren:=⟨fun | 6=>317 | 15=>245 | 14=>348 | 28=>312 | 29=>313 | 20=>368 | 21=>369 | 22=>370 | 23=>371 | 24=>372 | 25=>373 | 26=>374 | 27=>375 | 46=>389 | 47=>344 | 48=>345 | 49=>390 | 50=>391 | 57=>399 | n=>n,fun | 22=>39 | 24=>188 | 25=>388 | 3=>3 | 39=>318 | 0=>0 | 53=>381 | 55=>383 | 4=>4 | 46=>374 | 45=>373 | 50=>272 | 5=>5 | 9=>9 | 66=>409 | 70=>413 | 76=>428 | 77=>359 | n=>n,fun | n=>n⟩
theorem Tryz.Eh:Go.Proofs.SlLaysF0.n6 Tryz.prog Tryz.Eg:={
 mixed:=by kernel_rfl
 f6:=⟨Tryz.f317.name,by decide,Tryz.func317.trans (congrArg some (by kernel_rfl))⟩
 f14:=⟨Tryz.f348.name,by decide,Tryz.func348.trans (congrArg some (by kernel_rfl))⟩
 f15:=Tryz.func245.trans (congrArg some (by kernel_rfl))
 f20:=⟨Tryz.f368.name,by decide,Tryz.func368.trans (congrArg some (by kernel_rfl))⟩
 f21:=⟨Tryz.f369.name,by decide,Tryz.func369.trans (congrArg some (by kernel_rfl))⟩
 f22:=⟨Tryz.f370.name,by decide,Tryz.func370.trans (congrArg some (by kernel_rfl))⟩
 f23:=⟨Tryz.f371.name,by decide,Tryz.func371.trans (congrArg some (by kernel_rfl))⟩
 f24:=⟨Tryz.f372.name,by decide,Tryz.func372.trans (congrArg some (by kernel_rfl))⟩
 f25:=⟨Tryz.f373.name,by decide,Tryz.func373.trans (congrArg some (by kernel_rfl))⟩
 f26:=⟨Tryz.f374.name,by decide,Tryz.func374.trans (congrArg some (by kernel_rfl))⟩
 f27:=⟨Tryz.f375.name,by decide,Tryz.func375.trans (congrArg some (by kernel_rfl))⟩
 f28:=Tryz.func312.trans (congrArg some (by kernel_rfl))
 f29:=Tryz.func313.trans (congrArg some (by kernel_rfl))
 f46:=⟨Tryz.f389.name,by decide,Tryz.func389.trans (congrArg some (by kernel_rfl))⟩
 f47:=Tryz.func344.trans (congrArg some (by kernel_rfl))
 f48:=Tryz.func345.trans (congrArg some (by kernel_rfl))
 f49:=⟨Tryz.f390.name,by decide,Tryz.func390.trans (congrArg some (by kernel_rfl))⟩
 f50:=⟨Tryz.f391.name,by decide,Tryz.func391.trans (congrArg some (by kernel_rfl))⟩
 f57:=⟨Tryz.f399.name,by decide,Tryz.func399.trans (congrArg some (by kernel_rfl))⟩
 t0:=Tryz.underlying0
 a0:=Tryz.isAgg0
 z0:=Tryz.sizeOf0
 v0:=Tryz.zeroValue0
 t3:=Tryz.underlying3
 a3:=Tryz.isAgg3
 z3:=Tryz.sizeOf3
 v3:=Tryz.zeroValue3
 t4:=Tryz.underlying4
 a4:=Tryz.isAgg4
 z4:=Tryz.sizeOf4
 v4:=Tryz.zeroValue4
 t5:=Tryz.underlying5
 a5:=Tryz.isAgg5
 z5:=Tryz.sizeOf5
 v5:=Tryz.zeroValue5
 t9:=Tryz.underlying9
 a9:=Tryz.isAgg9
 z9:=Tryz.sizeOf9
 v9:=Tryz.zeroValue9
 t22:=Tryz.underlying39
 a22:=Tryz.isAgg39
 z22:=Tryz.sizeOf39
 v22:=Tryz.zeroValue39
 t25:=Tryz.underlying388
 a25:=Tryz.isAgg388
 z25:=Tryz.sizeOf388
 v25:=Tryz.zeroValue388
 t39:=Tryz.underlying318
 a39:=Tryz.isAgg318
 z39:=Tryz.sizeOf318
 v39:=Tryz.zeroValue318
 t45:=Tryz.underlying373
 a45:=Tryz.isAgg373
 z45:=Tryz.sizeOf373
 v45:=Tryz.zeroValue373
 t46:=Tryz.underlying374
 a46:=Tryz.isAgg374
 z46:=Tryz.sizeOf374
 v46:=Tryz.zeroValue374
 t50:=Tryz.underlying272
 a50:=Tryz.isAgg272
 z50:=Tryz.sizeOf272
 v50:=Tryz.zeroValue272
 t53:=Tryz.underlying381
 a53:=Tryz.isAgg381
 z53:=Tryz.sizeOf381
 v53:=Tryz.zeroValue381
 t55:=Tryz.underlying383
 a55:=Tryz.isAgg383
 z55:=Tryz.sizeOf383
 v55:=Tryz.zeroValue383
 t66:=Tryz.underlying409
 a66:=Tryz.isAgg409
 z66:=Tryz.sizeOf409
 v66:=Tryz.zeroValue409
 t70:=Tryz.underlying413
 a70:=Tryz.isAgg413
 z70:=Tryz.sizeOf413
 v70:=Tryz.zeroValue413
 t76:=Tryz.underlying428
 a76:=Tryz.isAgg428
 z76:=Tryz.sizeOf428
 v76:=Tryz.zeroValue428
 t77:=Tryz.underlying359
 a77:=Tryz.isAgg359
 z77:=Tryz.sizeOf359
 v77:=Tryz.zeroValue359 }
end Go.Proofs
namespace Go.Proofs.A1
open Go Go.SL Go.Shelf Go.Proofs
open Go.Proofs.Tryz
open Go.Proofs.Tryz renaming prog->T_
structure Wy where
 v:Value
 p:List Nat
 f:Nat
def Wy.cells (x:Wy):List Value:=[x.v,.q (x.f:Nat)]
def nz (p:List Nat):List Int:=p.map fun i:Nat=>(i:Int)
def gp (p:List Nat):List Value:=p.map fun i=>.q (i:Nat)
def Uk (l:List Wy):List (List Value):=l.map Wy.cells
def mZ (l:List Wy):List Value:=(Uk l).flatten
theorem yK (p:List Nat):(gp p).map (fun u=>[u])=ints (nz p):=by simp [gp,ints,nz]
theorem sP (p:List Nat):(nz p).length=p.length:=by simp [nz]
def Un (a b:Nat×List Nat):Int:=aW [kC a.1 b.1,kC (a.2.length:Nat) (b.2.length:Nat),lT (nz a.2) (nz b.2)]
def wl (a b:Nat×List Nat):Bool:=decide (a.1<b.1)||(decide (a.1=b.1)&&(decide (a.2.length<b.2.length)||(decide (a.2.length=b.2.length)&&lexB a.2 b.2)))
theorem wG {x y:Int}:kC x y<0↔x<y:=by
 unfold kC;split
 ·constructor <;> intro _ <;> omega
 ·split <;> constructor <;> intro _ <;> omega
theorem Di:∀ {a b:List Nat},a.length=b.length->(lT (nz a) (nz b)<0↔lexB a b=true)
 | [],[],_=>by simp [nz,lT,lexB]
 | [],_::_,h=>by simp at h
 | _::_,[],h=>by simp at h
 | x :: a, y :: b, h => by
  have ih:=Di (a:=a) (b:=b) (by simpa using h);show (if kC x y≠0 then kC x y else lT (nz a) (nz b))<0↔_
  unfold lexB;by_cases e:(x:Int)=y
  ·rw [if_neg (not_not_intro (iG.2 e)),ih];have e':x=y:=by exact_mod_cast e
   simp [e']
  ·rw [if_pos (fun q=>e (iG.1 q)),wG]
   have e':¬ x=y:=fun q=>e (by rw [q])
   simp [e']
theorem Fw (a b:Nat×List Nat):Un a b<0↔wl a b=true:=by
 unfold Un wl aW;by_cases h1:(a.1:Int)=b.1
 ·rw [if_neg (not_not_intro (iG.2 h1))];have DO:a.1=b.1:=by exact_mod_cast h1
  unfold aW;by_cases h2:((a.2.length:Nat):Int)=(b.2.length:Nat)
  ·rw [if_neg (not_not_intro (iG.2 h2))];have HN:a.2.length=b.2.length:=by exact_mod_cast h2
   have h3:=Di HN;unfold aW;by_cases h4:lT (nz a.2) (nz b.2)=0
   ·rw [if_neg (not_not_intro h4)];rw [h4] at h3;simp [aW,DO,HN];have:=h3.symm;simpa using this
   ·rw [if_pos h4,h3];simp [DO,HN]
  ·rw [if_pos (fun q=>h2 (iG.1 q)),wG]
   have HN:¬ a.2.length=b.2.length:=fun q=>h2 (by rw [q])
   simp [DO,HN]
 ·rw [if_pos (fun q=>h1 (iG.1 q)),wG]
  have DO:¬ a.1=b.1:=fun q=>h1 (by rw [q])
  simp [DO]
theorem xZ (a:Nat×List Nat):wl a a=false:=by unfold wl;rw [oL];simp
theorem BH {a b c:Nat×List Nat} (h1:wl a b=true) (h2:wl b c=true):wl a c=true:=by
 unfold wl at *;simp only [ZQ,Zl,decide_eq_true_eq] at *;rcases h1 with h1 | ⟨e1,h1 | ⟨e2,h1⟩⟩ <;> rcases h2 with h2 | ⟨g1,h2 | ⟨g2,h2⟩⟩
 ·exact .inl (by omega)
 ·exact .inl (by omega)
 ·exact .inl (by omega)
 ·exact .inl (by omega)
 ·exact .inr ⟨by omega,.inl (by omega)⟩
 ·exact .inr ⟨by omega,.inl (by omega)⟩
 ·exact .inl (by omega)
 ·exact .inr ⟨by omega,.inl (by omega)⟩
 ·exact .inr ⟨by omega,.inr ⟨by omega,qF h1 h2⟩⟩
theorem Ip {a b:Nat×List Nat} (h:a≠b):wl a b=true\/wl b a=true:=by
 unfold wl;simp only [ZQ,Zl,decide_eq_true_eq];rcases Zas a.1 b.1 with h1 | h1 | h1
 ·exact .inl (.inl h1)
 ·rcases Zas a.2.length b.2.length with h2 | h2 | h2
  ·exact .inl (.inr ⟨h1,.inl h2⟩)
  ·have hne:a.2≠b.2:=fun e=>h (Prod.ext h1 e)
   rcases qG h2 hne with h3 | h3
   ·exact .inl (.inr ⟨h1,.inr ⟨h2,h3⟩⟩)
   ·exact .inr (.inr ⟨h1.symm,.inr ⟨h2.symm,h3⟩⟩)
  ·exact .inr (.inr ⟨h1.symm,.inl h2⟩)
 ·exact .inr (.inl h1)
theorem Q8 {α:Type} (g:α->Nat×List Nat):Go.Sort.SWO (ltOf fun x y:α=>Un (g x) (g y)):=by
 have e:∀ x y:α,ltOf (fun x y:α=>Un (g x) (g y)) x y=wl (g x) (g y):=fun x y=>by
  unfold ltOf;rw [Zbe,decide_eq_true_eq];exact Fw _ _
 constructor
 ·intro x;rw [e];exact xZ _
 ·intro x y z h1 h2;rw [e] at *;exact BH h1 h2
 ·intro x y z h1 h2;rw [e] at *;by_cases h:wl (g x) (g z)=true
  ·by_cases e1:g x=g y
   ·rw [e1,h2] at h;cases h
   ·rcases Ip e1 with h3 | h3
    ·rw [h1] at h3;cases h3
    ·rw [BH h3 h] at h2;cases h2
  ·simpa using h
variable {fp:List Nat} {w:World}
theorem UR {v:Value} {cs:List Value} {es:List Int} (h:Rd w v 1 (cs.map fun v=>[v])) (hl:cm cs es):aj T_ 319 [v] w (.q (aW es)):=
 US (by rw [<- hl.eq];exact h)
theorem Q9 {v1 v2:Value} {p q:List Nat} {f1 f2:Nat} (h1:Rd w v1 1 (ints (nz p))) (h2:Rd w v2 1 (ints (nz q))) :
  aj T_ 261 [.agg #[v1,.q (f1:Nat)],.agg #[v2,.q (f2:Nat)]] w (.q (Un (f1,p) (f2,q))):=by
 have aaA:∀ w',aK [] w w'->aj T_ 236 [v1,v2] w' (.q (lT (nz p) (nz q))):=fun w' hk=>zd (h1.keeps hk) (h2.keeps hk)
 obtain ⟨a,cp,b,o,rfl,dp,bY,ha,hc⟩:=h1;rw [c7,sP] at *;obtain ⟨a',Uh,b',o',rfl,oU,Qm,cP,XC⟩:=h2;rw [c7,sP] at *;have iz:=aaA;refine ah func261 I I ?_;refine Jr<|Jy I I fun _ _=>Jy I I fun _ _=>Ja I<|Jn<|Jq ?_
 with_reducible refine cW 18 (by kernel_rfl) ?_
 (refine ao lf I<|ao (ie (.there .here)) I<|ao lf I<|ao (ie .here) I<|a8 ba I (fun w' aA=>(Dh _ _ w'))<|ao lf I<|ao (ie (.there .here)) I<|ao (cI (.of I)) I<|ao lf I<|ao (ie .here) I<|ao (cI (.of I)) I<|a8 ba I (fun w' aA=>(Dh _ _ w'))<|ao lf I<|ao (ie (.there .here)) I<|ao lf I<|ao (ie .here) I<|a8 ba I (fun w' aA=>(iz w' (Mem.keeps aA)))<|eC (aC (.o I (.o I (.o I .nil))) I I I I) I I ?_)
 with_reducible refine dw I fun bq nf=>?_
 (refine ai bz I (fun w' aA=>(UR (Mem.dh aA .here I I) (cm.cons (cm.cons (cm.cons cm.nil)))))<|Ja I<|Jn<|Je<|JT ?_)
 rfl
theorem Q6 (l:List Wy):∀ r∈Uk l,r.length=2:=fun r hr=>by obtain ⟨x,_,rfl⟩:=Zo.1 hr;rfl
theorem pA (l:List Wy):(mZ l).length=l.length*2:=by unfold mZ;rw [fC (Q6 l)];unfold Uk;rw [Zd]
theorem M8 (a b:List Wy):mZ (a++b)=mZ a++mZ b:=by unfold mZ Uk;rw [Zt,Zad]
def iH (kD:List Wy):bd:=mN 3 (kD.map Wy.v) (kD.map fun x=>gp x.p)
theorem GI {kD:List Wy} (hn:fp.Nodup) (hs:cC (hp w) [iH kD] fp) {x:Wy} (hx:x∈kD):Rd w x.v 1 (ints (nz x.p)):=by
 obtain ⟨j,hj,rfl⟩:=Zx hx;have hm:Mem ⟨w,fp,0⟩ [iH kD] w:=⟨.refl _ _,fp,hn,hs,fun b hb=>.inr hb⟩
 have:=hm.Es (j:=j) (v:=(kD[j]).v) (x:=gp (kD[j]).p) .here (by simp [hj]) (by simp [hj]);rwa [yK] at this
theorem Fi {c:Cx} {hs hs':List bd} (hm:Mem c hs w) {kD:List Wy} (ht:Take hs (iH kD) hs') {x:Wy} (hx:x∈kD):Rd w x.v 1 (ints (nz x.p)):=by
 obtain ⟨j,hj,rfl⟩:=Zx hx;have:=hm.Es (j:=j) (v:=(kD[j]).v) (x:=gp (kD[j]).p) ht (by simp [hj]) (by simp [hj]);rwa [yK] at this
theorem IU {v:Value} {n:Nat} {l kD:List Wy} (jv:fp.Nodup) (hs:cC (hp w) [kH 244 2 v n (mZ l),iH kD] fp) (hn:n=l.length) (iO:∀ x∈l,x∈kD) (cO:n<=1000000) (XH:∀ x∈kD,x.v.oneCell'=true) :
  bb T_ 260 [v,.func (.func 261) #[] #[]] w fp (fun l':List Wy=>l'.Perm l/\l'.Pairwise (fun x y=>wl (y.f,y.p) (x.f,x.p)=false)) (fun _=>.tuple #[]) (fun l'=>[kH 244 2 v n (mZ l'),iH kD]):=by
 obtain ⟨f1,f2,rfl,h1,h2⟩:=hs;obtain ⟨hlen,h1⟩:=h1;have SM:=(ZB.1 jv).2.1;have jZ:=(ZB.1 jv).2.2;rcases h1 with ⟨rfl,rfl,h0⟩ | ⟨g,off,cap,cur,rfl,rfl,hg,kc,jS,hfit,htk⟩
 ·have pT:l=[]:=Z5 (by omega);subst pT;refine (AnyF.slices_SortFunc_none Tryz.Ef none 0 (.func (.func 261) #[] #[]) w).mono fun e w' ⟨he,hw⟩=>?_;subst hw;exact ⟨[],he,⟨.refl _,.nil⟩,.refl _ _,[]++f2,by simpa using SM,⟨[],f2,I,⟨hlen,.inl ⟨I,I,h0⟩⟩,h2⟩,fun b hb=>.inl hb⟩
 ·subst hn;have S5:g<w.heap.size:=(Z2.1 hg).1;by_cases pT:l=[]
  ·subst pT;refine (AnyF.slices_SortFunc_none Tryz.Ef (some ⟨g,off,none⟩) cap (.func (.func 261) #[] #[]) w).mono fun e w' ⟨he,hw⟩=>?_;subst hw;exact ⟨[],he,⟨.refl _,.nil⟩,.refl _ _,[g]++f2,jv,⟨[g],f2,I,⟨hlen,.inr ⟨g,off,cap,cur,I,I,hg,kc,jS,hfit,htk⟩⟩,h2⟩,fun b hb=>.inl hb⟩
  obtain ⟨x0,Sm⟩:=List.exists_mem_of_ne_nil l pT
  let α:={x:Wy // x∈kD}
  let _:Inhabited α:=⟨⟨x0,iO x0 Sm⟩⟩
  let enc:α->List Value:=fun x=>x.1.cells
  have hle:l.length*2<=cap*2:=Z4 _ kc;have Qv:cur.size=cur.toList.length:=by simp
  have nI:cur=(cur.toList.take off++mZ l++cur.toList.drop (off+l.length*2)).toArray:=by
   apply Array.ext';show cur.toList=_;rw [<- htk]
   conv=>lhs;rw [<- ZV off cur.toList]
   rw [Zh];congr 1
   conv=>lhs;rw [<- ZV (l.length*2) (cur.toList.drop off)]
   rw [Zbi]
  have Bw:(cur.toList.take off).length=off:=by rw [Zs];omega
  generalize mz:cur.toList.take off=pre at nI Bw;generalize Vr:cur.toList.drop (off+l.length*2)=post at nI
  let la:List α:=l.attach.map fun x=>⟨x.1,iO x.1 x.2⟩
  have OZ:la.map (fun x:α=>x.1)=l:=by
   show (l.attach.map fun x=>(⟨x.1,iO x.1 x.2⟩:α)).map (fun x:α=>x.1)=l
   rw [Zat];exact List.attach_map_subtype_val l
  have CW:∀ m:List α,(m.map enc).flatten=mZ (m.map fun x:α=>x.1):=fun m=>by
   unfold mZ Uk;rw [Zat];rfl
  have EU:la.length=l.length:=by
   show (l.attach.map fun x=>(⟨x.1,iO x.1 x.2⟩:α)).length=_
   rw [Zd,List.length_attach]
  have tM:w.heap[g]? = some (.cells (pre++(la.map enc).flatten++post).toArray 244 (0,0)):=by rw [CW,OZ,<- nI];exact hg
  have key:=B3 Tryz.Ef (k:=2) isAgg244 sizeOf244 (enc:=enc) (fun _=>rfl)
   (fun x u hu=>by
    have hx:=XH x.1 x.2;simp only [enc,Wy.cells,ZO,Zp,or_false] at hu;rcases hu with rfl | rfl
    ·exact hx
    ·rfl)
   (Q8 (fun x:α=>(x.1.f,x.1.p))) (g:=261) (b:=g) (cap:=cap) (cb:=#[]) (l:=la) (pre:=pre) (cur:=post) (E:=244) (w:=w)
   (enters_of func261 (by kernel_rfl) I) tM (by rw [EU];omega)
   (fun w' hk x y=>by
    have hp:cC (hp w') [iH kD] f2:=cC.loc h2 fun b hb=>by
     have QA:b<w.heap.size:=by
      obtain ⟨o,ho⟩:=cC.own h2 b hb;exact kh ho
     exact hk.block b QA (fun e=>jZ g (by simp) b hb (ZE.1 e).symm)
    exact Q9 (GI SM hp x.2) (GI SM hp y.2))
  rw [EU,Bw] at key;refine Calls.mono key ?_;rintro e w' ⟨he,l',jb,YJ,hk,dF⟩;have yS:(l'.map fun x:α=>x.1).length=l.length:=by rw [Zd,jb.length_eq,EU]
  rw [CW] at dF;refine ⟨l'.map fun x:α=>x.1,he,⟨?_,?_⟩,hk.mono (by simp),[g]++f2,jv,⟨[g],f2,I,?_,cC.loc h2 fun b hb=>?_⟩,fun b hb=>.inl hb⟩
  ·have:=jb.map (fun x:α=>x.1)
   rwa [OZ] at this
  ·rw [Zba];refine YJ.imp fun {x y} h=>?_;unfold ltOf at h;rw [decide_eq_false_iff_not,Fw] at h;simpa using h
  ·have hr:=yy (n:=l.length) (sz:=2) (cap:=cap) (fp:=[g]) (h:=hp w') ⟨I,dF⟩ Bw kc jS (by
    have:=congrArg (fun x:Array Value=>x.toList.length) nI
    simp only [ZaN,Zg,pA] at this;rw [Zg,Zg,pA,yS,<- this];exact hfit) (by rw [pA,yS])
   exact hr
  ·have QA:b<w.heap.size:=by
    obtain ⟨o,ho⟩:=cC.own h2 b hb;exact kh ho
   exact hk.block b QA (fun e=>jZ g (by simp) b hb (ZE.1 e).symm)
end Go.Proofs.A1
namespace Go.Proofs.A1
open Go Go.SL
open Tryz
open Tryz renaming prog->T_
theorem LK {α:Type} {q:α->Bool} {l:List α} {k:Nat} (h:k<l.length) (hq:q l[k]=true):(l.filter q)[((l.take k).filter q).length]? = some l[k]:=by
 have e:l=l.take k++l[k]::l.drop (k+1):=by rw [<- Zu h,ZV]
 have:l.filter q=(l.take k).filter q++l[k]::(l.drop (k+1)).filter q:=by
  conv=>lhs;rw [e]
  rw [Zbk,Zbz hq]
 rw [this,ZJ (Zz _),Nat.sub_self];rfl
def C7 (r:Ro) (v m:Int) (i:Nat):Bool:=decide ((iI r i).fr=m)&&!ig r.po v (hP r i)
def fE (r:Ro) (v m:Int) (k:Nat):List Nat:=(List.range k).filter (C7 r v m)
def MR (r:Ro) (v m:Int):List (List Value):=(fE r v m r.ti.length).map fun i=>[.q (i:Nat),.agg (iI r i).cells.toArray]
theorem uM (r:Ro) (v m:Int):(MR r v m).length=(fE r v m r.ti.length).length:=by simp [MR]
theorem sY (r:Ro) (v m:Int) (k:Nat):fE r v m (k+1)=fE r v m k++if C7 r v m k then [k] else []:=by
 unfold fE;rw [List.range_succ,Zbk];congr 1;by_cases h:C7 r v m k=true
 ·rw [Zbz h,if_pos h];rfl
 ·rw [List.filter_cons_of_neg h,if_neg h];rfl
theorem Ot {r:Ro} {v m:Int} {k:Nat} (h:k<r.ti.length) (hq:C7 r v m k=true):(MR r v m)[(fE r v m k).length]? = some [.q (k:Nat),.agg (iI r k).cells.toArray]:=by
 have h1:=LK (l:=List.range r.ti.length) (q:=C7 r v m) (k:=k) (by rw [ZaM];exact h) (by rw [Zbm];exact hq);rw [List.take_range,Zbd (by omega),Zbm] at h1;unfold MR fE;rw [ZA,h1];rfl
theorem EE {r:Ro} {v m:Int} {k:Nat} {vs:List Value} (h:(MR r v m)[k]? = some vs):∃ i,(fE r v m r.ti.length)[k]? = some i/\vs=[.q (i:Nat),.agg (iI r i).cells.toArray]/\i<r.ti.length/\C7 r v m i=true:=by
 unfold MR at h;rw [ZA,Zak] at h;obtain ⟨i,hi,rfl⟩:=h;have hm:=Z1 hi;unfold fE at hm;rw [Zy,ZP] at hm;exact ⟨i,hi,I,hm.1,hm.2⟩
variable {N:Wn} {dm:Int} {dst:Option Tmp} {g:Option (Nat×Bool)} {i:Nat} {k:IntKind} {q:Bool} {so:ByteArray} {x y:Operand}
theorem nj {r:Ro} (h:i<r.ti.length):iI r i=r.ti[i]:=by
 unfold iI;rw [Zk,Zc h];rfl
theorem rC {P:Program} {c:Cx} {sl:aH} {hs:List bd} {ty:TypeId} {pos:String} {af:Array Edge} {t u:TypeId} {a b:Int} (hx:Is sl x (.int k a)) (hy:Is sl y (.int k b)) (e:a=b) :
  cY P c sl hs ⟨dst,.binOp .eql t x y u,ty,pos,af,g⟩ (.bool true):=by
 have:=mr (P:=P) (c:=c) (hs:=hs) (dst:=dst) (ty:=ty) (pos:=pos) (af:=af) (g:=g) (t:=t) (u:=u) hx hy;rwa [decide_eq_true e] at this
theorem NX {P:Program} {c:Cx} {sl:aH} {hs:List bd} {ty:TypeId} {pos:String} {af:Array Edge} {t u:TypeId} {a b:Int} (hx:Is sl x (.int k a)) (hy:Is sl y (.int k b)) (e:a≠b) :
  cY P c sl hs ⟨dst,.binOp .eql t x y u,ty,pos,af,g⟩ (.bool false):=by
 have:=mr (P:=P) (c:=c) (hs:=hs) (dst:=dst) (ty:=ty) (pos:=pos) (af:=af) (g:=g) (t:=t) (u:=u) hx hy;rwa [decide_eq_false e] at this
theorem cV {P:Program} {c:Cx} {sl:aH} {hs:List bd} {ty:TypeId} {pos:String} {af:Array Edge} {x y z:Operand} {v u:Value} (hx:Is sl x (.bool q)) (hy:Is sl y v) (hz:Is sl z u) (e:(bif q then v else u)=Value.bool false):cY P c sl hs ⟨dst,.pick x y z,ty,pos,af,g⟩ (.bool false):=e ▸ uC hx hy hz
theorem eW {P:Program} {c:Cx} {sl:aH} {hs:List bd} {ty:TypeId} {pos:String} {af:Array Edge} {x y z:Operand} {v u:Value} (hx:Is sl x (.bool q)) (hy:Is sl y v) (hz:Is sl z u) (e:(bif q then v else u)=Value.bool true):cY P c sl hs ⟨dst,.pick x y z,ty,pos,af,g⟩ (.bool true):=e ▸ uC hx hy hz
theorem sS {r:Ro} {s d t p:Value} (v m:Int) {w w1:World} (h:RR w1 r s d t p) :
  bb T_ 153 [RA r s d t p,.q v,.q m] w [] (fun _:Nat×Nat×Nat=>True) (fun x=>.func (.func 240) #[] #[.pointer (some ⟨x.1,0,none⟩),.pointer (some ⟨x.2.1,0,none⟩),.pointer (some ⟨x.2.2,0,none⟩)])
   (fun x=>[JP x.1 r s d t p,bo x.2.1 (.cells #[.q m] 3 (0,0)),bo x.2.2 (.cells #[.q v] 3 (0,0))]):=by
 obtain ⟨h1,h2,h3,h4⟩:=h.one;unfold RA;refine aT func153 I I ?_
 (refine Jr<|Jy I I fun _ _=>Jy I I fun _ _=>Jy I I fun _ _=>Ja I<|Ji<|ab (bD .nil (.o I (.o I (.o I .nil)))) I<|Ja I<|Jn<|Je ?_)
 rename_i b3 uR b4 uQ b5 MY
 with_reducible first|apply aR|apply aS
 case he=>exact dH I I
 case hR=>
  intro w' aA;exact aD (b3,b5,b4) trivial (by exact .cons bF (.h2 .nil)) aA I
set_option maxHeartbeats 1000000 in
theorem KE {r:Ro} {s d t p:Value} {b1 b2 b3:Nat} (v m:Int) {w0 w:World} {md:List Nat} (h:RR w0 r s d t p) (hn:RO md r s d t p) (cO:r.ti.length<=1000000) :
  Iter T_ 240 [] [.p b1,.p b2,.p b3] [JP b1 r s d t p,bo b2 (.cells #[.q m] 3 (0,0)),bo b3 (.cells #[.q v] 3 (0,0))] (MR r v m) w0 md w:=by
 intro l fp J E hB hF jv hs hy;have hR:=h.jE hn hB;have hO:=h.out hn hF;rw [uM];have h1:=Rd.one hR.sr;have h2:=Rd.one hR.de;have h4:=Rd.one hR.po;have hti:=hR.ti;have oti:=hO.ti;obtain ⟨a,cp,b,o',rfl,dp,bY,ha,hc⟩:=hti;rw [cr] at *;unfold maxLen at bY;refine dU func240 I I jv hs ?_
 (refine Jr<|bP I I ae<|JL I (.there .here) I<|JI I<|Jv I<|Jn<|J0 ?_)
 refine a7 (fun k:Nat=>k<=r.ti.length) (fun k=>[(10,.q (k:Nat)),(9,.q (r.ti.length:Nat)),(8,.slice a r.ti.length cp),(0,.func (.yield l) #[] #[]),(1,.p b1),(2,.p b2),(3,.p b3)])
  (fun k=>[J (fE r v m k).length,JP b1 r s d (.slice a r.ti.length cp) p,bo b2 (.cells #[.q m] 3 (0,0)),bo b3 (.cells #[.q v] 3 (0,0))]) (fun k=>r.ti.length-k) ?_ ?_
 ·apply aI 0 (by omega)
  case hs1=>exact cu
  case ht=>
   exact .h4 .nil
 intro k hk;by_cases aN:k<r.ti.length
 ·have cP:=ha (fF aN);have aB:=(hc k _ (eO aN)).2;have YW:b ∉ fp:=oti (fF aN) b (by rw [cP];rfl);unfold Ti.cells at aB;have C3:∀ w',aK fp w w'->aj T_ 121 [.agg #[.q r.lv,.q r.ma,s,d,.slice a r.ti.length cp,p],.q v,.string (r.ti[k]).nm] w' (.bool (ig r.po v (r.ti[k]).nm)):=fun w' hk=>qS v _ (hR.jE hO hk)
  have AN:=nj aN;have yP:hP r k=(r.ti[k]).nm:=by unfold hP;rw [AN]
  by_cases C2:(r.ti[k]).fr=m
  ·cases BD:ig r.po v (r.ti[k]).nm with
   | true =>
    have C4:∀ w',aK fp w w'->aj T_ 121 [.agg #[.q r.lv,.q r.ma,s,d,.slice a r.ti.length cp,p],.q v,.string (r.ti[k]).nm] w' (.bool true):=fun w' hk=>BD ▸ C3 w' hk
    have hq:C7 r v m k=false:=by unfold C7;rw [yP,BD];simp
    have K3:fE r v m (k+1)=fE r v m k:=by rw [sY,if_neg (by rw [hq];decide),ZS]
    (refine Jr<|JA I<|Jn<|Jq<|Jd I fun ar=>Jk<|Jq<|J0<|Jr<|Jv I<|ab (fZ cP ar) I<|ab (jB (.of I) (eV.Ds aB YW) I) I<|Jz I I fun _ _=>Ja I<|an (.of I) (.of I) .here I I (fq I I I) (bG I) ak<|Ji<|bP I I ae<|JL I .here I<|JL I cA I<|ab (rC (.of I) (.of I) C2) I<|Jv I<|JK I I<|ab (cK bF) I<|JK I I<|JL I df I<|JK I I<|bP I I ae<|JK I I<|JL I .here I<|JK I I<|ai eK I (fun w' aA=>(C4 w' (Mem.keeps aA)))<|JK I I<|JH I<|ab (cV (.of I) (.of I) (.of I) I) I<|Jv I<|iT I I I I<|iT I I I I<|aF I I (fun hg bT=>(bV (.of I) .here ak (by rfl))) I<|dx I I I I<|aF I I (fun hg bT=>(dX (.cD bT I))) I<|ab (cV (.of I) (.of I) (.of I) I) I<|Jn<|bE (.of I)<|Jw<|Jj<|Jt<|Jg<|JB I (by omega)<|Jv I<|Jn ?_)
    apply aL (k+1) (by omega) (by omega)
    case hs1=>exact cu
    case ht=>
     rw [K3];exact .cons (.there .here) (.cons (.there .here) (.cons (.there .here) (.cons (.there .here) .nil)))
   | false =>
    have C4:∀ w',aK fp w w'->aj T_ 121 [.agg #[.q r.lv,.q r.ma,s,d,.slice a r.ti.length cp,p],.q v,.string (r.ti[k]).nm] w' (.bool false):=fun w' hk=>BD ▸ C3 w' hk
    have hq:C7 r v m k=true:=by unfold C7;rw [yP,BD,AN,decide_eq_true C2];rfl
    have K3:fE r v m (k+1)=fE r v m k++[k]:=by rw [sY,if_pos hq]
    have VJ:(fE r v m (k+1)).length=(fE r v m k).length+1:=by rw [K3];simp
    have U2:=hy _ _ (Ot aN hq);rw [AN] at U2
    (refine Jr<|JA I<|Jn<|Jq<|Jd I fun ar=>Jk<|Jq<|J0<|Jr<|Jv I<|ab (fZ cP ar) I<|ab (jB (.of I) (eV.Ds aB YW) I) I<|Jz I I fun _ _=>Ja I<|an (.of I) (.of I) .here I I (fq I I I) (bG I) ak<|Ji<|bP I I ae<|JL I .here I<|JL I cA I<|ab (rC (.of I) (.of I) C2) I<|Jv I<|JK I I<|ab (cK bF) I<|JK I I<|JL I df I<|JK I I<|bP I I ae<|JK I I<|JL I .here I<|JK I I<|ai eK I (fun w' aA=>(C4 w' (Mem.keeps aA)))<|JK I I<|JH I<|ab (eW (.of I) (.of I) (.of I) I) I<|Jv I<|JK I I<|Jv I<|JK I I<|Jv I<|JK I I<|ab (cK .here) I<|JK I I ?_)
    unfold Ti.cells at U2
    with_reducible apply yi hB hF U2
    case hx=>exact Is.of I
    case ha=>exact .o I (.o I .nil)
    case hd=>rfl
    case ht=>exact Take.there .here
    intro q;cases q with
    | false =>
     simp only [cond_false]
     (refine JK I I<|JH I<|ab (eW (.of I) (.of I) (.of I) I) I<|Jn<|cL (.of I)<|Je<|Jm<|Jh<|Jh<|Jm ?_)
     with_reducible first|apply aR|apply aS
     case he=>exact nS I
     case hR=>
      intro w' aA;exact aD false trivial (by exact .h1 (.cons (.there .here) (.cons (.there .here) (.cons (.there .here) .nil)))) aA I
    | true =>
     simp only [cond_true]
     (refine JK I I<|JH I<|ab (cV (.of I) (.of I) (.of I) I) I<|Jn<|bE (.of I)<|Jw<|Jj<|Jt<|Jg<|JB I (by omega)<|Jv I<|Jn ?_)
     apply aL (k+1) (by omega) (by omega)
     case hs1=>exact cu
     case ht=>
      rw [VJ];exact .h1 (.cons (.there .here) (.cons (.there .here) (.cons (.there .here) .nil)))
  ·have hq:C7 r v m k=false:=by unfold C7;rw [AN,decide_eq_false C2];rfl
   have K3:fE r v m (k+1)=fE r v m k:=by rw [sY,if_neg (by rw [hq];decide),ZS]
   (refine Jr<|JA I<|Jn<|Jq<|Jd I fun ar=>Jk<|Jq<|J0<|Jr<|Jv I<|ab (fZ cP ar) I<|ab (jB (.of I) (eV.Ds aB YW) I) I<|Jz I I fun _ _=>Ja I<|an (.of I) (.of I) .here I I (fq I I I) (bG I) ak<|Ji<|bP I I ae<|JL I .here I<|JL I cA I<|ab (NX (.of I) (.of I) C2) I<|Jv I<|aF I I (fun hg bT=>(bV (.of I) bF ak (by rfl))) I<|aF I I (fun hg bT=>(ag (.of I) (At.lit df I))) I<|aF I I (fun hg bT=>(az (.of I) ae)) I<|aF I I (fun hg bT=>(ag (.cD bT I) (At.lit .here I))) I<|dx I I I I<|aF I I (fun hg bT=>(dX (.cD bT I))) I<|ab (cV (.of I) (.of I) (.of I) I) I<|Jv I<|iT I I I I<|iT I I I I<|aF I I (fun hg bT=>(bV (.of I) .here ak (by rfl))) I<|dx I I I I<|aF I I (fun hg bT=>(dX (.cD bT I))) I<|ab (cV (.of I) (.of I) (.of I) I) I<|Jn<|bE (.of I)<|Jw<|Jj<|Jt<|Jg<|JB I (by omega)<|Jv I<|Jn ?_)
   apply aL (k+1) (by omega) (by omega)
   case hs1=>exact cu
   case ht=>
    rw [K3];exact .cons (.there .here) (.cons (.there .here) (.cons (.there .here) (.cons (.there .here) .nil)))
 ·obtain rfl:k=r.ti.length:=by omega
  refine Jr<|JA I<|Jn<|Jq<|Jc I fun ar=>Jp<|Jl<|Jo ?_
  with_reducible first|apply aR|apply aS
  case he=>exact nS I
  case hR=>
   intro w' aA;exact aD true trivial (by exact .h4 .nil) aA I
theorem KU (l:List Int):∀ r∈ints l,∀ u∈r,u.oneCell'=true:=fun r hr=>by obtain ⟨x,_,rfl⟩:=Zo.1 hr;exact aM rfl dT
theorem yO (l:List Int):l.map (Value.int .i64)=(ints l).flatten:=by
 induction l with
 | nil=>rfl
 | cons x l ih=>show [Value.int .i64 x]++l.map (Value.int .i64)=_;rw [ih];rfl
theorem PA {lv:Value} {l:List Int} {w:World} (h:Rd w lv 1 (ints l)) (hl:l.length<=1000) :
  bb T_ 262 [lv] w [] (fun _:Value=>True) id (fun v=>[row 3 1 v l.length (l.map (.int .i64))]):=by
 have h':=h;obtain ⟨a,cp,b,o,rfl,dp,bY,ha,hc⟩:=h;refine aT func262 I I ?_;cases a with
 | none =>
  have pT:l=[]:=by
   cases l with
   | nil=>rfl
   | cons x r=>exact absurd (ha (by simp [ints])) (by simp)
  subst pT
  (refine Jr<|Ja I<|Jn<|Jq<|Jr<|Jv I<|ab (gN (.of I) (.of I)) I<|Jn<|cL (.of I)<|Jr<|Ja I<|Jn<|Ju ?_)
  refine aP 3 1 ?_
  with_reducible first|apply aR|apply aS
  case he=>exact dH I I
  case hR=>
   intro w' aA;exact aD (.z) trivial (by exact .h1 .nil) aA I
 | some ad =>
  (refine Jr<|Ja I<|Jn<|Jq<|Jr<|Jv I<|ab (gN (.of I) (.of I)) I<|Jn<|bE (.of I)<|Jk<|Jr<|bu (aC .nil I I I I) I fun _ _=>Jv I ?_)
  rename_i bq nf;refine ch (g:=bq) (E:=3) (ys:=[]) 0 1 (by exact .here) I I I ?_
  with_reducible apply il
  case hx=>exact Is.of I
  case hy=>exact Is.of I
  case ht=>exact .here
  case hsrc=>exact fun w' aA=>h'.keeps aA.keeps
  case h1=>exact KU l
  case hz=>exact I
  case hsz=>exact I
  case hb0=>exact I
  case hb=>rw [c7];omega
  case hd=>rfl
  intro v';rw [c7,<- yO,ZH,Za];refine Ja I<|Jn<|Je ?_
  with_reducible first|apply aR|apply aS
  case he=>exact dH I I
  case hR=>
   intro w' aA;exact aD v' trivial (by exact .h1 .nil) aA I
theorem vu {P:Program} {c:Cx} {sl:aH} {hs:List bd} {ty:TypeId} {pos:String} {af:Array Edge} {t u:TypeId} {a b:ByteArray} (hx:Is sl x (.string a)) (hy:Is sl y (.string b)) (e:a=b) :
  cY P c sl hs ⟨dst,.binOp .eql t x y u,ty,pos,af,g⟩ (.bool true):=by
 have:=ei (P:=P) (c:=c) (hs:=hs) (dst:=dst) (ty:=ty) (pos:=pos) (af:=af) (g:=g) (t:=t) (u:=u) hx hy;rwa [decide_eq_true e] at this
theorem Cq {P:Program} {c:Cx} {sl:aH} {hs:List bd} {ty:TypeId} {pos:String} {af:Array Edge} {t u:TypeId} {a b:ByteArray} (hx:Is sl x (.string a)) (hy:Is sl y (.string b)) (e:a≠b) :
  cY P c sl hs ⟨dst,.binOp .eql t x y u,ty,pos,af,g⟩ (.bool false):=by
 have:=ei (P:=P) (c:=c) (hs:=hs) (dst:=dst) (ty:=ty) (pos:=pos) (af:=af) (g:=g) (t:=t) (u:=u) hx hy;rwa [decide_eq_false e] at this
def xT (r:Ro) (v:Int) (so:ByteArray) (i:Nat):Bool:=ig r.po v (hP r i)&&decide (k8 r v (hP r i)=so)
def BG (r:Ro) (v:Int) (so:ByteArray) (k:Nat):List Nat:=(List.range k).filter (xT r v so)
theorem wL (r:Ro) (v:Int) (so:ByteArray) (k:Nat):BG r v so (k+1)=BG r v so k++if xT r v so k then [k] else []:=by
 unfold BG;rw [List.range_succ,Zbk];congr 1;by_cases h:xT r v so k=true
 ·rw [Zbz h,if_pos h];rfl
 ·rw [List.filter_cons_of_neg h,if_neg h];rfl
def rq (r:Ro) (so:ByteArray):Int:=(r.sr.getD (bA (cG r) so).toNat ⟨⟨#[]⟩,0⟩).mx
def wk (x:Wy):Nat×List Nat:=(x.f,x.p)
def Q1 (L:List (Nat×List Nat)) (W:List Wy):Prop:=W.map wk=L/\∀ y∈W,y.v.oneCell'=true
theorem Q1.add {L:List (Nat×List Nat)} {W:List Wy} (h:Q1 L W) (y:Wy) (hy:y.v.oneCell'=true):Q1 (L++[wk y]) (W++[y]):=by
 refine ⟨by rw [Zt,h.1];rfl,fun z hz=>?_⟩;rcases Zv.1 hz with hz | hz
 ·exact h.2 z hz
 ·rw [ZE.1 hz];exact hy
theorem Mn (W:List Wy) (y:Wy):iH (W++[y])=mN 3 (W.map Wy.v++[y.v]) ((W.map fun x=>gp x.p)++[gp y.p]):=by unfold iH;rw [Zt,Zt];rfl
theorem zm (W:List Wy) (y:Wy):mZ (W++[y])=mZ W++[y.v,.q (y.f:Nat)]:=by rw [M8];rfl
theorem pE {c:Cx} {D:List Nat} {sl:aH} {hs h1 h2:List bd} {X:Act->World->Prop} {W:List Wy} (y:Wy) {n:Nat} {x:List Value} (ht:Take hs (iH W) h1) (ht2:Take h1 (row 3 1 y.v n x) h2) (hn:n=y.p.length) (hx:x=gp y.p)
  (k:Tr c D sl (iH (W++[y])::h2) X):Tr c D sl hs X:=by
 subst hx;refine lj (vs:=W.map Wy.v) (xs:=W.map fun x=>gp x.p) (v:=y.v) (show Take hs (mN 3 (W.map Wy.v) (W.map fun x=>gp x.p)) h1 from ht) ht2 (by rw [hn];unfold gp;rw [Zd]) (by rw [Zd,Zd]) ?_;rw [<- Mn];exact k
theorem yn {c:Cx} {D:List Nat} {sl:aH} {hs:List bd} {X:Act->World->Prop} (k:Tr c D sl (iH []::hs) X):Tr c D sl hs X:=jU 3 k
set_option maxHeartbeats 1000000 in
theorem Ml {r:Ro} {s d t p:Value} (v:Int) (so:ByteArray) {w:World} (h:RR w r s d t p) (cO:r.ti.length<=1000) (SB:so∈cG r) :
  bb T_ 259 [RA r s d t p,.q v,.string so] w [] (fun x:Value×List Wy=>Q1 ((BG r v so r.ti.length).map (fun i=>(0,[i]))++(fE r v (rq r so) r.ti.length).map (fun i=>(1,[i]))) x.2) (fun x=>x.1)
   (fun x=>[row 244 2 x.1 x.2.length (mZ x.2),iH x.2]):=by
 obtain ⟨h1,h2,h3,h4⟩:=h.one;have hti:=h.ti;obtain ⟨a,cp,b,o',rfl,dp,bY,ha,hc⟩:=hti;have Sy:=h.sr;obtain ⟨a2,oy,b2,o2,rfl,ki,fB,jT,jS⟩:=Sy;rw [cr] at *;rw [cR] at *;unfold maxLen at bY fB;obtain ⟨i0,Bz⟩:∃ i:Nat,bA (cG r) so=(i:Nat):=⟨(bA (cG r) so).toNat,by have:=eE SB;omega⟩;have Li:i0<r.sr.length:=by
  obtain ⟨hl,_⟩:=eF (l:=cG r) (s:=so) (by omega);rw [Bz,ZF] at hl;unfold cG at hl;rwa [Zd] at hl
 have sU:rq r so=(r.sr[i0]).mx:=by unfold rq;rw [Bz,ZF,Zk,Zc Li];rfl
 have Vd:∀ w',aK [] w w'->aj T_ 180 [.agg #[.q r.lv,.q r.ma,.slice a2 r.sr.length oy,d,.slice a r.ti.length cp,p],.string so] w' (.q (i0:Nat)):=fun w' hk=>Bz ▸ oE so (h.keeps hk)
 have hsrc:=Vd;unfold RA;refine aT func259 I I ?_
 (refine Jr<|Jy I I fun _ _=>Ja I<|Ji<|Jz I I fun _ _=>Jn<|Jq<|Jr<|bP I I ae<|JL I (.there .here) I<|JI I<|Jv I<|Jn<|J0 ?_)
 rename_i b3 uR b7 V3;refine aP 244 2 ?_;refine yn ?_
 refine a7 (ι:=Nat×Value×List Wy) (fun x=>x.1<=r.ti.length/\Q1 ((BG r v so x.1).map (fun i=>(0,[i]))) x.2.2)
  (fun x=>[(14,.q (x.1:Nat)),(13,.q (r.ti.length:Nat)),(12,.slice a r.ti.length cp),(7,.p b7),(3,.p b3),(1,.q v),(2,.string so)])
  (fun x=>[bo b7 (.cells #[x.2.1] 329 (0,0)),row 244 2 x.2.1 x.2.2.length (mZ x.2.2),iH x.2.2,JP b3 r (.slice a2 r.sr.length oy) d (.slice a r.ti.length cp) p]) (fun x=>r.ti.length-x.1) ?_ ?_
 ·apply aI (0,.z,[]) ⟨Zi _,I,fun y hy=>by cases hy⟩
  case hs1=>exact cu
  case ht=>
   exact .cons bF (.cons (.there .here) (.h2 .nil))
 rintro ⟨k,wv,W⟩ ⟨hk,hW⟩;dsimp only at hk hW ⊢;have S8:(mZ W).length=W.length*2:=pA W;by_cases aN:k<r.ti.length
 ·have cP:=ha (fF aN);have aB:=(hc k _ (eO aN)).2;unfold Ti.cells at aB;have AN:=nj aN;have yP:hP r k=(r.ti[k]).nm:=by unfold hP;rw [AN]
  have hWk:W.length<=k:=by
   have:=congrArg List.length hW.1;rw [Zd,Zd] at this;rw [this];have:=Z8 (xT r v so) (List.range k);rw [ZaM] at this;exact this
  have C3:∀ w',aK [] w w'->aj T_ 121 [.agg #[.q r.lv,.q r.ma,.slice a2 r.sr.length oy,d,.slice a r.ti.length cp,p],.q v,.string (r.ti[k]).nm] w' (.bool (ig r.po v (r.ti[k]).nm)):=fun w' hk=>qS v _ (h.keeps hk)
  have BB:∀ w',aK [] w w'->aj T_ 126 [.agg #[.q r.lv,.q r.ma,.slice a2 r.sr.length oy,d,.slice a r.ti.length cp,p],.q v,.string (r.ti[k]).nm] w' (.string (k8 r v (r.ti[k]).nm)):=fun w' hk=>pY v _ (h.keeps hk) (by omega)
  cases BD:ig r.po v (r.ti[k]).nm with
  | false =>
   have C4:∀ w',aK [] w w'->aj T_ 121 [.agg #[.q r.lv,.q r.ma,.slice a2 r.sr.length oy,d,.slice a r.ti.length cp,p],.q v,.string (r.ti[k]).nm] w' (.bool false):=fun w' hk=>BD ▸ C3 w' hk
   have hq:xT r v so k=false:=by unfold xT;rw [yP,BD];rfl
   have K3:BG r v so (k+1)=BG r v so k:=by rw [wL,if_neg (by rw [hq];decide),ZS]
   (refine Jr<|JA I<|Jn<|Jq<|Jd I fun ar=>Jk<|Jq<|J0<|Jr<|Jv I<|ab (fZ cP ar) I<|ab (iA (eV.base aB I)) I<|Jz I I fun _ _=>Ja I<|an (.of I) (.of I) .here I I (fq I I I) (bG I) ak<|Ji<|ab (cK df) I<|Jv I<|bP I I ae<|JL I .here I<|ai eK I (fun w' aA=>(C4 w' (Mem.keeps aA)))<|Jv I<|aF I I (fun hg bT=>(bV (.of I) df ak (by rfl))) I<|iT I I I I<|aF I I (fun hg bT=>(az (.of I) ae)) I<|aF I I (fun hg bT=>(ag (.cD bT I) (At.lit .here I))) I<|dx I I I I<|iT I I I I<|dx I I I I<|ab (cV (.of I) (.of I) (.of I) I) I<|Jn<|bE (.of I)<|Jw<|Jj<|Jt<|Jg<|JB I (by omega)<|Jv I<|Jn ?_)
   apply aL (k+1,wv,W) ⟨show k+1<=r.ti.length by omega,by rw [K3];exact hW⟩ (show r.ti.length-(k+1)<r.ti.length-k by omega)
   case hs1=>exact cu
   case ht=>(try simp only [Ze,Zf,Za]);exact .cons (.there .here) (.cons (.there .here) (.cons (.there .here) (.cons (.there .here) .nil)))
  | true =>
   have C4:∀ w',aK [] w w'->aj T_ 121 [.agg #[.q r.lv,.q r.ma,.slice a2 r.sr.length oy,d,.slice a r.ti.length cp,p],.q v,.string (r.ti[k]).nm] w' (.bool true):=fun w' hk=>BD ▸ C3 w' hk
   by_cases AP:k8 r v (r.ti[k]).nm=so
   ·have hq:xT r v so k=true:=by unfold xT;rw [yP,BD,decide_eq_true AP];rfl
    have K3:BG r v so (k+1)=BG r v so k++[k]:=by rw [wL,if_pos hq]
    (refine Jr<|JA I<|Jn<|Jq<|Jd I fun ar=>Jk<|Jq<|J0<|Jr<|Jv I<|ab (fZ cP ar) I<|ab (iA (eV.base aB I)) I<|Jz I I fun _ _=>Ja I<|an (.of I) (.of I) .here I I (fq I I I) (bG I) ak<|Ji<|ab (cK df) I<|Jv I<|bP I I ae<|JL I .here I<|ai eK I (fun w' aA=>(C4 w' (Mem.keeps aA)))<|Jv I<|JK I I<|ab (cK df) I<|JK I I<|Jv I<|JK I I<|bP I I ae<|JK I I<|JL I .here I<|JK I I<|ai eK I (fun w' aA=>(BB w' (Mem.keeps aA)))<|JK I I<|Jv I<|JK I I<|ab (vu (.of I) (.of I) AP) I<|ab (eW (.of I) (.of I) (.of I) I) I<|Jn<|cL (.of I)<|Jg<|JL I (.there .here) I<|Jv I<|bu (aC (.o I .nil) I I I I) I fun _ _=>ab (aU (.o I (.o I .nil)) ak) I<|bu (bB (.o I .nil) I I bR bR ak) I fun _ _=>?_)
    rename_i b9 hb9 bq nf bl QA;have LB:=hW.add ⟨.w bq 1 1,[k],0⟩ I;have U7:mZ (W++[⟨.w bq 1 1,[k],0⟩])=mZ W++[.w bq 1 1,.q 0]:=zm W _;have U6:(W++[(⟨.w bq 1 1,[k],0⟩:Wy)]).length=W.length+1:=by simp
    refine bK (.of I) (.of I) df .here ak (by rfl) (gJ I I) (by rfl) (by rfl) (by rfl) fa (by rfl) ?_;intro v';refine aY (by exact .here) fun a' ic e=>?_;subst e
    (refine an (.of I) (.of I) df I I (eL I) (bG I) ak<|Jx<|Jj<|Jt<|Jg<|JB I (by omega)<|Jv I<|Jn ?_)
    refine ch (g:=bq) (E:=3) (ys:=[.q (k:Nat)]) 1 1 cA I I I ?_;refine pE (W:=W) ⟨.w bq 1 1,[k],0⟩ (n:=1) (x:=[.q (k:Nat)]) eG (by exact .here) I I ?_;apply aL (k+1,.slice a' (W.length+1) ic,W++[⟨.w bq 1 1,[k],0⟩]) ⟨show k+1<=r.ti.length by omega,by rw [K3,Zt];exact LB⟩ (show r.ti.length-(k+1)<r.ti.length-k by omega)
    case hs1=>exact cu
    case ht=>
     show bj _ [bo b7 (.cells #[.slice a' (W.length+1) ic] 329 (0,0)),row 244 2 (.slice a' (W.length+1) ic) (W++[(⟨.w bq 1 1,[k],0⟩:Wy)]).length (mZ (W++[⟨.w bq 1 1,[k],0⟩])),iH (W++[⟨.w bq 1 1,[k],0⟩]),JP b3 r (.slice a2 r.sr.length oy) d (.slice a r.ti.length cp) p] _;rw [U6,U7];exact .cons (.there .here) (.cons (.there .here) (.h1 (.cons bF .nil)))
   ·have hq:xT r v so k=false:=by unfold xT;rw [yP,BD,decide_eq_false AP];rfl
    have K3:BG r v so (k+1)=BG r v so k:=by rw [wL,if_neg (by rw [hq];decide),ZS]
    (refine Jr<|JA I<|Jn<|Jq<|Jd I fun ar=>Jk<|Jq<|J0<|Jr<|Jv I<|ab (fZ cP ar) I<|ab (iA (eV.base aB I)) I<|Jz I I fun _ _=>Ja I<|an (.of I) (.of I) .here I I (fq I I I) (bG I) ak<|Ji<|ab (cK df) I<|Jv I<|bP I I ae<|JL I .here I<|ai eK I (fun w' aA=>(C4 w' (Mem.keeps aA)))<|Jv I<|JK I I<|ab (cK df) I<|JK I I<|Jv I<|JK I I<|bP I I ae<|JK I I<|JL I .here I<|JK I I<|ai eK I (fun w' aA=>(BB w' (Mem.keeps aA)))<|JK I I<|Jv I<|JK I I<|ab (Cq (.of I) (.of I) AP) I<|ab (cV (.of I) (.of I) (.of I) I) I<|Jn<|bE (.of I)<|Jw<|Jj<|Jt<|Jg<|JB I (by omega)<|Jv I<|Jn ?_)
    apply aL (k+1,wv,W) ⟨show k+1<=r.ti.length by omega,by rw [K3];exact hW⟩ (show r.ti.length-(k+1)<r.ti.length-k by omega)
    case hs1=>exact cu
    case ht=>(try simp only [Ze,Zf,Za]);exact .cons (.there .here) (.cons (.there .here) (.cons (.there .here) (.cons (.there .here) .nil)))
 ·obtain rfl:k=r.ti.length:=by omega
  refine Jr<|JA I<|Jn<|Jq<|Jc I fun ar=>Jp<|Jl<|Jo<|Jt<|Jq<|Jq ?_;have ui:=jT (iK Li);have eZ:=(jS i0 _ (fY Li)).2;unfold Sr.cells at eZ;have T5:=eZ 1 _ I
  with_reducible refine ef 10 (by kernel_rfl) ?_
  (refine aO (cK cA) I<|lH I I<|pt I I ae<|aO (ie cA) I<|aO (cK cA) I<|lH I I<|gQ ba I (fun w' aA=>(hsrc w' (Mem.keeps aA)))<|aO (au (.of I) (.of I) ui (by omega) (by omega) bn) I<|pt I I ae<|aO (ag (.of I) (At.base T5 I)) I ?_)
  with_reducible refine er ?_
  rw [<- sU]
  with_reducible apply jy
  case hr=>exact eK
  case hd=>rfl
  case ht=>exact bj.nil
  case hc=>
   intro w1 fp aG _ hs1;obtain rfl:fp=[]:=hs1;exact sS (s:=.slice a2 r.sr.length oy) (d:=d) (t:=.slice a r.ti.length cp) (p:=p) v (rq r so) (h.keeps aG.keeps)
  intro y _;dsimp only [id_eq,Zb,Za];refine Jn<|J0 ?_;have sX:(fE r v (rq r so) r.ti.length).length<=r.ti.length:=by
   have:=Z8 (C7 r v (rq r so)) (List.range r.ti.length);rw [ZaM] at this;exact this
  have iz:(BG r v so r.ti.length).length<=r.ti.length:=by
   have:=Z8 (xT r v so) (List.range r.ti.length);rw [ZaM] at this;exact this
  refine jn (ps:=[51,52]) (f:=240) (first:=[]) (cap:=[.pointer (some ⟨y.1,0,none⟩),.pointer (some ⟨y.2.1,0,none⟩),.pointer (some ⟨y.2.2,0,none⟩)]) (ι:=Value×List Wy) (κ:=Empty) (rst:=[JP b3 r (.slice a2 r.sr.length oy) d (.slice a r.ti.length cp) p]) ?hg
   [JP y.1 r (.slice a2 r.sr.length oy) d (.slice a r.ti.length cp) p,bo y.2.1 (.cells #[.q (rq r so)] 3 (0,0)),bo y.2.2 (.cells #[.q v] 3 (0,0))] (MR r v (rq r so)) ?hit
   (fun k x=>Q1 ((BG r v so r.ti.length).map (fun i=>(0,[i]))++((fE r v (rq r so) r.ti.length).take k).map (fun i=>(1,[i]))) x.2)
   (fun x=>[bo b7 (.cells #[x.1] 329 (0,0)),row 244 2 x.1 x.2.length (mZ x.2),iH x.2])
   (fun _=>False) (fun _=>[]) (fun _=>.ret) (wv,W) (by rw [Ze,Zf,ZS];exact hW) ?ht ?hlen ?hps ?round ?kn ?kj
  case hg=>exact Is.of I
  case hit=>intro w' aA;exact KE v (rq r so) h RO.nil (by omega)
  case ht=>
   dsimp only [Zb,Za];exact .cons cA (.cons cA (.cons cA (.h3 .nil)))
  case hlen=>intro vs oQ;obtain ⟨x,_,rfl⟩:=Zo.1 oQ;rfl
  case hps=>intro t ht;simp only [ZO,Zp,or_false] at ht;rcases ht with rfl | rfl <;> exact Zay rfl
  case kj=>intro y;cases y
  case kn=>
   rintro ⟨wv,W⟩ D hq;dsimp only [Zb,Za] at hq ⊢;rw [uM,ZL] at hq;refine aY (E:=244) (sz:=2) (by exact Take.there .here) fun va vc e=>?_;subst e;refine Jj<|Jt<|Jr<|JL I .here I<|Ja I<|Jn<|Je ?_
   with_reducible first|apply aR|apply aS
   case he=>exact dH I I
   case hR=>
    intro w' aA;exact aD (.slice va W.length vc,W) hq (by exact .cons (.there .here) (.cons (.there .here) .nil)) aA I
  case round=>
   rintro l2 rc W2 Wr k ⟨wv,W⟩ vs hsz hk hq hB hF;dsimp only at hq;obtain ⟨i,hi,rfl,ju,Xy⟩:=EE hk;obtain ⟨xk,Lk⟩:=Zm.1 hi;have htk:(fE r v (rq r so) r.ti.length).take (k+1)=(fE r v (rq r so) r.ti.length).take k++[i]:=by rw [Zn xk,Lk]
   have S8:(mZ W).length=W.length*2:=pA W;have hWk:W.length<=2000:=by
    have:=congrArg List.length hq.1;rw [Zd,Zg,Zd,Zd,Zs] at this;omega
   dsimp only [Ti.cells,List.zip_cons_cons,List.zip_nil_right,mw,Zb,Za];refine Jg<|Ja I<|Jn ?_
   with_reducible apply mI
   case ht=>exact .here
   refine aY (E:=244) (sz:=2) bF fun v1 v2 e=>?_;subst e
   (refine J0<|Jg<|JL I (.there .here) I<|Jv I<|bu (aC (.o I .nil) I I I I) I fun _ _=>ab (aU (.o I (.o I .nil)) ak) I<|bu (bB (.o I .nil) I I bR bR ak) I fun _ _=>?_)
   rename_i bq nf bl QA;have LB:=hq.add ⟨.w bq 1 1,[i],1⟩ I;have U7:mZ (W++[⟨.w bq 1 1,[i],1⟩])=mZ W++[.w bq 1 1,.q 1]:=zm W _;have U6:(W++[(⟨.w bq 1 1,[i],1⟩:Wy)]).length=W.length+1:=by simp
   refine bK (.of I) (.of I) df .here ak (by rfl) (gJ I I) (by rfl) (by rfl) (by rfl) fa (by rfl) ?_;intro v';refine aY (by exact .here) fun a' ic e=>?_;subst e
   (refine an (.of I) (.of I) df I I (eL I) (bG I) ak<|Jx<|Jj ?_)
   refine ch (g:=bq) (E:=3) (ys:=[.q (i:Nat)]) 1 1 cA I I I ?_;refine pE (W:=W) ⟨.w bq 1 1,[i],1⟩ (n:=1) (x:=[.q (i:Nat)]) eG (by exact .here) I I ?_;apply l5 (.slice a' (W.length+1) ic,W++[⟨.w bq 1 1,[i],1⟩])
   case ht=>exact df
   case hx=>
    show Q1 _ _;rw [htk,Zt,<- Zh];exact LB
   case h2=>
    show bj _ [bo b7 (.cells #[.slice a' (W.length+1) ic] 329 (0,0)),row 244 2 (.slice a' (W.length+1) ic) (W++[(⟨.w bq 1 1,[i],1⟩:Wy)]).length (mZ (W++[⟨.w bq 1 1,[i],1⟩])),iH (W++[⟨.w bq 1 1,[i],1⟩])] _;rw [U6,U7];exact .cons (.there .here) (.cons (.there .here) (.h1 .nil))
def xU (r:Ro) (v:Int) (so:ByteArray):List (Nat×List Nat):=(BG r v so r.ti.length).map (fun i=>(0,[i]))++(fE r v (rq r so) r.ti.length).map (fun i=>(1,[i]))
theorem sA {r:Ro} (h:so∈cG r):jP r so=rq r so:=by
 unfold jP rq;rw [if_pos (eE h)]
theorem wM {r:Ro} (hn:qw r) (h:gT r r.po) (v:Int) (so:ByteArray) (i:Nat):xT r v so i=(fJ r r.po v so).ca i:=by
 unfold xT fJ;rw [th hn h]
theorem qJ {r:Ro} (v:Int) (so:ByteArray) (m:Int) (i:Nat):C7 r v m i=(decide ((fJ r r.po v so).fr i=m)&&(fJ r r.po v so).fe i):=rfl
theorem Mh {r:Ro} {v:Int} (h:(fJ r r.po v so).ca i=true):(fJ r r.po v so).fe i=false:=by
 unfold fJ at h ⊢;simp only [Zl] at h;simp [h.1]
theorem Gk (N:Wn) (i:Nat):N.uk [i]=if N.fe i then 1 else 0:=by
 unfold Wn.uk;cases h:N.fe i <;> simp [h]
theorem LG (N:Wn) (p:List Nat) {i:Nat} (h:N.fe i=true):N.uk (p++[i])=N.uk p+1:=by
 unfold Wn.uk;rw [List.countP_append];simp [h]
theorem IP (N:Wn) (j:Nat):N.step [] j=(decide (j<N.n)&&(N.ca j||(N.fe j&&decide (N.fr j=N.Fj)))):=by
 unfold Wn.step;simp [Wn.Ph];rfl
theorem step_cons (N:Wn) {x:List Nat} (h:x≠[]) (j:Nat):N.step x j=(decide (j<N.n)&&(!x.contains j&&(N.fe j&&decide (N.fr j=N.fin x)))):=by
 unfold Wn.step;cases x with
 | nil=>exact absurd rfl h
 | cons a l=>simp
theorem Mm {r:Ro} (hn:qw r) (h:gT r r.po) (v:Int) {so:ByteArray} (hs:so∈cG r) (q:List Nat):q∈(xU r v so).map Prod.snd↔q∈(fJ r r.po v so).exts []:=by
 unfold xU Wn.exts Wn.TV;rw [Zt,Zv,Zat,Zat];simp only [Zo,Za,Function.comp,Zy,ZP,BG,fE];have bh:∀ j,(fJ r r.po v so).step [] j=true↔j<r.ti.length/\(xT r v so j=true\/C7 r v (rq r so) j=true):=fun j=>by
  rw [IP,wM hn h,qJ v so];have e0:(fJ r r.po v so).Fj=rq r so:=sA hs;rw [e0];simp only [Zl,ZQ,decide_eq_true_eq];constructor
  ·rintro ⟨h1,h2 | ⟨h3,h4⟩⟩
   ·exact ⟨h1,.inl h2⟩
   ·exact ⟨h1,.inr ⟨h4,h3⟩⟩
  ·rintro ⟨h1,h2 | ⟨h3,h4⟩⟩
   ·exact ⟨h1,.inl h2⟩
   ·exact ⟨h1,.inr ⟨h4,h3⟩⟩
 constructor
 ·rintro (⟨j,⟨h1,h2⟩,rfl⟩ | ⟨j,⟨h1,h2⟩,rfl⟩)
  ·exact ⟨j,⟨h1,(bh j).2 ⟨h1,.inl h2⟩⟩,I⟩
  ·exact ⟨j,⟨h1,(bh j).2 ⟨h1,.inr h2⟩⟩,I⟩
 ·rintro ⟨j,⟨h1,h2⟩,rfl⟩;rcases ((bh j).1 h2).2 with h3 | h3
  ·exact .inl ⟨j,⟨h1,h3⟩,I⟩
  ·exact .inr ⟨j,⟨h1,h3⟩,I⟩
theorem TC {r:Ro} (hn:qw r) (h:gT r r.po) (v:Int) {so:ByteArray} {x:Nat×List Nat} (hx:x∈xU r v so):x.1=(fJ r r.po v so).uk x.2:=by
 unfold xU at hx;rcases Zv.1 hx with hx | hx
 ·obtain ⟨i,hi,rfl⟩:=Zo.1 hx;have:=(Zy.1 hi).2;rw [wM hn h] at this;rw [Gk,Mh this];rfl
 ·obtain ⟨i,hi,rfl⟩:=Zo.1 hx;have:=(Zy.1 hi).2;rw [qJ v so,Zl] at this;rw [Gk,this.2];rfl
theorem PK {r:Ro} (hn:qw r) (h:gT r r.po) (v:Int) {so:ByteArray} (h6:r.ti.length<=6):(fJ r r.po v so).wt ((xU r v so).map Prod.snd)<=1957:=by
 have e:(xU r v so).map Prod.snd=(BG r v so r.ti.length++fE r v (rq r so) r.ti.length).map (fun i=>([]:List Nat)++[i]):=by
  unfold xU;rw [Zt,Zat,Zat,Zt];rfl
 rw [e,Wn.DR];have hl:(BG r v so r.ti.length++fE r v (rq r so) r.ti.length).length<=r.ti.length:=by
  refine kZ _ _ ?_ ?_
  ·rw [ZB];refine ⟨List.nodup_range.filter _,List.nodup_range.filter _,?_⟩;intro a ha b hb e;subst e;have h1:=(Zy.1 ha).2;have h2:=(Zy.1 hb).2;rw [wM hn h] at h1;rw [qJ v so,Zl] at h2;rw [Mh h1] at h2;cases h2.2
  ·intro x hx;rcases Zv.1 hx with hx | hx <;> exact ZP.1 (Zy.1 hx).1
 have hN:(fJ r r.po v so).n=r.ti.length:=rfl;rw [hN];generalize (BG r v so r.ti.length++fE r v (rq r so) r.ti.length).length=k at hl;generalize r.ti.length=n at hl h6;have:∀ n,n<=6->n*qj (n-1)<=1957:=by decide
 exact ZX (Z4 _ hl) (by simpa using this n h6)
theorem HR {r:Ro} {v:Int} {x:List Nat} (hx:x≠[]):(fJ r r.po v so).exts x=((fE r v ((fJ r r.po v so).fin x) r.ti.length).filter fun i=>!x.contains i).map fun i=>x++[i]:=by
 unfold Wn.exts Wn.TV fE;rw [ZbD];congr 1;apply Zbb;intro j hj;have nZ:=ZP.1 hj;rw [step_cons _ hx,qJ v so];have:decide (j<(fJ r r.po v so).n)=true:=decide_eq_true nZ;rw [this,Zaz];congr 1;exact Bool.and_comm _ _
theorem UY {r:Ro} {v:Int} (p q:List Nat):(fJ r r.po v so).lt p q=wl ((fJ r r.po v so).uk p,p) ((fJ r r.po v so).uk q,q):=rfl
def oq (r:Ro) (de:ByteArray):Int:=(r.de.getD (bA (bU r) de).toNat ⟨⟨#[]⟩,0,false⟩).mx
theorem LS {r:Ro} {de:ByteArray} (h:de∈bU r):jO r de=oq r de:=by
 unfold jO oq;rw [if_pos (eE h)]
structure qf (N:Wn) (dm:Int) (Q kD:List Wy):Prop where
 sub:∀ x∈Q,x∈kD
 one:∀ x∈kD,x.v.oneCell'=true
 uk:∀ x∈Q,x.f=N.uk x.p
 inv:N.Inv dm (Q.map Wy.p)
 y6:N.wt (Q.map Wy.p)<=1957
theorem qf.len {Q kD:List Wy} (h:qf N dm Q kD):Q.length<=1957:=by
 have:=N.Im (Q.map Wy.p);rw [Zd] at this;exact ZX this h.y6
theorem qf.begin {r:Ro} (hn:qw r) (hv:gT r r.po) (v:Int) {so de:ByteArray} (hs:so∈cG r) (h6:r.ti.length<=6) (hne:rq r so≠oq r de) {W:List Wy} (hW:Q1 (xU r v so) W):qf (fJ r r.po v so) (oq r de) W W:=by
 have hp:W.map Wy.p=(xU r v so).map Prod.snd:=by rw [<- hW.1,Zat];rfl
 refine ⟨fun _ h=>h,hW.2,fun x hx=>?_,?_,?_⟩
 ·have:wk x∈xU r v so:=by rw [<- hW.1];exact ZU hx
  exact TC hn hv v this
 ·refine Wn.Hu (by rw [show (fJ r r.po v so).Fj=jP r so from I,sA hs];exact hne) fun q=>?_;rw [hp];exact Mm hn hv v hs q
 ·rw [hp];exact PK hn hv v h6
theorem qf.perm {Q Q' kD:List Wy} (h:qf N dm Q kD) (hp:Q'.Perm Q):qf N dm Q' kD:=by
 have hm:=hp.map Wy.p;refine ⟨fun x hx=>h.sub x (hp.mem_iff.1 hx),h.one,fun x hx=>h.uk x (hp.mem_iff.1 hx),⟨fun q hq=>h.inv.ok q (hm.mem_iff.1 hq),fun p h1 h2=>?_⟩,by rw [Wn.Fu hm];exact h.y6⟩;obtain ⟨q,hq,h3⟩:=h.inv.cover p h1 h2;exact ⟨q,hm.mem_iff.2 hq,h3⟩
theorem qf.found {r:Ro} {v:Int} {x:Wy} {R kD:List Wy} (h:qf (fJ r r.po v so) dm (x::R) kD) (hs:(x::R).Pairwise (fun x y=>wl (y.f,y.p) (x.f,x.p)=false)) (hf:(fJ r r.po v so).fin x.p=dm):(fJ r r.po v so).least dm x.p:=by
 refine Wn.Ht h.inv (by simp) (fun q hq=>?_) hf;obtain ⟨y,hy,rfl⟩:=Zo.1 hq;rw [UY,<- h.uk x (by simp),<- h.uk y hy];rcases ZO.1 hy with rfl | hy
 ·exact xZ _
 ·exact (ZaU.1 hs).1 y hy
theorem qf.next {r:Ro} {v:Int} {x:Wy} {R W kD og:List Wy} (h:qf (fJ r r.po v so) dm (x::R) kD) (hf:(fJ r r.po v so).fin x.p≠dm) (iO:∀ y∈R++W,y∈og) (ia:∀ y∈og,y.v.oneCell'=true)
  (hW:W.map wk=((fE r v ((fJ r r.po v so).fin x.p) r.ti.length).filter fun i=>!x.p.contains i).map fun i=>(x.f+1,x.p++[i])):qf (fJ r r.po v so) dm (R++W) og/\(fJ r r.po v so).wt ((R++W).map Wy.p)<(fJ r r.po v so).wt ((x::R).map Wy.p):=by
 have hx:=h.inv.ok x.p (by simp);have hWp:W.map Wy.p=(fJ r r.po v so).exts x.p:=by
  rw [HR hx.2];have:=congrArg (fun l=>l.map Prod.snd) hW
  simp only [Zat] at this;exact this
 have aN:(fJ r r.po v so).wt ((R++W).map Wy.p)<(fJ r r.po v so).wt ((x::R).map Wy.p):=by
  rw [Zt,hWp,Wn.xY,ZZ,Wn.wt];have:=Wn.M9 hx.1;omega
 refine ⟨⟨iO,ia,fun y hy=>?_,?_,ZX (Nat.le_of_lt aN) h.y6⟩,aN⟩
 ·rcases Zv.1 hy with hy | hy
  ·exact h.uk y (ZW _ hy)
  ·have h1:wk y∈W.map wk:=ZU hy;rw [hW] at h1;obtain ⟨i,hi,e⟩:=Zo.1 h1;have e1:x.f+1=y.f:=congrArg Prod.fst e;have e2:x.p++[i]=y.p:=congrArg Prod.snd e;have h2:=(Zy.1 (Zy.1 hi).1).2;rw [qJ v so,Zl] at h2;rw [<- e1,<- e2,LG _ _ h2.2,h.uk x (by simp)]
 ·rw [Zt,hWp];refine Wn.KT h.inv (fun q=>?_) hf;rw [ZZ,ZO]
end Go.Proofs.A1
namespace Go.SL
open Go
theorem FL {h:Nat->Option Obj} {E:TypeId} {sz:Nat} {v:Value} {n:Nat} {xs:List Value} {fp:List Nat} (hr:(kH E sz v n xs).sat h fp):fp=v.ownBlock.toList:=by
 obtain ⟨_,h1⟩:=hr;rcases h1 with ⟨rfl,rfl,_⟩ | ⟨g,off,cap,cur,rfl,rfl,_⟩
 ·simp [Value.ownBlock]
 ·simp [Value.ownBlock]
section
variable {P:Program} {c:Cx} {D:List Nat} {sl:aH} {hs hs':List bd} {d:Nat} {ty:TypeId} {pos:String} {af:Array Edge} {r:Option Nat} {ops:Array Oper} {Q:Exit->Act->World->Prop} {rest:List Oper}
theorem D5 {t e:TypeId} {agg:Bool} {size bytes:Nat} {z:Value} {x y:Operand} {v:Value} {n b o m cp:Nat} {xs news:List Value} [hu:ij P t (.slice e)] [hT:Ty P e agg size] [hZ:lU P e z] [hB:u0 P e bytes]
  (hx:Is sl x v) (hy:Is sl y (.slice (some ⟨b,o,none⟩) m cp)) (ht:Take hs (kH e size v n xs) hs') (hn:eV c hs b o news) (hl:news.length=m*size) (h1:∀ u∈news,u.oneCell'=true) (hz:z.cells.size=size) (hsz:Nat.blt 0 size=true) (hb0:Nat.blt 0 bytes=true)
  (hb:(n+m)*bytes<=140737488355328) (hd:Nat.blt d c.nt=true)
  (k:∀ v',Tr c D ((d,v')::sl) (kH e size v' (n+m) (xs++news)::hs') (WL P r ops Q rest)) :
  Tr c D sl hs (WL P r ops Q (⟨some d,.call ⟨.builtin .append,#[x,y],#[t,t]⟩,ty,pos,af,none⟩::rest)):=fun a w bh=>by
 obtain ⟨de,i,lR,hi,_,hG⟩:=Ty.parts (P:=P) (t:=e) (agg:=agg) (n:=size);have hzero:i.zero=some z:=by have:=hZ.eq;rw [hi] at this;simpa using this
 have gV:i.bytes=bytes:=by have:=hB.eq;rw [hi] at this;simpa using this
 have Xu:=bh.qD;have hm:=bh.mem.take (ht.append _);obtain ⟨kk,fp,jv,⟨f1,f2,rfl,Qg,h2⟩,EW⟩:=hm;obtain ⟨hlen,hrow⟩:=id Qg;have C5:0<bytes:=by simpa using hb0
 have Vf:0<size:=by simpa using hsz
 have bY:n+m<=maxLen:=by
  have:(n+m)*1<=(n+m)*bytes:=Zbx _ C5;unfold maxLen;omega
 have rX:∀ j u,news[j]? = some u->w.cell? ((⟨b,o,none⟩:Addr).add j)=some u:=fun j u hj=>by rw [eT];exact hn.get j u hj w Xu
 have VD:(xs++news).length=(n+m)*size:=by rw [Zg,hlen,hl,Nat.add_mul]
 have key:∃ v' w' lS,(Builtin.append_ #[t,t] ty #[v,.slice (some ⟨b,o,none⟩) m cp]).run P w=.ok v' w'/\aK f1 w w'/\lS.Nodup/\(kH e size v' (n+m) (xs++news)).sat (hp w') lS/\∀ q∈lS,q∈f1\/w.heap.size<=q:=by
  rcases hrow with ⟨rfl,rfl,rfl⟩ | ⟨g,off,cap,cur,rfl,rfl,hg,hnc,hcm,hfit,htk⟩
  ·have rW:w.ownsRow 0 e size (.z) 0 xs:=⟨hlen,.inl ⟨I,I⟩⟩;obtain ⟨v',w',ja,rV,wg,_⟩:=run_append_own (P:=P) w 0 t ty e i z size bytes hu.eq hi hzero hG gV hz (by simpa using hsz) _ 0 xs rW ⟨b,o,none⟩ m cp news hl rX h1 bY hb (Zi _);have xI:=qT (P:=P) (t:=t) (ty:=ty) hu.eq hi hzero (by rw [hG];exact rW) (a:=⟨b,o,none⟩) (m:=m) (cp:=cp) (by rw [hG];exact hl) rX h1 bY (by rw [gV];exact hb) ja;refine ⟨v',w',v'.ownBlock.toList,ja,⟨wg.os,wg.tape,wg.output,xI.2,wg.size,fun q hq _=>wg.block q hq (by simp [Value.ownBlock])⟩,by cases v'.ownBlock <;> simp,oG (l9 rV),fun q hq=>?_⟩
   have xj:v'.ownBlock=some q:=by simpa [Option.mem_toList] using hq
   rcases xI.1 with h | h
   ·rw [xj] at h;simp [Value.ownBlock] at h
   ·rw [h] at xj;cases xj;exact .inr (Zz _)
  ·have VS:w.heap[g]? = some (.cells cur e (0,0)):=hg;have hgs:g<w.heap.size:=(Z2.1 VS).1;have Sz:cur.toList=cur.toList.take off++(xs++cur.toList.drop (off+n*size)):=by
    rw [<- htk]
    conv=>lhs;rw [<- ZV off cur.toList]
    congr 1
    conv=>lhs;rw [<- ZV (n*size) (cur.toList.drop off)]
    rw [Zbi]
   have Qv:cur.size=cur.toList.length:=by simp
   have hns:n*size<=cap*size:=Z4 _ hnc;have Bw:(cur.toList.take off).length=off:=by rw [Zs];omega
   by_cases yQ:n+m<=cap
   ·have hms:(n+m)*size<=cap*size:=Z4 _ yQ;rw [Nat.add_mul] at hms;have SX:w.heap[g]? = some (.cells cur.toList.toArray e (0,0)):=by rw [ZaW];exact VS
    obtain ⟨w',h3,h4,h5⟩:=gR (P:=P) (o:=off+n*size) news 0 cur.toList w SX h1 (by omega);have hfc:=run_firstCells_some (P:=P) w i.size m ⟨b,o,none⟩ m cp news (by rw [hG];exact hl) rX;refine ⟨.slice (some ⟨g,off,none⟩) (n+m) cap,w',[g],?_,h4,by simp,⟨VD,.inr ⟨g,off,cap,_,I,I,h5,yQ,hcm,?_,?_⟩⟩,fun q hq=>.inl hq⟩
    ·subst hG;have LB:(⟨g,off,none⟩:Addr).add (n*i.size)=⟨g,off+n*i.size,none⟩:=eT _ _ _;simp [Builtin.append_,aV hu.eq,sizeOf,typeInfo,hi,Builtin.lenOf,yQ,hfc,LB,h3]
    ·rw [Zbs,kr,<- Qv];exact hfit
    ·show ((setCells cur.toList (off+n*size+0) news).drop off).take ((n+m)*size)=xs++news;have e1:setCells cur.toList (off+n*size+0) news=cur.toList.take off++xs++(news++(cur.toList.drop (off+n*size)).drop news.length):=by
      have Ua:cur.toList.drop (off+n*size)=(cur.toList.drop (off+n*size)).take news.length++(cur.toList.drop (off+n*size)).drop news.length:=(ZV _ _).symm;have hle:((cur.toList.drop (off+n*size)).take news.length).length=news.length:=by rw [Zs,ZaS];omega
      have e2:cur.toList=(cur.toList.take off++xs)++((cur.toList.drop (off+n*size)).take news.length++(cur.toList.drop (off+n*size)).drop news.length):=by rw [<- Ua,Zh];exact Sz
      have S7:(cur.toList.take off++xs).length=off+n*size+0:=by rw [Zg,Bw,hlen,Zau]
      conv=>lhs;rw [e2]
      rw [<- S7];exact zS _ _ _ _ hle.symm
     rw [e1,Zh,<- Bw]
     conv=>lhs;rw [Bw]
     rw [List.drop_left' Bw,<- VD,<- Zh,List.take_left]
   ·have holds:∀ j u,xs[j]? = some u->w.cell? ((⟨g,off,none⟩:Addr).add j)=some u:=fun j u hj=>by
     rw [eT];simp only [World.cell?,VS];rw [<- htk] at hj;have aN:j<n*size:=by
      have:=(Zm.1 hj).1;rw [Zs] at this;omega
     rw [List.getElem?_take_of_lt aN,Zbj] at hj;simpa using hj
    obtain ⟨v',w',ja,rV,wg⟩:=run_append_arg_grows (P:=P) (w:=w) t ty e i z size bytes hu.eq hi hzero hG gV hz Vf ⟨g,off,none⟩ n cap xs hlen holds ⟨b,o,none⟩ m cp news hl rX (by omega) bY hb;have hr:=run_append_grow (P:=P) w t ty e i z hu.eq hi hzero ⟨g,off,none⟩ n cap xs (by rw [hG];exact hlen) holds ⟨b,o,none⟩ m cp news (by rw [hG];exact hl) rX (by omega) (by unfold maxLen at bY;omega) (growslice_fits (by omega) (by rw [gV];exact hb));have EX:w.drawn<=w'.drawn/\v'.ownBlock=some w.heap.size:=by
     rw [ja] at hr;cases hr;exact ⟨Nat.le_succ _,I⟩
    have Vt:w'.ownsRow 0 e size v' (n+m) (xs++news):=⟨rV.1,rV.2.imp id fun ⟨g',ic,abm,e1,_,r⟩=>⟨g',ic,abm,e1,Zi _,r⟩⟩
    refine ⟨v',w',v'.ownBlock.toList,ja,⟨wg.os,wg.tape,wg.output,EX.1,wg.size,fun q hq _=>wg.block q hq (by simp)⟩,by cases v'.ownBlock <;> simp,oG (l9 Vt),fun q hq=>?_⟩
    rw [EX.2] at hq;simp at hq;exact .inr (by omega)
 obtain ⟨v',w',lS,ja,hk,hnf,fV,xI⟩:=key;refine lY I ⟨dQ _ _ _ _ _,?_⟩;rw [Oper.semAt_eq _ _ _ (by simp)];have:(execOp a.eval ⟨some d,.call ⟨.builtin .append,#[x,y],#[t,t]⟩,ty,pos,af,none⟩).run P w=.ok (.value v') w':=by
  simp [execOp,resolve,invoke,builtin,hx a bh.cZ,hy a bh.cZ,ja]
 rw [this];refine k v' _ _ ((bh.put (by simpa [Z9] using hd) v').heap ?_);have k6:Mem c ([kH e size v n xs]++(hs'++nb D)) w:=bh.mem.take (ht.append _);have:=Mem.change (Bs:=[kH e size v' (n+m) (xs++news)]) (w':=w') k6 fun fp uP hf=>by
  obtain ⟨g1,g2,e1,hr,e2⟩:=hf;obtain rfl:g2=[]:=e2;have h3:=FL hr;have h4:=FL Qg;rw [ZS] at e1;subst e1;rw [h3,<- h4];exact ⟨hk,lS,hnf,⟨lS,[],by simp,fV,I⟩,xI⟩
 exact this
end
end Go.SL
