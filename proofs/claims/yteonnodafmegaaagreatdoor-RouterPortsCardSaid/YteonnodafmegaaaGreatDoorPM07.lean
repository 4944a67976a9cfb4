/- Parts of the proof: KF KV GkOff GkSortK TryzSortF KG KH KI KJq GkAppO. -/
import Derived.Test.YteonnodafmegaaaGreatDoorPM06
import Derived.Test.YteonnodafmegaaaGreatDoorPM04
import Derived.Test.YteonnodafmegaaaGreatDoorPM03
import Derived.Test.YteonnodafmegaaaGreatDoorPM02
import Derived.ArgAppend
import Derived.Shelf.SlSortCmp.WholeK
import Derived.Shelf.SlSortCmp.NoneTotal
import Derived.Shelf.SlicesG.Cmp
import Derived.Ground.SlsfProg
import Derived.Ground.SlgcProg
import Derived.Ground.NamesProg
import Derived.Ground.Names2Prog
import Derived.Test.YteonnodafmegaaaGreatDoorProg
set_option linter.unusedSectionVars false
set_option linter.unusedVariables false
set_option linter.unusedSimpArgs false
namespace Go.Proofs.A1
open Go Go.SL
open Tryz
open Tryz renaming prog->T_
variable {B:Nat->ByteArray} {fp:List Nat} {vs:List Value} {w:World}
theorem Aw :∀ {cs cur:List Value} {o:Nat},o+vs.length<=cs.length->setCells (cs++cur) o vs=setCells cs o vs++cur:=by
 induction vs with
 | nil=>intro cs cur o _;rfl
 | cons v vs ih =>
  intro cs cur o h;simp only [ZB] at h;rw [setCells,setCells,Zbr _ _ (by omega),ih (by simp;omega)]
theorem yi {cs vs:List Value} (h:vs.length=cs.length):setCells cs 0 vs=vs:=by
 apply Zat;intro k;rw [hG _ _ _ _ (by omega)];by_cases hk:k<vs.length
 ·rw [if_pos (by omega),Nat.sub_zero]
 ·rw [if_neg (by omega),Zal (by omega),Zal (by omega)]
theorem N8 {n sz i:Nat} {f:Nat->List Value} (hf:∀ i,i<n->(f i).length=sz) (hi:i<n) (hv:vs.length=sz):setCells (tY n f) (i*sz) vs=tY n (fun k=>if k=i then vs else f k):=by
 have:=N7 (o:=0) hf hi (by omega:0+vs.length<=sz);rw [Zas] at this;rw [this];apply nC;intro k _;show (if k=i then _ else _)=(if k=i then _ else _)
 split
 ·exact yi (by rw [hf i hi,hv])
 ·rfl
def swp (B:Nat->ByteArray) (m k:Nat):Nat->ByteArray:=fun x=>if x<k\/m-k<=x then B (m-1-x) else B x
def s1 (B:Nat->ByteArray):Nat->List Value:=fun i=>[.string (B i)]
theorem py (B:Nat->ByteArray) (m:Nat):∀ i,i<m->(s1 B i).length=1:=fun _ _=>rfl
theorem Ku {m i:Nat} (cur:List Value) (h:i<m):(tY m (s1 B)++cur)[i*1]? = some (.string (B i)):=by
 have hl:=iT (py B m);rw [Zx (by rw [hl];omega)];exact Aq (j:=0) (py B m) h (by omega)
theorem Kt {B C:Nat->ByteArray} {m i:Nat} {v:ByteArray} (cur:List Value) (h:i<m) (hC:∀ k,k<m->C k=if k=i then v else B k):setCells (tY m (s1 B)++cur) (i*1) [.string v]=tY m (s1 C)++cur:=by
 have hl:=iT (py B m);rw [Aw (by rw [hl];simp;omega),N8 (py B m) h I];congr 1;apply nC;intro k hk;unfold s1;rw [hC k hk];split <;> rfl
set_option maxHeartbeats 4000000 in
theorem KB {v:Value} {m:Nat} (hm:0<m) (ahK:m<=1000000) (hn:fp.Nodup) (hs:cy (hp w) [row 9 1 v m (tY m (s1 B))] fp) :
  a8 T_ 117 [v] w fp (fun _:Unit=>True) (fun _=>.tuple #[]) (fun _=>[row 9 1 v m (tY m (s1 fun i=>B (m-1-i)))]):=by
 refine dT func117 I I hn hs ?_;refine cm (by exact .here) hm ?_;rintro g cap cur rfl dC pO hsz Pu;have hlen:=iT (py B m);refine Jr<|Jv I<|JI I<|JS I (by omega)<|Ja I<|Ja I<|Jn<|J0 ?_;refine aV (fun k:Nat=>2*k<=m) (fun k=>[(2,.int .i64 k),(3,.int .i64 ((m-1-k:Nat):Int)),(0,.slice (some ⟨g,0,none⟩) m cap)]) (fun k=>[bu g (.cells (tY m (s1 (swp B m k))++cur).toArray 9 (0,0))]) (fun k=>m-2*k) ?_ ?_
 ·apply aH 0 (by omega)
  case hs1=>exact .cons I (.Mx I (by congr 1;omega) (.cons I .nil))
  case ht=>
   rw [show tY m (s1 (swp B m 0))=tY m (s1 B) from nC fun i hi=>by unfold s1 swp;rw [if_neg (by omega)]]
   exact .h1 .nil
 intro k hk;have nu:=iT (py (swp B m k) m);by_cases aL:k<m-1-k
 ·have hj:m-1-k<m:=by omega
  have T1:k<m:=by omega
  have c1:=Ku (B:=swp B m k) cur T1;have c2:=Ku (B:=swp B m k) cur hj;have LV:=Kt (C:=fun i=>if i=k then swp B m k (m-1-k) else swp B m k i) cur T1 (v:=swp B m k (m-1-k)) (B:=swp B m k) fun i _=>rfl
  have T7:=Kt (C:=swp B m (k+1)) cur hj (v:=swp B m k k) (B:=fun i=>if i=k then swp B m k (m-1-k) else swp B m k i) fun i hi=>by
   symm;unfold swp;by_cases e1:i=m-1-k
   ·subst e1;rw [if_pos I,if_neg (by omega),if_pos (by omega)];congr 1;omega
   ·rw [if_neg e1];by_cases e2:i=k
    ·subst e2;rw [if_pos I,if_neg (by omega),if_pos (by omega)]
    ·rw [if_neg e2];by_cases e3:i<k\/m-k<=i
     ·rw [if_pos e3,if_pos (by omega)]
     ·rw [if_neg e3,if_neg (by omega)]
  have tJ:k*1+1<=(tY m (s1 (swp B m k))++cur).length:=by rw [Zg,nu];omega
  have sJ:(m-1-k)*1+1<=(tY m (s1 (fun i=>if i=k then swp B m k (m-1-k) else swp B m k i))++cur).length:=by rw [Zg,iT (py _ m)];omega
  refine Jq<|Jr<|Jv I<|Jv I<|JA I<|Jn<|Jd I fun aA=>Jk<|Jq<|J0 ?_
  with_reducible refine FJ 16 I ?_
  (refine dB 0 I jw jw jw (fun w ρ=>rfl) (fun w=>(aQ (.of I))) I<|dB 1 I jw jw jw (fun w ρ=>rfl) (fun w=>(aQ (.of I))) I<|dB 2 I jw jw jw (fun w ρ=>rfl) (fun w=>(aQ (.of I))) I<|dB 3 I jw jw jw (fun w ρ=>rfl) (fun w=>(aQ (.of I))) I<|dB 4 I jw jw jw (fun w ρ=>rfl) (fun w=>(aQ (.of I))) I<|dB 5 I jw jw jw (fun w ρ=>rfl) (fun w=>(aQ (.of I))) I<|dB 6 I jw jw jw (fun w ρ=>rfl) (fun w=>(ao (.of I) (.of I) I (by omega) (by omega) aW)) I<|dB 8 I jw jw jw (fun w ρ=>rfl) (fun w=>(aQ (.of I))) I<|dB 9 I jw jw jw (fun w ρ=>rfl) (fun w=>(aQ (.of I))) I<|dB 10 I jw jw jw (fun w ρ=>rfl) (fun w=>(ao (.of I) (.of I) I (by omega) (by omega) aW)) I ?_)
  refine bF (rs:=[7,11]) (by kernel_rfl) (by simp) (Zp.2 ⟨?_,Zp.2 ⟨?_,fun _ h=>absurd h Zo⟩⟩)
  ·refine bK I ?_
   (refine ab (ag (.of I) (At.kB .here c2)) I<|Jn ?_)
   ·refine bF (rs:=[11]) (by kernel_rfl) (by simp) (Zp.2 ⟨?_,fun _ h=>absurd h Zo⟩);refine bK I ?_
    (refine ab (ag (.of I) (At.kB .here c1)) I<|Jn ?_)
    refine dB 12 I jw jw jw (fun w ρ=>rfl) (fun w=>(ao (.of I) (.of I) I (by omega) (by omega) aW)) I ?_;refine bF (rs:=[13]) (by kernel_rfl) (by simp) (Zp.2 ⟨?_,fun _ h=>absurd h Zo⟩);refine bK I ?_
    with_reducible apply ak
    case hx=>exact Is.of I
    case hy=>exact Is.of I
    case ht=>exact .here
    case hv=>exact I
    case hl=>rfl
    case h1=>exact bR I ib
    case h2=>exact tJ
    case he=>exact LV
    refine Jn ?_;refine dB 14 I jw jw jw (fun w ρ=>rfl) (fun w=>(ao (.of I) (.of I) I (by omega) (by omega) aW)) I ?_;refine bF (rs:=[15]) (by kernel_rfl) (by simp) (Zp.2 ⟨?_,fun _ h=>absurd h Zo⟩);refine bK I ?_
    with_reducible apply ak
    case hx=>exact Is.of I
    case hy=>exact Is.of I
    case ht=>exact .here
    case hv=>exact I
    case hl=>rfl
    case h1=>exact bR I ib
    case h2=>exact sJ
    case he=>exact T7
    refine Jn ?_
    with_reducible refine cn (by kernel_rfl) ?_
    refine Jj<|Jt<|Jg<|Jv I<|JB I (by omega)<|Jv I<|JS I (by omega)<|Ja I<|Ja I<|Jn ?_;apply aG (k+1) (by omega) (by omega)
    case hs1=>exact .cons I (.Mx I (by congr 1;omega) (.cons I .nil))
    case ht=>exact jv
  ·refine bK I ?_
   (refine ab (ag (.of I) (At.kB .here c1)) I<|Jn ?_)
   ·refine bF (rs:=[7]) (by kernel_rfl) (by simp) (Zp.2 ⟨?_,fun _ h=>absurd h Zo⟩);refine bK I ?_
    (refine ab (ag (.of I) (At.kB .here c2)) I<|Jn ?_)
    refine dB 12 I jw jw jw (fun w ρ=>rfl) (fun w=>(ao (.of I) (.of I) I (by omega) (by omega) aW)) I ?_;refine bF (rs:=[13]) (by kernel_rfl) (by simp) (Zp.2 ⟨?_,fun _ h=>absurd h Zo⟩);refine bK I ?_
    with_reducible apply ak
    case hx=>exact Is.of I
    case hy=>exact Is.of I
    case ht=>exact .here
    case hv=>exact I
    case hl=>rfl
    case h1=>exact bR I ib
    case h2=>exact tJ
    case he=>exact LV
    refine Jn ?_;refine dB 14 I jw jw jw (fun w ρ=>rfl) (fun w=>(ao (.of I) (.of I) I (by omega) (by omega) aW)) I ?_;refine bF (rs:=[15]) (by kernel_rfl) (by simp) (Zp.2 ⟨?_,fun _ h=>absurd h Zo⟩);refine bK I ?_
    with_reducible apply ak
    case hx=>exact Is.of I
    case hy=>exact Is.of I
    case ht=>exact .here
    case hv=>exact I
    case hl=>rfl
    case h1=>exact bR I ib
    case h2=>exact sJ
    case he=>exact T7
    refine Jn ?_
    with_reducible refine cn (by kernel_rfl) ?_
    refine Jj<|Jt<|Jg<|Jv I<|JB I (by omega)<|Jv I<|JS I (by omega)<|Ja I<|Ja I<|Jn ?_;apply aG (k+1) (by omega) (by omega)
    case hs1=>exact .cons I (.Mx I (by congr 1;omega) (.cons I .nil))
    case ht=>exact jv
 ·have aaW:tY m (s1 (swp B m k))=tY m (s1 fun i=>B (m-1-i)):=nC fun i hi=>by
   unfold s1 swp;by_cases e:i<k\/m-k<=i
   ·rw [if_pos e]
   ·rw [if_neg e];show [Value.string (B i)]=[Value.string (B (m-1-i))];rw [show m-1-i=i by omega]
  rw [aaW];have ET:=iT (py (fun i=>B (m-1-i)) m)
  refine ct (n:=m) (cap:=cap) (sz:=1) (show Take _ (bu g (.cells ((tY m (s1 fun i=>B (m-1-i)))++cur).toArray 9 (0,0))) _ by exact .here) dC pO (by rw [Zg,ET];rw [Zg,Pu] at hsz;omega) ET ?_;refine Jq<|Jr<|Jv I<|Jv I<|JA I<|Jn<|Jc I fun aA=>Jp<|Jl<|Jo ?_
  with_reducible first|apply aO|apply aP
  case he=>exact oQ I
  case hR=>
   intro w' aB;exact aC () trivial (by exact .h1 .nil) aB I
theorem FT (l:List ByteArray):aR l=tY l.length (s1 fun i=>l.getD i ⟨#[]⟩):=by
 rw [Eg];apply Zat;intro k;have h1:((List.range l.length).map (s1 fun i=>l.getD i ⟨#[]⟩)).flatten=(List.range l.length).map fun i=>Value.string (l.getD i ⟨#[]⟩):=by
  have:=mj ((List.range l.length).map fun i=>Value.string (l.getD i ⟨#[]⟩))
  rw [ZaE] at this;exact this
 rw [h1];unfold aR;by_cases h:k<l.length
 ·simp [h,Zk]
 ·simp [h]
theorem Ob (l:List ByteArray):aR l.reverse=tY l.length (s1 fun i=>l.getD (l.length-1-i) ⟨#[]⟩):=by
 rw [FT,List.length_reverse];apply nC;intro i hi;show [Value.string (l.reverse.getD i ⟨#[]⟩)]=[Value.string (l.getD (l.length-1-i) ⟨#[]⟩)];rw [Zk,Zk,List.getElem?_reverse hi]
theorem Es {v:Value} {l:List ByteArray} {n:Nat} (hl:n=l.length) (hm:n<=1000000) (hn:fp.Nodup) (hs:cy (hp w) [row 9 1 v n (aR l)] fp) :
  a8 T_ 117 [v] w fp (fun _:Unit=>True) (fun _=>.tuple #[]) (fun _=>[row 9 1 v n (aR l.reverse)]):=by
 subst hl;by_cases h0:0<l.length
 ·rw [FT] at hs;rw [Ob];exact KB h0 hm hn hs
 ·obtain rfl:l=[]:=Z5 (by omega);show a8 T_ 117 [v] w fp (fun _:Unit=>True) (fun _=>.tuple #[]) (fun _=>[row 9 1 v 0 []])
  replace hs:cy (hp w) [row 9 1 v 0 []] fp:=hs
  refine dT func117 I I hn hs ?_;refine aK (E:=9) (sz:=1) (by exact .here) fun a cp e=>?_;subst e;refine Jr<|Jv I<|JI I<|JS I (by omega)<|Ja I<|Ja I<|Jn<|J0 ?_;refine aV (fun _:Nat=>True) (fun k=>[(2,.q 0),(3,.q (-1)),(0,.slice a 0 cp)]) (fun k=>[row 9 1 (.slice a 0 cp) 0 []]) (fun k=>k) ?_ ?_
  ·apply aH 0 trivial
   case hs1=>exact bT
   case ht=>exact jv
  intro k _;refine Jq<|Jr<|Jv I<|Jv I<|JA I<|Jn<|Jc I fun aA=>Jp<|Jl<|Jo ?_
  with_reducible first|apply aO|apply aP
  case he=>exact oQ I
  case hR=>
   intro w' aB;exact aC () trivial (by exact .h1 .nil) aB I
theorem MV {r:Ro} {s d t p:Value} (v:Int) (o:ByteArray) {y:Nat×Nat×Nat} {w:World} {fp:List Nat} (iB:fp.Nodup) (hs:cy (hp w) [bu y.1 (.cells #[.string o] 9 (0,0)),JP y.2.1 r s d t p,bu y.2.2 (.cells #[.q v] 3 (0,0))] fp)
  (h:RR w r s d t p) (hO:RO fp r s d t p) (c6:r.ti.length<=1000000) :
  a8 T_ 221 [.z,.func (.func 222) #[] #[.pointer (some ⟨y.1,0,none⟩),.pointer (some ⟨y.2.1,0,none⟩),.pointer (some ⟨y.2.2,0,none⟩)]] w fp (fun _:Value=>True) id (fun v1=>[row 9 1 v1 (fF r.po v (r.ti.length+1) o).length (aR (fF r.po v (r.ti.length+1) o))]):=by
 have hlen:=kU r.po v (r.ti.length+1) o;refine dT func221 I I iB hs ?_;refine Jr<|Jy I I fun _ _=>Ja I<|Jn<|Jq<|Jr<|Jv I<|Jn<|J0 ?_;rename_i b2 sJ;refine aJ 9 1 ?_
 refine jO (ps:=[7]) (f:=222) (first:=[]) (cap:=[.pointer (some ⟨y.1,0,none⟩),.pointer (some ⟨y.2.1,0,none⟩),.pointer (some ⟨y.2.2,0,none⟩)]) (ι:=Nat×Value) (κ:=Empty) (rst:=[]) ?hg
  [bu y.1 (.cells #[.string o] 9 (0,0)),JP y.2.1 r s d t p,bu y.2.2 (.cells #[.q v] 3 (0,0))] (ym r.po v (r.ti.length+1) o) ?hit
  (fun k x=>x.1=k/\k<=(fF r.po v (r.ti.length+1) o).length)
  (fun x=>[bu b2 (.cells #[x.2] 32 (0,0)),row 9 1 x.2 x.1 (aR ((fF r.po v (r.ti.length+1) o).take x.1))])
  (fun _=>False) (fun _=>[]) (fun _=>.ret) (0,.z) ⟨I,Zi _⟩ ?ht ?hlen ?hps ?round ?kn ?kj
 case hg=>exact Is.of I
 case hit=>intro w' aB;exact EB v o h hO c6
 case ht=>
  exact .cons (.there .here) (.h4 .nil)
 case hlen=>intro vs pK;obtain ⟨x,_,rfl⟩:=Zw.1 pK;rfl
 case hps=>intro t ht;simp only [ZQ,Zo,or_false] at ht;subst ht;exact ZaA rfl
 case kj=>intro y;cases y
 case kn=>
  rintro ⟨n,v1⟩ D ⟨hq,_⟩;dsimp only [Zb,Za] at hq ⊢;rw [si] at hq;subst hq;rw [ZL];refine Jj<|Jt<|Jr<|JL I .here I<|Ja I<|Jn<|Je ?_;refine aK (E:=9) (sz:=1) (by exact Take.there .here) fun va vc e=>?_;subst e
  skip
  with_reducible first|apply aO|apply aP
  case he=>exact dN I I
  case hR=>
   intro w' aB;exact aC (.slice va (fF r.po v (r.ti.length+1) o).length vc) trivial (by exact .cons (.there .here) .nil) aB I
 case round=>
  rintro l2 rc W XF k ⟨n,v1⟩ vs hsz hk ⟨hq,PK⟩ hB hF;dsimp only at hq;subst hq;obtain ⟨a,hit,rfl,Dk⟩:=EA hk;obtain ⟨aL,LS⟩:=Zl.1 Dk;have htk:aR ((fF r.po v (r.ti.length+1) o).take (n+1))=aR ((fF r.po v (r.ti.length+1) o).take n)++[.string a]:=by rw [Zm aL,LS,eU];rfl
  have nu:(aR ((fF r.po v (r.ti.length+1) o).take n)).length=n*1:=by rw [dx,ZaO (by omega),Zan]
  dsimp only [List.zip_cons_cons,List.zip_nil_right,nj,Zb,Za];refine Jg<|Ja I<|Jn ?_
  with_reducible apply nA
  case ht=>exact .here
  refine aK (E:=9) (sz:=1) bE fun v1 v2 e=>?_;subst e;refine J0<|Jg<|JL I (.there .here) I<|Jv I<|bh (aD (.o I .nil) I I I I) I fun _ _=>?_;refine bA (.of I) (.of I) cI .here ai (by rfl) (dE I) (by rfl) (by rfl) (by rfl) eC (by rfl) ?_;intro v';refine aK (by exact .here) fun a' iv e=>?_;subst e
  (refine ak (.of I) (.of I) cI I I (dE I) (br I) ai<|Jx<|Jj ?_)
  apply mL (n+1,.slice a' (n+1) iv)
  case ht=>exact cI
  case hx=>exact ⟨I,aL⟩
  case h2=>
   show bj _ [bu b2 (.cells #[.slice a' (n+1) iv] 32 (0,0)),row 9 1 (.slice a' (n+1) iv) (n+1) (aR ((fF r.po v (r.ti.length+1) o).take (n+1)))] _;rw [htk];exact .h2 .nil
theorem My {r:Ro} {s d t p:Value} (v:Int) (o:ByteArray) {y:Nat×Nat×Nat} {w:World} {fp:List Nat} (iB:fp.Nodup) (hs:cy (hp w) [bu y.1 (.cells #[.string o] 9 (0,0)),JP y.2.1 r s d t p,bu y.2.2 (.cells #[.q v] 3 (0,0))] fp)
  (h:RR w r s d t p) (hO:RO fp r s d t p) (c6:r.ti.length<=1000000) :
  a8 T_ 115 [.func (.func 222) #[] #[.pointer (some ⟨y.1,0,none⟩),.pointer (some ⟨y.2.1,0,none⟩),.pointer (some ⟨y.2.2,0,none⟩)]] w fp (fun _:Value=>True) id (fun v1=>[row 9 1 v1 (fF r.po v (r.ti.length+1) o).length (aR (fF r.po v (r.ti.length+1) o))]):=by
 refine dT func115 I I iB hs ?_;refine Jr<|Ja I<|Ji<|Jv I ?_
 with_reducible apply eH (As:=[bu y.1 (.cells #[.string o] 9 (0,0)),JP y.2.1 r s d t p,bu y.2.2 (.cells #[.q v] 3 (0,0))])
 case hr=>exact bn
 case hd=>rfl
 case ht=>exact jv
 case hc=>
  intro w1 Bt aT uN hs1 Ds _;exact MV v o uN hs1 (h.kb hO aT.keeps) (h.out hO Ds) c6
 intro v1 _;dsimp only [id_eq,Zb,Za];refine Ja I<|Jn<|Je ?_
 with_reducible first|apply aO|apply aP
 case he=>exact dN I I
 case hR=>
  intro w' aB;exact aC v1 trivial (by exact .h1 .nil) aB I
def JV (r:Ro) (v:Int) (o:ByteArray):Int:=aY [fm r,Ge r v,mF r o]
def Sn (r:Ro) (v:Int) (o:ByteArray):List ByteArray:=if fF r.po v (r.ti.length+1) o=[] then [] else (fF r.po v (r.ti.length+1) o).reverse++[o]
def G5 (r:Ro) (v:Int) (o:ByteArray):List ByteArray:=if JV r v o≠0 then [] else Sn r v o
theorem QC {r:Ro} {s d t p:Value} (v:Int) (o:ByteArray) {w:World} (h:RR w r s d t p) (c6:mX r):a8 T_ 22 [RA r s d t p,.q v,.string o] w [] (fun _:Value=>True) (fun x=>.tuple #[x,.q (JV r v o)]) (fun x=>[row 9 1 x (G5 r v o).length (aR (G5 r v o))]):=by
 obtain ⟨h1,h2,h3,h4⟩:=h.one;have aiJ:=c6.2.2;have fP:∀ w',aI [] w w'->an T_ 34 [.agg #[.int .i64 r.lv,.int .i64 r.ma,s,d,t,p]] w' (.int .i64 (fm r)):=fun w' hk=>ei (h.keeps hk) c6
 have hle:∀ w',aI [] w w'->an T_ 114 [.agg #[.q r.lv,.q r.ma,s,d,t,p],.q v] w' (.q (Ge r v)):=fun w' hk=>lN v (h.keeps hk)
 have kz:∀ w',aI [] w w'->an T_ 112 [.agg #[.q r.lv,.q r.ma,s,d,t,p],.string o] w' (.q (mF r o)):=fun w' hk=>eA o (h.keeps hk)
 unfold RA;refine aS func22 I I ?_;refine Jr<|Jy I I fun _ _=>Ja I<|Ja I<|Jn<|Jq<|Jq ?_;rename_i b3 rz
 with_reducible refine db 9 (by kernel_rfl) ?_
 (refine az (bU .here) I<|aZ bJ I (fun w' aB=>(fP w' (Mem.keeps aB)))<|az (bU .here) I<|az mw I<|aZ bn I (fun w' aB=>(hle w' (Mem.keeps aB)))<|az (bU .here) I<|az mw I<|aZ bn I (fun w' aB=>(kz w' (Mem.keeps aB)))<|eM (aD (.o I (.o I (.o I .nil))) I I I I) I I ?_)
 with_reducible refine dI I fun bq mV=>?_
 (refine ah bJ I (fun w' aB=>(dV (Mem.dy aB .here I I) (cr.cons (cr.cons (cr.cons cr.nil)))))<|Ja I<|Ji<|Jv I<|JD I<|Jn<|gL I (fun aA=>?_) fun aA=>?_;refine Jr<|Jv I<|Ja I<|Ja I<|Jn<|Ju ?_;rotate_left;refine Jk<|Jr<|ab (bU (.there .here)) I<|Jv I<|Jv I ?_;rotate_right)
 ·have e1:G5 r v o=[]:=if_pos aA;rw [e1];refine aJ 9 1 ?_
  with_reducible first|apply aO|apply aP
  case he=>exact gD I I I
  case hR=>
   intro w' aB;exact aC (.z) trivial (by exact .h1 .nil) aB I
 have e1:G5 r v o=Sn r v o:=if_neg aA;have e0:aY [fm r,Ge r v,mF r o]=0:=Zq.1 aA;have e2:JV r v o=0:=e0;clear aA;rw [e1,e2];refine JN dU I (fun w1 aT=>wC v o (h.keeps aT.keeps)) ?_;intro y _;dsimp only [id_eq,Zb,Za]
 skip
 with_reducible apply eH (As:=[bu y.1 (.cells #[.string o] 9 (0,0)),JP y.2.1 r s d t p,bu y.2.2 (.cells #[.q v] 3 (0,0))])
 case hr=>exact bJ
 case hd=>rfl
 case ht=>exact jv
 case hc=>
  intro w1 Bt aT uN hs1 Ds _;exact My v o uN hs1 (h.keeps aT.keeps) (h.out (md:=[]) RO.nil (fun b hb=>Ds b hb)) (by omega)
 intro v1 _;have hlen:=kU r.po v (r.ti.length+1) o;dsimp only [id_eq,Zb,Za];refine aK (E:=9) (sz:=1) (by exact .here) fun va vc e=>?_;subst e;unfold Sn;generalize hL:fF r.po v (r.ti.length+1) o=L at hlen ⊢
 (refine Ja I<|Jn<|Jq<|Jr<|Jv I<|JI I<|JC I<|Jn<|gL I (fun aA=>?_) fun aA=>?_;refine Jr<|Ja I<|Ja I<|Jn<|Ju ?_;rotate_left;refine Jk<|Jr<|Jv I ?_;rotate_right)
 ·have LI:L=[]:=Z5 (by omega);rw [if_pos LI];refine aJ 9 1 ?_
  with_reducible first|apply aO|apply aP
  case he=>exact gD I I I
  case hR=>
   intro w' aB;exact aC (.z) trivial (by exact .h1 .nil) aB I
 have hnn:¬ L=[]:=fun e=>by rw [e] at aA;exact aA I
 rw [if_neg hnn]
 with_reducible apply eH (As:=[row 9 1 (.slice va L.length vc) L.length (aR L)])
 case hr=>exact bJ
 case hd=>rfl
 case ht=>exact jv
 case hc=>
  intro w1 Bt aT uN hs1 Ds _;exact Es I (by omega) uN hs1
 intro _ _;have bb:aR (L.reverse++[o])=aR L.reverse++[.string o]:=by rw [eU];rfl
 have hlr:(aR L.reverse).length=L.length*1:=by rw [dx,List.length_reverse,Zan]
 have ET:(L.reverse++[o]).length=L.length+1:=by simp
 rw [ET,bb];dsimp only [id_eq,Zb,Za];refine Ji<|Jv I<|Jv I<|bh (aD (.o I .nil) I I I I) I fun _ _=>?_;refine bA (.of I) (.of I) (.there .here) .here ai (by rfl) (dE I) (by rfl) (by rfl) (by rfl) eC (by rfl) ?_;intro v';refine Ja I<|Ja I<|Jn<|Je ?_
 with_reducible first|apply aO|apply aP
 case he=>exact gD I I I
 case hR=>
  intro w' aB;exact aC v' trivial (by exact .h1 .nil) aB I
theorem Hr {α:Type} {R:α->α->Prop} (ht:∀ a b c,R a b->R b c->R a c):∀ {l:List α},(∀ k (h:k+1<l.length),R l[k] l[k+1])->l.Pairwise R:=by
 intro l h;rw [Zab];intro i j hi hj zB;obtain ⟨d,rfl⟩:∃ d,j=i+1+d:=⟨j-(i+1),by omega⟩;clear zB
 induction d with
 | zero=>exact h i hj
 | succ d ih=>exact ht _ _ _ (ih (by omega)) (h (i+1+d) hj)
theorem qb {a b c d:Int}:¬ mG [a,b] [c,d]<=0↔c<a\/c=a/\d<b:=by
 unfold mG;by_cases h1:lx a c=0
 ·rw [if_neg (not_not_intro h1)];have:=ji.1 h1;unfold mG;by_cases h2:lx b d=0
  ·rw [if_neg (not_not_intro h2)];have:=ji.1 h2;unfold mG;omega
  ·rw [if_pos h2];unfold lx at h2 ⊢;split at h2 <;> split <;> first | omega | (split <;> omega)
 ·rw [if_pos h1];have Bp:a≠c:=fun e=>h1 (ji.2 e)
  unfold lx;split
  ·omega
  ·split <;> omega
theorem K7 {r:Ro} (hd:DT r) (h6:r.ti.length<=6):oS r:=by
 obtain ⟨_,_,_,d1,d2,d3⟩:=hd.parts;exact ⟨d1,d2,d3,by unfold cQ;rw [Zd];exact h6⟩
structure rS (r:Ro):Prop where
 lim:1<=r.lv/\r.lv<=3/\1<=r.ma/\r.ma<=4
 Qf:DT r
 len:r.sr.length<=8/\r.de.length<=8/\r.ti.length<=6
 sm:∀ x∈r.sr,0<=x.mx/\x.mx<r.ma
 dm:∀ x∈r.de,0<=x.mx/\x.mx<r.ma
 tm:∀ x∈r.ti,(0<=x.fr/\x.fr<r.ma)/\(0<=x.to/\x.to<r.ma)/\x.fr≠x.to
 val:jy r r.po
theorem rS.wJ {r:Ro} (h:rS r):oS r:=K7 h.Qf h.len.2.2
theorem jT {r:Ro} {m:Int}:fL r m=0↔0<=m/\m<r.ma:=by
 unfold fL;rw [bO (by decide)];simp
theorem K1 {r:Ro} (hd:∀ x∈r.de,0<=x.mx) (ht:∀ x∈r.ti,0<=x.fr) {s:ByteArray} (h:0<=k6 r s):s∈cu r\/s∈cQ r:=by
 by_cases h1:s∈cu r
 ·exact .inl h1
 ·by_cases h2:s∈cQ r
  ·exact .inr h2
  ·unfold k6 at h;have f1:=cJ.2 h1;have f2:=cJ.2 h2;rw [if_neg (by omega),if_neg (by omega)] at h;omega
theorem Lv {r:Ro} {s:ByteArray} (h:0<=kD r s):s∈cN r\/s∈cQ r:=by
 by_cases h1:s∈cN r
 ·exact .inl h1
 ·by_cases h2:s∈cQ r
  ·exact .inr h2
  ·unfold kD at h;have f1:=cJ.2 h1;have f2:=cJ.2 h2;rw [if_neg (by omega),if_neg (by omega)] at h;omega
theorem oq {r:Ro} {x:Po} (h:nk r x=0):(0<=x.lv/\x.lv<r.lv)/\0<=k6 r x.ou/\0<=kD r x.ip/\k6 r x.ou=kD r x.ip:=by
 unfold nk at h;rw [bX] at h;have h1:=jb.1 (h _ Zr);have h2:=(bO (by decide)).1 (h (bL (decide (k6 r x.ou<0)) 10) (by simp));have h3:=(bO (by decide)).1 (h (bL (decide (kD r x.ip<0)) 10) (by simp));have h4:=(bO (by decide)).1 (h (bL (decide (k6 r x.ou≠kD r x.ip)) 24) (by simp));simp only [decide_eq_false_iff_not,ne_eq,Zq] at h2 h3 h4;exact ⟨by omega,by omega,by omega,h4⟩
theorem mq {r:Ro} {q:Int->Bool}:kK r q=false↔∀ v:Int,0<=v->v<r.lv->q v=false:=by
 unfold kK;rw [Zaw];constructor
 ·intro h v h0 h1;have:=h v.toNat (ZU.2 (by omega));rw [show ((v.toNat:Nat):Int)=v by omega] at this;simpa using this
 ·intro h i hi;have:=ZU.1 hi;rw [h i (by omega) (by omega)];decide
theorem yn {r:Ro} (h:fm r=0):rS r:=by
 obtain ⟨h1,h2,h3,h4⟩:=tQ h;obtain ⟨ku,hlen,hs,hd,ht⟩:=AO h2;have Ru:∀ x∈r.de,0<=x.mx/\x.mx<r.ma:=fun x hx=>jT.1 (hd x hx)
 have YC:∀ x∈r.ti,(0<=x.fr/\x.fr<r.ma)/\(0<=x.to/\x.to<r.ma)/\x.fr≠x.to:=fun x hx=>by
  have:=ht x hx;unfold oU at this;rw [bX] at this;have g3:=(bO (by decide)).1 (this (bL (decide (x.fr=x.to)) 24) (by simp));exact ⟨jT.1 (this _ (by simp)),jT.1 (this _ (by simp)),by simpa using g3⟩
 have hp:∀ k (hk:k<r.po.length),nk r r.po[k]=0/\¬ mG [(r.po[k]).lv,eE r (r.po[k]).ou] (Fh r (if k=0 then none else r.po[k-1]?))<=0:=fun k hk=>by
  have:=eK.1 h3 k hk;rw [sh hk] at this;by_cases e:nk r r.po[k]=0
  ·rw [if_neg (not_not_intro e)] at this;by_cases e2:mG [(r.po[k]).lv,eE r (r.po[k]).ou] (Fh r (if k=0 then none else r.po[k-1]?))<=0
   ·rw [if_pos e2] at this;exact absurd this (by decide)
   ·exact ⟨e,e2⟩
  ·rw [if_pos e] at this;exact absurd this e
 have IA:∀ p∈r.po,nk r p=0:=fun p mD=>by
  obtain ⟨k,hk,rfl⟩:=ZA mD;exact (hp k hk).1
 have TZ:∀ p∈r.po,0<=p.lv/\p.lv<r.lv:=fun p mD=>(oq (IA p mD)).1
 have hti:(cQ r).length=r.ti.length:=by unfold cQ;rw [Zd]
 unfold A2 at h4;rw [bX] at h4;have Xc:=mq.1 ((bO (by decide)).1 (h4 (bL (kK r fun v=>r.ti.any (NA r v)) 33) (by simp)))
 have hop:=mq.1 ((bO (by decide)).1 (h4 (bL (kK r fun v=>r.ti.any (K0 r v)) 32) (by simp)))
 have yr:∀ v:Int,¬ (0<=v/\v<r.lv)->∀ o,eD r.po v o=none:=fun v hv o=>iX.2 fun p mD e=>hv (e.1 ▸ TZ p mD)
 refine ⟨wQ h1,ku,hlen,fun x hx=>jT.1 (hs x hx),Ru,YC,?_,TZ,?_,?_,?_,?_,?_⟩
 ·refine Hr (R:=fun a b=>ns r a b=true) (fun a b c h h'=>zq h h') fun k hk=>?_;have:=(hp (k+1) hk).2;rw [if_neg (by omega),Zay,Zc (by omega)] at this;have:=qb.1 this;unfold ns;simp only [ZS,Zn,decide_eq_true_eq];exact this
 ·exact fun p mD=>K1 (fun x hx=>(Ru x hx).1) (fun x hx=>(YC x hx).1.1) (oq (IA p mD)).2.1
 ·exact fun p mD=>Lv (oq (IA p mD)).2.2.1
 ·exact fun p mD=>(oq (IA p mD)).2.2.2
 ·rintro v ⟨t,HH,hc⟩;rw [hti] at hc;by_cases hv:0<=v/\v<r.lv
  ·obtain ⟨x,hx,rfl⟩:=Zw.1 HH;have:=Zaw.1 (Xc v hv.1 hv.2) x hx;exact this (fE.2 hc)
  ·rw [xD (yr v hv t)] at hc;cases hc
 ·intro v t HH;by_cases hv:0<=v/\v<r.lv
  ·obtain ⟨x,hx,rfl⟩:=Zw.1 HH;have:=Zaw.1 (hop v hv.1 hv.2) x hx;unfold K0 at this;cases h1:gI r.po v x.nm <;> cases h2:nr r.po v x.nm <;> rw [h1,h2] at this <;> simp at this <;> simp
  ·have e1:gI r.po v t=false:=by unfold gI;rw [yr v hv t];rfl
   have e2:nr r.po v t=false:=by
    unfold nr;rw [Zaw];intro p mD e;unfold yp at e;simp only [Zn,decide_eq_true_eq] at e;exact hv (e.1 ▸ TZ p mD)
   rw [e1,e2]
theorem xG {r:Ro} (hn:oS r) (h:jy r r.po) (v:Int) (o:ByteArray):jY r v o=qF r.po v (cN r) o:=by
 have hti:(cQ r).length=r.ti.length:=by unfold cQ;rw [Zd]
 have:=H0 hn h v o;rw [hti] at this;unfold jY qF;rw [this];by_cases hm:iF r.po v 7 o∈cN r
 ·have h0:=dK hm;obtain ⟨x,hx,e⟩:=Zw.1 hm;rw [if_pos (ZR.2 ⟨x,hx,by simpa using e⟩),if_neg (by omega)]
 ·have h0:=cJ.2 hm;rw [if_neg (fun e=>by
   obtain ⟨x,hx,e⟩:=ZR.1 e;exact hm (Zw.2 ⟨x,hx,by simpa using e⟩)),if_pos h0]
end Go.Proofs.A1
namespace Go.SL
open Go
def lD (E:TypeId) (sz:Nat) (v:Value) (n:Nat) (xs:List Value):bd where
 sat h fp:=xs.length=n*sz/\((fp=[]/\v=.z/\n=0) \/
  ∃ g off cap cur,fp=[g]/\v=.slice (some ⟨g,off,none⟩) n cap/\h g=some (.cells cur E (0,0))/\n<=cap/\cap<=maxLen/\off+cap*sz<=cur.size/\(cur.toList.drop off).take (n*sz)=xs)
 loc:=by
  rintro h h' fp ⟨hl,h1⟩ hb;refine ⟨hl,h1.imp id ?_⟩;rintro ⟨g,off,cap,cur,rfl,rfl,hg,r⟩;exact ⟨g,off,cap,cur,I,I,by rw [hb g (by simp)];exact hg,r⟩
 own:=by
  rintro h fp ⟨hl,h1⟩ b hb;rcases h1 with ⟨rfl,_⟩ | ⟨g,off,cap,cur,rfl,rfl,hg,_⟩
  ·cases hb
  ·rw [ZD] at hb;subst hb;exact ⟨_,hg⟩
theorem pz {h:Nat->Option Obj} {E:TypeId} {sz:Nat} {v:Value} {n:Nat} {xs:List Value} {fp:List Nat} (hr:(row E sz v n xs).sat h fp):(lD E sz v n xs).sat h fp:=by
 obtain ⟨e,hl,h1⟩:=hr;rcases h1 with ⟨rfl,h0⟩ | ⟨g,cap,cur,rfl,hg,h2,h3,h4,h5⟩
 ·exact ⟨hl,.inl ⟨by simpa [Value.ownBlock] using e,I,h0⟩⟩
 ·exact ⟨hl,.inr ⟨g,0,cap,cur,by simpa [Value.ownBlock] using e,I,hg,h2,h3,by omega,by simpa using h5⟩⟩
section
variable {c:Cx} {D:List Nat} {sl:aN} {hs hs':List bd} {X:Act->World->Prop} {E:TypeId} {sz:Nat} {v:Value} {n:Nat} {xs:List Value}
theorem u3 {A B:bd} (ht:Take hs A hs') (hc:∀ h fp,A.sat h fp->B.sat h fp) (k:Tr c D sl (B::hs') X):Tr c D sl hs X:=fun a w bb=>
 k a w (bb.heap (by
  obtain ⟨kk,fp,iB,⟨f1,f2,rfl,h1,h2⟩,hb⟩:=bb.mem.take (ht.append _);exact ⟨kk,f1++f2,iB,⟨f1,f2,I,hc _ _ h1,h2⟩,hb⟩))
theorem G6 (ht:Take hs (row E sz v n xs) hs') (k:Tr c D sl (lD E sz v n xs::hs') X):Tr c D sl hs X:=u3 ht (fun _ _ h=>pz h) k
theorem yV (ht:Take hs (lD E sz v n xs) hs') (k:∀ a cap,v=.slice a n cap->n<=cap->cap<=maxLen->Tr c D sl hs X):Tr c D sl hs X:=fun a w bb=>by
 obtain ⟨kk,fp,iB,⟨f1,f2,rfl,⟨_,h1⟩,h2⟩,hb⟩:=bb.mem.take (ht.append _);rcases h1 with ⟨_,e,h0⟩ | ⟨g,off,cap,cur,_,e,_,hc,hm,_⟩
 ·subst h0;exact k none 0 e (Zv _) (by unfold maxLen;omega) a w bb
 ·exact k _ cap e hc hm a w bb
theorem Cc (ht:Take hs (lD E sz v n xs) hs') (hn:0<n)
  (k:∀ g off cap pre cur,v=.slice (some ⟨g,off,none⟩) n cap->pre.length=off->n<=cap->cap<=maxLen->off+cap*sz<=(pre++xs++cur).length->xs.length=n*sz->Tr c D sl (bu g (.cells (pre++xs++cur).toArray E (0,0))::hs') X):Tr c D sl hs X:=fun a w bb=>by
 obtain ⟨kk,fp,iB,⟨f1,f2,rfl,⟨hl,h1⟩,h2⟩,hb⟩:=bb.mem.take (ht.append _);rcases h1 with ⟨_,_,h0⟩ | ⟨g,off,cap,cur,rfl,e,hg,hc,hm,hfit,htk⟩
 ·omega
 ·have hsz:n*sz<=cap*sz:=Z0 _ hc;have Rv:cur.size=cur.toList.length:=by simp
  have oF:cur=(cur.toList.take off++xs++cur.toList.drop (off+n*sz)).toArray:=by
   apply Array.ext';show cur.toList=_;rw [<- htk]
   conv=>lhs;rw [<- ZX off cur.toList]
   rw [Zh];congr 1
   conv=>lhs;rw [<- ZX (n*sz) (cur.toList.drop off)]
   rw [Zbk]
  refine k g off cap (cur.toList.take off) (cur.toList.drop (off+n*sz)) e ?_ hc hm ?_ hl a w (bb.heap ⟨kk,[g]++f2,iB,⟨[g],f2,I,⟨I,by rw [<- oF];exact hg⟩,h2⟩,hb⟩)
  ·rw [Zs];omega
  ·have:=congrArg (fun x:Array Value=>x.toList.length) oF
   simp only [ZaR] at this;rw [<- this];exact hfit
theorem zd {h:Nat->Option Obj} {g off cap:Nat} {pre cur:List Value} {fp:List Nat} (hb:(bu g (.cells (pre++xs++cur).toArray E (0,0))).sat h fp) (hp:pre.length=off) (hc:n<=cap) (hm:cap<=maxLen) (hfit:off+cap*sz<=(pre++xs++cur).length) (hl:xs.length=n*sz):(lD E sz (.slice (some ⟨g,off,none⟩) n cap) n xs).sat h fp:=by
 obtain ⟨e,hg⟩:=hb;refine ⟨hl,.inr ⟨g,off,cap,_,e,I,hg,hc,hm,by rw [Zbq];exact hfit,?_⟩⟩;show ((pre++xs++cur).drop off).take (n*sz)=xs;rw [Zh,<- hp,List.drop_left,<- hl,List.take_left]
theorem Cb {g off cap:Nat} {pre cur:List Value} (ht:Take hs (bu g (.cells (pre++xs++cur).toArray E (0,0))) hs') (hp:pre.length=off) (hc:n<=cap) (hm:cap<=maxLen) (hfit:off+cap*sz<=(pre++xs++cur).length) (hl:xs.length=n*sz)
  (k:Tr c D sl (lD E sz (.slice (some ⟨g,off,none⟩) n cap) n xs::hs') X):Tr c D sl hs X:=u3 ht (fun _ _ h=>zd h hp hc hm hfit hl) k
theorem Ca {a:Option Addr} {cap:Nat} (ht:Take hs (lD E sz (.slice a (n+1) cap) (n+1) xs) hs') (k:Tr c D sl (lD E sz (Go.sliced a 1 (n+1) cap sz) n (xs.drop sz)::hs') X):Tr c D sl hs X:=
 u3 ht (fun h fp hr=>by
  obtain ⟨hl,h1⟩:=hr;rcases h1 with ⟨_,_,h0⟩ | ⟨g,off,iv,cur,rfl,e,hg,hc,hm,hfit,htk⟩
  ·omega
  ·obtain ⟨rfl,-,rfl⟩:=Value.slice.inj e;have ET:(xs.drop sz).length=n*sz:=by rw [ZaU,hl,Zac];omega
   refine ⟨ET,.inr ?_⟩;have Wo:(cur.toList.drop (off+sz)).take (n*sz)=xs.drop sz:=by
    rw [<- htk,List.drop_take,Zbk,show (n+1)*sz-sz=n*sz by rw [Zac];omega]
   by_cases YZ:cap=1
   ·subst YZ;have PH:n=0:=by omega
    subst PH;refine ⟨g,off,0,cur,I,?_,hg,Zv _,by omega,by omega,?_⟩
    ·simp [Go.sliced]
    ·rw [<- Wo];simp
   ·refine ⟨g,off+sz,cap-1,cur,I,?_,hg,by omega,by omega,?_,Wo⟩
    ·simp only [Go.sliced,if_neg YZ,Zbp,Addr.add,Nat.one_mul,Zay];by_cases h0:sz=0
     ·rw [if_pos h0,h0];rfl
     ·rw [if_neg h0]
    ·have:cap*sz=(cap-1)*sz+sz:=by
      rw [<- Zac];congr 1;omega
     omega) k
end
end Go.SL
namespace Go.SL
open Go Go.Shelf Go.RowKit Go.Proofs Go.Lib Go.Sort
theorem aI.grown {w w':World} (h:aI [] w w'):∃ q os',w'=Go.Sort.grow (w.drewN q) os':=by
 refine ⟨w'.drawn-w.drawn,w'.heap.extract w.heap.size w'.heap.size,?_⟩;have hd:=h.dr;have hh:w'.heap=w.heap++w'.heap.extract w.heap.size w'.heap.size:=by
  apply Array.ext_getElem?;intro k;by_cases hk:k<w.heap.size
  ·rw [Array.getElem?_append_left hk];exact h.block k hk (by simp)
  ·rw [Array.getElem?_append_right (by omega),Array.getElem?_extract];have hs:=h.size;by_cases fg:k<w'.heap.size
   ·rw [if_pos (by omega)];congr 1;omega
   ·rw [if_neg (by omega),Zbw (by omega)]
 cases w';cases w;have h1:=h.os;have h2:=h.tape;have h3:=h.output;simp only at h1 h2 h3 hh hd;subst h1;subst h2;subst h3;simp only [Go.Sort.grow,World.drewN];congr 1;omega
section
variable {P:Program} {α:Type} [Inhabited α]
theorem xo {enc:α->List Value} {k:Nat} (hk:∀ x,(enc x).length=k) (l:List α):(Go.Sort.flatK enc k l.toArray).toList=(l.map enc).flatten:=by
 have uz:=ju hk l;apply Zat;intro t;by_cases ht:t<l.length*k
 ·have Nv:0<k:=by
   rcases Nat.eq_zero_or_pos k with e | e
   ·rw [e] at ht;omega
   ·exact e
  have h1:t / k<l.length:=by rw [Nat.div_lt_iff_lt_mul Nv];exact ht
  have h2:t % k<k:=Nat.mod_lt _ Nv;have e3:=Mg hk h1 h2 [];rw [ZK,Nat.div_add_mod' t k] at e3;rw [e3,ZaH];have hsz:t<(Go.Sort.flatK enc k l.toArray).size:=by rw [Go.Sort.size_flatK];simpa using ht
  have e4:(Go.Sort.flatK enc k l.toArray)[t]? = some ((Go.Sort.flatK enc k l.toArray)[t]!):=by
   rw [getElem!_pos _ t hsz];exact getElem?_pos _ t hsz
  rw [e4,Go.Sort.get_flatK _ _ _ _ (by simpa using ht),getElem!_pos l.toArray (t / k) (by simpa using h1)];have h5:t % k<(enc l[t / k]).length:=by rw [hk];exact h2
  rw [Zc h5];congr 1;show (enc (l.toArray[t / k]'_))[t % k]! = _;rw [show l.toArray[t / k]'(by simpa using h1)=l[t / k] from I,getElem!_pos _ (t % k) h5]
 ·rw [Zal (by rw [ZaR,Go.Sort.size_flatK];simpa using ht),Zal (by rw [uz];omega)]
theorem CP (pre cur vs ws:List Value) (h:ws.length=vs.length):Go.Sort.putCells id pre.length ws.toArray (pre++vs++cur).toArray=(pre++ws++cur).toArray:=by
 apply Array.ext_getElem?;intro j;unfold Go.Sort.putCells;rw [Array.getElem?_mapIdx];simp only [List.getElem?_toArray,Zbq];by_cases h1:j<pre.length
 ·rw [Zh,Zh,Zx h1,Zx h1];rw [Zc h1];simp only [Zbp];rw [if_neg (by omega)]
 ·by_cases h2:j<pre.length+ws.length
  ·have e1:(pre++vs++cur)[j]? = some ((pre++vs++cur)[j]'(by simp;omega)):=Zc _;rw [e1,Zbp,if_pos (by omega)];rw [Zh,ZC (by omega),Zx (by omega),Zc (by omega)];congr 1;show ws.toArray[j-pre.length]! = _;rw [getElem!_pos ws.toArray (j-pre.length) (by simp;omega)]
   rfl
  ·rw [ZC (by simp;omega),ZC (by simp;omega)];simp only [Zg,h];cases cur[j-(pre.length+vs.length)]? with
   | none=>rfl
   | some x =>
    rw [Zbp,if_neg (by omega)]
theorem Cp {ρ:Ren} (L:SlLaysF0.n6 P ρ) {k:Nat} (aE:∀ w,(isAgg (ρ.t 24)).run P w=.ok true w) (zE:∀ w,(Go.sizeOf (ρ.t 24)).run P w=.ok k w) {enc:α->List Value} (hk:∀ x,(enc x).length=k) (h1:∀ x,∀ v∈enc x,v.oneCell'=true) {cf:α->α->Int} (hO:Go.Sort.SWO (ltOf cf))
  {g b cap:Nat} {cb:Array Value} {l:List α} {pre cur:List Value} {E:TypeId} {w:World} (eg:∀ args w,(callFunc g args).run P w=.ok (.enter g args) w) (hb:w.heap[b]? = some (.cells (pre++(l.map enc).flatten++cur).toArray E (0,0))) (hsz:l.length<4611686018427387904)
  (abN:∀ w',aI [b] w w'->∀ x y:α,Calls P g (#[.agg (enc x).toArray,.agg (enc y).toArray]++cb) w' fun e z8=>e=.returned (.q (cf x y))/\aI [] w' z8) :
  Calls P (ρ.f 6) #[.slice (some ⟨b,pre.length,none⟩) l.length cap,.func (.func g) #[] cb] w fun e w'=>
   e=.returned (.tuple #[])/\∃ l':List α,l'.Perm l/\l'.Pairwise (fun x y=>ltOf cf y x=false)/\aI [b] w w'/\w'.heap[b]? = some (.cells (pre++(l'.map enc).flatten++cur).toArray E (0,0)):=by
 have PS:b<w.heap.size:=(Z3.1 hb).1;have WD:∀ (m:Nat) (d:Array α) (os:Array Obj),aI [b] w (sortWorldK enc k w b pre.length m d os):=by
  intro m d os;unfold sortWorldK putRowK;refine ⟨I,I,I,Nat.le_add_right _ _,by simp,fun q hq hne=>?_⟩;rw [Go.Sort.heap_grow_old _ _ (by simpa using hq)];have:b≠q:=fun e=>hne (by rw [e];simp)
  simp [Go.Sort.putRow,Go.Sort.mapBlock,Go.Sort.ahead,Zbn,this]
 have hC:CmpLays P g cb enc k cf b pre.length l.toArray.size w:=fun m os dk _ x y=>(abN _ (WD m dk os) x y).mono fun e w' ⟨he,xV⟩=>⟨he,xV.grown⟩
 have uz:=ju hk l;have hH:HoldsK enc k w b pre.length l.toArray:=by
  intro j hj;rw [Go.Sort.size_flatK] at hj;have pP:j<l.length*k:=by simpa using hj
  refine ⟨?_,by simp [World.frozen?,hb]⟩;have h0:=xo hk l;simp only [World.cell?,hb,Option.isSome_none,ZaV,if_false,List.getElem?_toArray];rw [Zh,ZC (by omega),Zbd,Zx (by omega),<- h0,ZaH];have hs:j<(Go.Sort.flatK enc k l.toArray).size:=by rw [Go.Sort.size_flatK];exact hj
  rw [getElem!_pos _ j hs];exact getElem?_pos _ j hs
 have key:=AnyQ.slices_SortFunc L k aE zE enc hk h1 cf hO g cb b pre.length cap l.toArray w eg hC hH PS (by simpa using hsz);refine Calls.mono key ?_;rintro e w' ⟨he,d',m,os,hp,A9,hw⟩;subst hw;obtain ⟨BW,_,hp3⟩:=hp;have hd:List.Perm d'.toList l:=by
  rw [show (l.toArray.extract 0 l.toArray.size)=l.toArray by simp,show d'.extract 0 l.toArray.size=d' by rw [<- BW];simp] at hp3;exact hp3
 refine ⟨he,d'.toList,hd,?_,WD m d' os,?_⟩
 ·rw [Zab];intro i j hi hj zB;rw [ZaR] at hi hj;have W8:d'.size=l.length:=by rw [BW];simp
  have:=A9 i j (Zi _) zB (by simp;omega);rw [getElem!_pos d' i hi,getElem!_pos d' j hj] at this;simpa using this
 ·unfold sortWorldK putRowK;rw [Go.Sort.heap_grow_old _ _ (by simpa using PS)];have hpc:=CP pre cur (l.map enc).flatten (Go.Sort.flatK enc k d').toList (by
   rw [ZaR,Go.Sort.size_flatK,uz,BW];simp)
  have EW:=xo hk d'.toList;rw [ZaZ] at EW hpc;rw [EW] at hpc;simp [Go.Sort.putRow,Go.Sort.mapBlock,Go.Sort.ahead,Zbn,hb,Go.Sort.onCells];simpa using hpc
end
end Go.SL
namespace Go.Proofs
open Go.Shelf
def Tryz.Ei:Go.Shelf.Ren:=⟨fun | 6=>260 | 15=>245 | 14=>320 | 28=>312 | 29=>313 | 20=>349 | 21=>350 | 22=>351 | 23=>352 | 24=>353 | 25=>354 | 26=>355 | 27=>356 | 46=>376 | 47=>344 | 48=>345 | 49=>377 | 50=>378 | 57=>392 | n=>n,fun | 22=>329 | 24=>244 | 25=>332 | 3=>3 | 39=>318 | 0=>0 | 53=>381 | 55=>383 | 4=>4 | 46=>374 | 45=>373 | 50=>272 | 5=>5 | 9=>9 | 66=>409 | 70=>413 | 76=>428 | 77=>359 | n=>n,fun | n=>n⟩
theorem Tryz.Ej:Go.Proofs.SlLaysF0.n6 Tryz.prog Tryz.Ei:={
 mixed:=by kernel_rfl
 f6:=⟨Tryz.f260.name,by decide,Tryz.func260.trans (congrArg some (by kernel_rfl))⟩
 f14:=⟨Tryz.f320.name,by decide,Tryz.func320.trans (congrArg some (by kernel_rfl))⟩
 f15:=Tryz.func245.trans (congrArg some (by kernel_rfl))
 f20:=⟨Tryz.f349.name,by decide,Tryz.func349.trans (congrArg some (by kernel_rfl))⟩
 f21:=⟨Tryz.f350.name,by decide,Tryz.func350.trans (congrArg some (by kernel_rfl))⟩
 f22:=⟨Tryz.f351.name,by decide,Tryz.func351.trans (congrArg some (by kernel_rfl))⟩
 f23:=⟨Tryz.f352.name,by decide,Tryz.func352.trans (congrArg some (by kernel_rfl))⟩
 f24:=⟨Tryz.f353.name,by decide,Tryz.func353.trans (congrArg some (by kernel_rfl))⟩
 f25:=⟨Tryz.f354.name,by decide,Tryz.func354.trans (congrArg some (by kernel_rfl))⟩
 f26:=⟨Tryz.f355.name,by decide,Tryz.func355.trans (congrArg some (by kernel_rfl))⟩
 f27:=⟨Tryz.f356.name,by decide,Tryz.func356.trans (congrArg some (by kernel_rfl))⟩
 f28:=Tryz.func312.trans (congrArg some (by kernel_rfl))
 f29:=Tryz.func313.trans (congrArg some (by kernel_rfl))
 f46:=⟨Tryz.f376.name,by decide,Tryz.func376.trans (congrArg some (by kernel_rfl))⟩
 f47:=Tryz.func344.trans (congrArg some (by kernel_rfl))
 f48:=Tryz.func345.trans (congrArg some (by kernel_rfl))
 f49:=⟨Tryz.f377.name,by decide,Tryz.func377.trans (congrArg some (by kernel_rfl))⟩
 f50:=⟨Tryz.f378.name,by decide,Tryz.func378.trans (congrArg some (by kernel_rfl))⟩
 f57:=⟨Tryz.f392.name,by decide,Tryz.func392.trans (congrArg some (by kernel_rfl))⟩
 t0:=Tryz.underlying0
 a0:=Tryz.isAgg0
 z0:=Tryz.sizeOf0
 v0:=Tryz.zeroValue0
 t3:=Tryz.underlying3
 a3:=Tryz.isAgg3
 z3:=Tryz.sizeOf3
 v3:=Tryz.zeroValue3
 t4:=Tryz.underlying4
 a4:=Tryz.isAgg4
 z4:=Tryz.sizeOf4
 v4:=Tryz.zeroValue4
 t5:=Tryz.underlying5
 a5:=Tryz.isAgg5
 z5:=Tryz.sizeOf5
 v5:=Tryz.zeroValue5
 t9:=Tryz.underlying9
 a9:=Tryz.isAgg9
 z9:=Tryz.sizeOf9
 v9:=Tryz.zeroValue9
 t22:=Tryz.underlying329
 a22:=Tryz.isAgg329
 z22:=Tryz.sizeOf329
 v22:=Tryz.zeroValue329
 t25:=Tryz.underlying332
 a25:=Tryz.isAgg332
 z25:=Tryz.sizeOf332
 v25:=Tryz.zeroValue332
 t39:=Tryz.underlying318
 a39:=Tryz.isAgg318
 z39:=Tryz.sizeOf318
 v39:=Tryz.zeroValue318
 t45:=Tryz.underlying373
 a45:=Tryz.isAgg373
 z45:=Tryz.sizeOf373
 v45:=Tryz.zeroValue373
 t46:=Tryz.underlying374
 a46:=Tryz.isAgg374
 z46:=Tryz.sizeOf374
 v46:=Tryz.zeroValue374
 t50:=Tryz.underlying272
 a50:=Tryz.isAgg272
 z50:=Tryz.sizeOf272
 v50:=Tryz.zeroValue272
 t53:=Tryz.underlying381
 a53:=Tryz.isAgg381
 z53:=Tryz.sizeOf381
 v53:=Tryz.zeroValue381
 t55:=Tryz.underlying383
 a55:=Tryz.isAgg383
 z55:=Tryz.sizeOf383
 v55:=Tryz.zeroValue383
 t66:=Tryz.underlying409
 a66:=Tryz.isAgg409
 z66:=Tryz.sizeOf409
 v66:=Tryz.zeroValue409
 t70:=Tryz.underlying413
 a70:=Tryz.isAgg413
 z70:=Tryz.sizeOf413
 v70:=Tryz.zeroValue413
 t76:=Tryz.underlying428
 a76:=Tryz.isAgg428
 z76:=Tryz.sizeOf428
 v76:=Tryz.zeroValue428
 t77:=Tryz.underlying359
 a77:=Tryz.isAgg359
 z77:=Tryz.sizeOf359
 v77:=Tryz.zeroValue359 }
def Tryz.Ek:Go.Shelf.Ren:=⟨fun | 6=>317 | 15=>245 | 14=>348 | 28=>312 | 29=>313 | 20=>368 | 21=>369 | 22=>370 | 23=>371 | 24=>372 | 25=>373 | 26=>374 | 27=>375 | 46=>389 | 47=>344 | 48=>345 | 49=>390 | 50=>391 | 57=>399 | n=>n,fun | 22=>39 | 24=>188 | 25=>388 | 3=>3 | 39=>318 | 0=>0 | 53=>381 | 55=>383 | 4=>4 | 46=>374 | 45=>373 | 50=>272 | 5=>5 | 9=>9 | 66=>409 | 70=>413 | 76=>428 | 77=>359 | n=>n,fun | n=>n⟩
theorem Tryz.El:Go.Proofs.SlLaysF0.n6 Tryz.prog Tryz.Ek:={
 mixed:=by kernel_rfl
 f6:=⟨Tryz.f317.name,by decide,Tryz.func317.trans (congrArg some (by kernel_rfl))⟩
 f14:=⟨Tryz.f348.name,by decide,Tryz.func348.trans (congrArg some (by kernel_rfl))⟩
 f15:=Tryz.func245.trans (congrArg some (by kernel_rfl))
 f20:=⟨Tryz.f368.name,by decide,Tryz.func368.trans (congrArg some (by kernel_rfl))⟩
 f21:=⟨Tryz.f369.name,by decide,Tryz.func369.trans (congrArg some (by kernel_rfl))⟩
 f22:=⟨Tryz.f370.name,by decide,Tryz.func370.trans (congrArg some (by kernel_rfl))⟩
 f23:=⟨Tryz.f371.name,by decide,Tryz.func371.trans (congrArg some (by kernel_rfl))⟩
 f24:=⟨Tryz.f372.name,by decide,Tryz.func372.trans (congrArg some (by kernel_rfl))⟩
 f25:=⟨Tryz.f373.name,by decide,Tryz.func373.trans (congrArg some (by kernel_rfl))⟩
 f26:=⟨Tryz.f374.name,by decide,Tryz.func374.trans (congrArg some (by kernel_rfl))⟩
 f27:=⟨Tryz.f375.name,by decide,Tryz.func375.trans (congrArg some (by kernel_rfl))⟩
 f28:=Tryz.func312.trans (congrArg some (by kernel_rfl))
 f29:=Tryz.func313.trans (congrArg some (by kernel_rfl))
 f46:=⟨Tryz.f389.name,by decide,Tryz.func389.trans (congrArg some (by kernel_rfl))⟩
 f47:=Tryz.func344.trans (congrArg some (by kernel_rfl))
 f48:=Tryz.func345.trans (congrArg some (by kernel_rfl))
 f49:=⟨Tryz.f390.name,by decide,Tryz.func390.trans (congrArg some (by kernel_rfl))⟩
 f50:=⟨Tryz.f391.name,by decide,Tryz.func391.trans (congrArg some (by kernel_rfl))⟩
 f57:=⟨Tryz.f399.name,by decide,Tryz.func399.trans (congrArg some (by kernel_rfl))⟩
 t0:=Tryz.underlying0
 a0:=Tryz.isAgg0
 z0:=Tryz.sizeOf0
 v0:=Tryz.zeroValue0
 t3:=Tryz.underlying3
 a3:=Tryz.isAgg3
 z3:=Tryz.sizeOf3
 v3:=Tryz.zeroValue3
 t4:=Tryz.underlying4
 a4:=Tryz.isAgg4
 z4:=Tryz.sizeOf4
 v4:=Tryz.zeroValue4
 t5:=Tryz.underlying5
 a5:=Tryz.isAgg5
 z5:=Tryz.sizeOf5
 v5:=Tryz.zeroValue5
 t9:=Tryz.underlying9
 a9:=Tryz.isAgg9
 z9:=Tryz.sizeOf9
 v9:=Tryz.zeroValue9
 t22:=Tryz.underlying39
 a22:=Tryz.isAgg39
 z22:=Tryz.sizeOf39
 v22:=Tryz.zeroValue39
 t25:=Tryz.underlying388
 a25:=Tryz.isAgg388
 z25:=Tryz.sizeOf388
 v25:=Tryz.zeroValue388
 t39:=Tryz.underlying318
 a39:=Tryz.isAgg318
 z39:=Tryz.sizeOf318
 v39:=Tryz.zeroValue318
 t45:=Tryz.underlying373
 a45:=Tryz.isAgg373
 z45:=Tryz.sizeOf373
 v45:=Tryz.zeroValue373
 t46:=Tryz.underlying374
 a46:=Tryz.isAgg374
 z46:=Tryz.sizeOf374
 v46:=Tryz.zeroValue374
 t50:=Tryz.underlying272
 a50:=Tryz.isAgg272
 z50:=Tryz.sizeOf272
 v50:=Tryz.zeroValue272
 t53:=Tryz.underlying381
 a53:=Tryz.isAgg381
 z53:=Tryz.sizeOf381
 v53:=Tryz.zeroValue381
 t55:=Tryz.underlying383
 a55:=Tryz.isAgg383
 z55:=Tryz.sizeOf383
 v55:=Tryz.zeroValue383
 t66:=Tryz.underlying409
 a66:=Tryz.isAgg409
 z66:=Tryz.sizeOf409
 v66:=Tryz.zeroValue409
 t70:=Tryz.underlying413
 a70:=Tryz.isAgg413
 z70:=Tryz.sizeOf413
 v70:=Tryz.zeroValue413
 t76:=Tryz.underlying428
 a76:=Tryz.isAgg428
 z76:=Tryz.sizeOf428
 v76:=Tryz.zeroValue428
 t77:=Tryz.underlying359
 a77:=Tryz.isAgg359
 z77:=Tryz.sizeOf359
 v77:=Tryz.zeroValue359 }
end Go.Proofs
namespace Go.Proofs.A1
open Go Go.SL Go.Shelf Go.Proofs
open Go.Proofs.Tryz
open Go.Proofs.Tryz renaming prog->T_
structure Wy where
 v:Value
 p:List Nat
 f:Nat
def Wy.cells (x:Wy):List Value:=[x.v,.q (x.f:Nat)]
def nz (p:List Nat):List Int:=p.map fun i:Nat=>(i:Int)
def gR (p:List Nat):List Value:=p.map fun i=>.q (i:Nat)
def VA (l:List Wy):List (List Value):=l.map Wy.cells
def nS (l:List Wy):List Value:=(VA l).flatten
theorem zp (p:List Nat):(gR p).map (fun u=>[u])=ints (nz p):=by simp [gR,ints,nz]
theorem tB (p:List Nat):(nz p).length=p.length:=by simp [nz]
def VD (a b:Nat×List Nat):Int:=aY [lx a.1 b.1,lx (a.2.length:Nat) (b.2.length:Nat),mG (nz a.2) (nz b.2)]
def wl (a b:Nat×List Nat):Bool:=decide (a.1<b.1)||(decide (a.1=b.1)&&(decide (a.2.length<b.2.length)||(decide (a.2.length=b.2.length)&&lexB a.2 b.2)))
theorem xA {x y:Int}:lx x y<0↔x<y:=by
 unfold lx;split
 ·constructor <;> intro _ <;> omega
 ·split <;> constructor <;> intro _ <;> omega
theorem DB:∀ {a b:List Nat},a.length=b.length->(mG (nz a) (nz b)<0↔lexB a b=true)
 | [],[],_=>by simp [nz,mG,lexB]
 | [],_::_,h=>by simp at h
 | _::_,[],h=>by simp at h
 | x :: a, y :: b, h => by
  have ih:=DB (a:=a) (b:=b) (by simpa using h);show (if lx x y≠0 then lx x y else mG (nz a) (nz b))<0↔_
  unfold lexB;by_cases e:(x:Int)=y
  ·rw [if_neg (not_not_intro (ji.2 e)),ih];have e':x=y:=by exact_mod_cast e
   simp [e']
  ·rw [if_pos (fun q=>e (ji.1 q)),xA]
   have e':¬ x=y:=fun q=>e (by rw [q])
   simp [e']
theorem Fz (a b:Nat×List Nat):VD a b<0↔wl a b=true:=by
 unfold VD wl aY;by_cases h1:(a.1:Int)=b.1
 ·rw [if_neg (not_not_intro (ji.2 h1))];have Bp:a.1=b.1:=by exact_mod_cast h1
  unfold aY;by_cases h2:((a.2.length:Nat):Int)=(b.2.length:Nat)
  ·rw [if_neg (not_not_intro (ji.2 h2))];have HT:a.2.length=b.2.length:=by exact_mod_cast h2
   have h3:=DB HT;unfold aY;by_cases h4:mG (nz a.2) (nz b.2)=0
   ·rw [if_neg (not_not_intro h4)];rw [h4] at h3;simp [aY,Bp,HT];have:=h3.symm;simpa using this
   ·rw [if_pos h4,h3];simp [Bp,HT]
  ·rw [if_pos (fun q=>h2 (ji.1 q)),xA]
   have HT:¬ a.2.length=b.2.length:=fun q=>h2 (by rw [q])
   simp [Bp,HT]
 ·rw [if_pos (fun q=>h1 (ji.1 q)),xA]
  have Bp:¬ a.1=b.1:=fun q=>h1 (by rw [q])
  simp [Bp]
theorem yM (a:Nat×List Nat):wl a a=false:=by unfold wl;rw [pF];simp
theorem B4 {a b c:Nat×List Nat} (h1:wl a b=true) (h2:wl b c=true):wl a c=true:=by
 unfold wl at *;simp only [ZS,Zn,decide_eq_true_eq] at *;rcases h1 with h1 | ⟨e1,h1 | ⟨e2,h1⟩⟩ <;> rcases h2 with h2 | ⟨g1,h2 | ⟨g2,h2⟩⟩
 ·exact .inl (by omega)
 ·exact .inl (by omega)
 ·exact .inl (by omega)
 ·exact .inl (by omega)
 ·exact .inr ⟨by omega,.inl (by omega)⟩
 ·exact .inr ⟨by omega,.inl (by omega)⟩
 ·exact .inl (by omega)
 ·exact .inr ⟨by omega,.inl (by omega)⟩
 ·exact .inr ⟨by omega,.inr ⟨by omega,rm h1 h2⟩⟩
theorem IU {a b:Nat×List Nat} (h:a≠b):wl a b=true\/wl b a=true:=by
 unfold wl;simp only [ZS,Zn,decide_eq_true_eq];rcases Zau a.1 b.1 with h1 | h1 | h1
 ·exact .inl (.inl h1)
 ·rcases Zau a.2.length b.2.length with h2 | h2 | h2
  ·exact .inl (.inr ⟨h1,.inl h2⟩)
  ·have hne:a.2≠b.2:=fun e=>h (Prod.ext h1 e)
   rcases rn h2 hne with h3 | h3
   ·exact .inl (.inr ⟨h1,.inr ⟨h2,h3⟩⟩)
   ·exact .inr (.inr ⟨h1.symm,.inr ⟨h2.symm,h3⟩⟩)
  ·exact .inr (.inr ⟨h1.symm,.inl h2⟩)
 ·exact .inr (.inl h1)
theorem Sh {α:Type} (g:α->Nat×List Nat):Go.Sort.SWO (ltOf fun x y:α=>VD (g x) (g y)):=by
 have e:∀ x y:α,ltOf (fun x y:α=>VD (g x) (g y)) x y=wl (g x) (g y):=fun x y=>by
  unfold ltOf;rw [ZaS,decide_eq_true_eq];exact Fz _ _
 constructor
 ·intro x;rw [e];exact yM _
 ·intro x y z h1 h2;rw [e] at *;exact B4 h1 h2
 ·intro x y z h1 h2;rw [e] at *;by_cases h:wl (g x) (g z)=true
  ·by_cases e1:g x=g y
   ·rw [e1,h2] at h;cases h
   ·rcases IU e1 with h3 | h3
    ·rw [h1] at h3;cases h3
    ·rw [B4 h3 h] at h2;cases h2
  ·simpa using h
variable {fp:List Nat} {w:World}
theorem V3 {v:Value} {cs:List Value} {es:List Int} (h:Rd w v 1 (cs.map fun v=>[v])) (hl:cr cs es):an T_ 319 [v] w (.q (aY es)):=
 V4 (by rw [<- hl.eq];exact h)
theorem Si {v1 v2:Value} {p q:List Nat} {f1 f2:Nat} (h1:Rd w v1 1 (ints (nz p))) (h2:Rd w v2 1 (ints (nz q))) :
  an T_ 261 [.agg #[v1,.q (f1:Nat)],.agg #[v2,.q (f2:Nat)]] w (.q (VD (f1,p) (f2,q))):=by
 have abO:∀ w',aI [] w w'->an T_ 236 [v1,v2] w' (.q (mG (nz p) (nz q))):=fun w' hk=>zN (h1.keeps hk) (h2.keeps hk)
 obtain ⟨a,cp,b,o,rfl,dC,ch,ha,hc⟩:=h1;rw [dz,tB] at *;obtain ⟨a',Vv,b',o',rfl,oP,Rm,cY,YS⟩:=h2;rw [dz,tB] at *;have iZ:=abO;refine aj func261 I I ?_;refine Jr<|Jy I I fun _ _=>Jy I I fun _ _=>Ja I<|Jn<|Jq ?_
 with_reducible refine db 18 (by kernel_rfl) ?_
 (refine az lP I<|az (gn (.there .here)) I<|az lP I<|az (gn .here) I<|aZ bn I (fun w' aB=>(DA _ _ w'))<|az lP I<|az (gn (.there .here)) I<|az (cR (.of I)) I<|az lP I<|az (gn .here) I<|az (cR (.of I)) I<|aZ bn I (fun w' aB=>(DA _ _ w'))<|az lP I<|az (gn (.there .here)) I<|az lP I<|az (gn .here) I<|aZ bn I (fun w' aB=>(iZ w' (Mem.keeps aB)))<|eM (aD (.o I (.o I (.o I .nil))) I I I I) I I ?_)
 with_reducible refine dI I fun bq mV=>?_
 (refine ah bJ I (fun w' aB=>(V3 (Mem.dy aB .here I I) (cr.cons (cr.cons (cr.cons cr.nil)))))<|Ja I<|Jn<|Je<|JT ?_)
 rfl
theorem Sd (l:List Wy):∀ r∈VA l,r.length=2:=fun r hr=>by obtain ⟨x,_,rfl⟩:=Zw.1 hr;rfl
theorem qj (l:List Wy):(nS l).length=l.length*2:=by unfold nS;rw [fU (Sd l)];unfold VA;rw [Zd]
theorem NL (a b:List Wy):nS (a++b)=nS a++nS b:=by unfold nS VA;rw [Zy,Zag]
def jk (ly:List Wy):bd:=iM 3 (ly.map Wy.v) (ly.map fun x=>gR x.p)
theorem GQ {ly:List Wy} (hn:fp.Nodup) (hs:cy (hp w) [jk ly] fp) {x:Wy} (hx:x∈ly):Rd w x.v 1 (ints (nz x.p)):=by
 obtain ⟨j,hj,rfl⟩:=ZA hx;have hm:Mem ⟨w,fp,0⟩ [jk ly] w:=⟨.refl _ _,fp,hn,hs,fun b hb=>.inr hb⟩
 have:=hm.wA (j:=j) (v:=(ly[j]).v) (x:=gR (ly[j]).p) .here (by simp [hj]) (by simp [hj]);rwa [zp] at this
theorem Fi {c:Cx} {hs hs':List bd} (hm:Mem c hs w) {ly:List Wy} (ht:Take hs (jk ly) hs') {x:Wy} (hx:x∈ly):Rd w x.v 1 (ints (nz x.p)):=by
 obtain ⟨j,hj,rfl⟩:=ZA hx;have:=hm.wA (j:=j) (v:=(ly[j]).v) (x:=gR (ly[j]).p) ht (by simp [hj]) (by simp [hj]);rwa [zp] at this
theorem Kk {v:Value} {n:Nat} {l ly:List Wy} (iB:fp.Nodup) (hs:cy (hp w) [lD 244 2 v n (nS l),jk ly] fp) (hn:n=l.length) (js:∀ x∈l,x∈ly) (c6:n<=1000000) (YZ:∀ x∈ly,x.v.oneCell'=true) :
  a8 T_ 260 [v,.func (.func 261) #[] #[]] w fp (fun l':List Wy=>l'.Perm l/\l'.Pairwise (fun x y=>wl (y.f,y.p) (x.f,x.p)=false)) (fun _=>.tuple #[]) (fun l'=>[lD 244 2 v n (nS l'),jk ly]):=by
 obtain ⟨f1,f2,rfl,h1,h2⟩:=hs;obtain ⟨hlen,h1⟩:=h1;have TV:=(ZI.1 iB).2.1;have ku:=(ZI.1 iB).2.2;rcases h1 with ⟨rfl,rfl,h0⟩ | ⟨g,off,cap,cur,rfl,rfl,hg,kT,kg,hfit,htk⟩
 ·have nX:l=[]:=Z5 (by omega);subst nX;refine (AnyF.slices_SortFunc_none Tryz.Ej none 0 (.func (.func 261) #[] #[]) w).mono fun e w' ⟨he,hw⟩=>?_;subst hw;exact ⟨[],he,⟨.refl _,.nil⟩,.refl _ _,[]++f2,by simpa using TV,⟨[],f2,I,⟨hlen,.inl ⟨I,I,h0⟩⟩,h2⟩,fun b hb=>.inl hb⟩
 ·subst hn;have Uc:g<w.heap.size:=(Z3.1 hg).1;by_cases nX:l=[]
  ·subst nX;refine (AnyF.slices_SortFunc_none Tryz.Ej (some ⟨g,off,none⟩) cap (.func (.func 261) #[] #[]) w).mono fun e w' ⟨he,hw⟩=>?_;subst hw;exact ⟨[],he,⟨.refl _,.nil⟩,.refl _ _,[g]++f2,iB,⟨[g],f2,I,⟨hlen,.inr ⟨g,off,cap,cur,I,I,hg,kT,kg,hfit,htk⟩⟩,h2⟩,fun b hb=>.inl hb⟩
  obtain ⟨x0,Tw⟩:=List.exists_mem_of_ne_nil l nX
  let α:={x:Wy // x∈ly}
  let _:Inhabited α:=⟨⟨x0,js x0 Tw⟩⟩
  let enc:α->List Value:=fun x=>x.1.cells
  have hle:l.length*2<=cap*2:=Z0 _ kT;have Rv:cur.size=cur.toList.length:=by simp
  have oF:cur=(cur.toList.take off++nS l++cur.toList.drop (off+l.length*2)).toArray:=by
   apply Array.ext';show cur.toList=_;rw [<- htk]
   conv=>lhs;rw [<- ZX off cur.toList]
   rw [Zh];congr 1
   conv=>lhs;rw [<- ZX (l.length*2) (cur.toList.drop off)]
   rw [Zbk]
  have w9:(cur.toList.take off).length=off:=by rw [Zs];omega
  generalize nn:cur.toList.take off=pre at oF w9;generalize WE:cur.toList.drop (off+l.length*2)=post at oF
  let la:List α:=l.attach.map fun x=>⟨x.1,js x.1 x.2⟩
  have PJ:la.map (fun x:α=>x.1)=l:=by
   show (l.attach.map fun x=>(⟨x.1,js x.1 x.2⟩:α)).map (fun x:α=>x.1)=l
   rw [ZaE];exact List.attach_map_subtype_val l
  have Di:∀ m:List α,(m.map enc).flatten=nS (m.map fun x:α=>x.1):=fun m=>by
   unfold nS VA;rw [ZaE];rfl
  have ES:la.length=l.length:=by
   show (l.attach.map fun x=>(⟨x.1,js x.1 x.2⟩:α)).length=_
   rw [Zd,List.length_attach]
  have sJ:w.heap[g]? = some (.cells (pre++(la.map enc).flatten++post).toArray 244 (0,0)):=by rw [Di,PJ,<- oF];exact hg
  have key:=Cp Tryz.Ej (k:=2) isAgg244 sizeOf244 (enc:=enc) (fun _=>rfl)
   (fun x u hu=>by
    have hx:=YZ x.1 x.2;simp only [enc,Wy.cells,ZQ,Zo,or_false] at hu;rcases hu with rfl | rfl
    ·exact hx
    ·rfl)
   (Sh (fun x:α=>(x.1.f,x.1.p))) (g:=261) (b:=g) (cap:=cap) (cb:=#[]) (l:=la) (pre:=pre) (cur:=post) (E:=244) (w:=w)
   (enters_of func261 (by kernel_rfl) I) sJ (by rw [ES];omega)
   (fun w' hk x y=>by
    have hp:cy (hp w') [jk ly] f2:=cy.loc h2 fun b hb=>by
     have PS:b<w.heap.size:=by
      obtain ⟨o,ho⟩:=cy.own h2 b hb;exact lf ho
     exact hk.block b PS (fun e=>ku g (by simp) b hb (ZD.1 e).symm)
    exact Si (GQ TV hp x.2) (GQ TV hp y.2))
  rw [ES,w9] at key;refine Calls.mono key ?_;rintro e w' ⟨he,l',jE,hpw,hk,dQ⟩;have zy:(l'.map fun x:α=>x.1).length=l.length:=by rw [Zd,jE.length_eq,ES]
  rw [Di] at dQ;refine ⟨l'.map fun x:α=>x.1,he,⟨?_,?_⟩,hk.mono (by simp),[g]++f2,iB,⟨[g],f2,I,?_,cy.loc h2 fun b hb=>?_⟩,fun b hb=>.inl hb⟩
  ·have:=jE.map (fun x:α=>x.1)
   rwa [PJ] at this
  ·rw [ZbB];refine hpw.imp fun {x y} h=>?_;unfold ltOf at h;rw [decide_eq_false_iff_not,Fz] at h;simpa using h
  ·have hr:=zd (n:=l.length) (sz:=2) (cap:=cap) (fp:=[g]) (h:=hp w') ⟨I,dQ⟩ w9 kT kg (by
    have:=congrArg (fun x:Array Value=>x.toList.length) oF
    simp only [ZaR,Zg,qj] at this;rw [Zg,Zg,qj,zy,<- this];exact hfit) (by rw [qj,zy])
   exact hr
  ·have PS:b<w.heap.size:=by
    obtain ⟨o,ho⟩:=cy.own h2 b hb;exact lf ho
   exact hk.block b PS (fun e=>ku g (by simp) b hb (ZD.1 e).symm)
end Go.Proofs.A1
namespace Go.Proofs.A1
open Go Go.SL
open Tryz
open Tryz renaming prog->T_
theorem Mh {α:Type} {q:α->Bool} {l:List α} {k:Nat} (h:k<l.length) (hq:q l[k]=true):(l.filter q)[((l.take k).filter q).length]? = some l[k]:=by
 have e:l=l.take k++l[k]::l.drop (k+1):=by rw [<- Zt h,ZX]
 have:l.filter q=(l.take k).filter q++l[k]::(l.drop (k+1)).filter q:=by
  conv=>lhs;rw [e]
  rw [ZaL,Zbv hq]
 rw [this,ZC (Zv _),Nat.sub_self];rfl
def Dt (r:Ro) (v m:Int) (i:Nat):Bool:=decide ((gZ r i).fr=m)&&!gI r.po v (dq r i)
def fY (r:Ro) (v m:Int) (k:Nat):List Nat:=(List.range k).filter (Dt r v m)
def Np (r:Ro) (v m:Int):List (List Value):=(fY r v m r.ti.length).map fun i=>[.q (i:Nat),.agg (gZ r i).cells.toArray]
theorem vr (r:Ro) (v m:Int):(Np r v m).length=(fY r v m r.ti.length).length:=by simp [Np]
theorem tK (r:Ro) (v m:Int) (k:Nat):fY r v m (k+1)=fY r v m k++if Dt r v m k then [k] else []:=by
 unfold fY;rw [ZbA,ZaL];congr 1;by_cases h:Dt r v m k=true
 ·rw [Zbv h,if_pos h];rfl
 ·rw [List.filter_cons_of_neg h,if_neg h];rfl
theorem O5 {r:Ro} {v m:Int} {k:Nat} (h:k<r.ti.length) (hq:Dt r v m k=true):(Np r v m)[(fY r v m k).length]? = some [.q (k:Nat),.agg (gZ r k).cells.toArray]:=by
 have h1:=Mh (l:=List.range r.ti.length) (q:=Dt r v m) (k:=k) (by rw [ZaB];exact h) (by rw [Zby];exact hq);rw [List.take_range,Zbf (by omega),Zby] at h1;unfold Np fY;rw [ZG,h1];rfl
theorem EG {r:Ro} {v m:Int} {k:Nat} {vs:List Value} (h:(Np r v m)[k]? = some vs):∃ i,(fY r v m r.ti.length)[k]? = some i/\vs=[.q (i:Nat),.agg (gZ r i).cells.toArray]/\i<r.ti.length/\Dt r v m i=true:=by
 unfold Np at h;rw [ZG,Zam] at h;obtain ⟨i,hi,rfl⟩:=h;have hm:=Z2 hi;unfold fY at hm;rw [Zu,ZU] at hm;exact ⟨i,hi,I,hm.1,hm.2⟩
variable {N:Wn} {dm:Int} {dst:Option Tmp} {g:Option (Nat×Bool)} {i:Nat} {k:IntKind} {q:Bool} {so:ByteArray} {x y:Operand}
theorem nZ {r:Ro} (h:i<r.ti.length):gZ r i=r.ti[i]:=by
 unfold gZ;rw [Zk,Zc h];rfl
theorem vh {P:Program} {c:Cx} {sl:aN} {hs:List bd} {ty:TypeId} {pos:String} {af:Array Edge} {t u:TypeId} {a b:Int} (hx:Is sl x (.int k a)) (hy:Is sl y (.int k b)) (e:a=b) :
  du P c sl hs ⟨dst,.binOp .eql t x y u,ty,pos,af,g⟩ (.bool true):=by
 have:=oh (P:=P) (c:=c) (hs:=hs) (dst:=dst) (ty:=ty) (pos:=pos) (af:=af) (g:=g) (t:=t) (u:=u) hx hy;rwa [decide_eq_true e] at this
theorem OF {P:Program} {c:Cx} {sl:aN} {hs:List bd} {ty:TypeId} {pos:String} {af:Array Edge} {t u:TypeId} {a b:Int} (hx:Is sl x (.int k a)) (hy:Is sl y (.int k b)) (e:a≠b) :
  du P c sl hs ⟨dst,.binOp .eql t x y u,ty,pos,af,g⟩ (.bool false):=by
 have:=oh (P:=P) (c:=c) (hs:=hs) (dst:=dst) (ty:=ty) (pos:=pos) (af:=af) (g:=g) (t:=t) (u:=u) hx hy;rwa [decide_eq_false e] at this
theorem di {P:Program} {c:Cx} {sl:aN} {hs:List bd} {ty:TypeId} {pos:String} {af:Array Edge} {x y z:Operand} {v u:Value} (hx:Is sl x (.bool q)) (hy:Is sl y v) (hz:Is sl z u) (e:(bif q then v else u)=Value.bool false):du P c sl hs ⟨dst,.pick x y z,ty,pos,af,g⟩ (.bool false):=e ▸ vf hx hy hz
theorem fy {P:Program} {c:Cx} {sl:aN} {hs:List bd} {ty:TypeId} {pos:String} {af:Array Edge} {x y z:Operand} {v u:Value} (hx:Is sl x (.bool q)) (hy:Is sl y v) (hz:Is sl z u) (e:(bif q then v else u)=Value.bool true):du P c sl hs ⟨dst,.pick x y z,ty,pos,af,g⟩ (.bool true):=e ▸ vf hx hy hz
theorem tE {r:Ro} {s d t p:Value} (v m:Int) {w w1:World} (h:RR w1 r s d t p) :
  a8 T_ 153 [RA r s d t p,.q v,.q m] w [] (fun _:Nat×Nat×Nat=>True) (fun x=>.func (.func 240) #[] #[.pointer (some ⟨x.1,0,none⟩),.pointer (some ⟨x.2.1,0,none⟩),.pointer (some ⟨x.2.2,0,none⟩)])
   (fun x=>[JP x.1 r s d t p,bu x.2.1 (.cells #[.q m] 3 (0,0)),bu x.2.2 (.cells #[.q v] 3 (0,0))]):=by
 obtain ⟨h1,h2,h3,h4⟩:=h.one;unfold RA;refine aS func153 I I ?_
 (refine Jr<|Jy I I fun _ _=>Jy I I fun _ _=>Jy I I fun _ _=>Ja I<|Ji<|ab (bC .nil (.o I (.o I (.o I .nil)))) I<|Ja I<|Jn<|Je ?_)
 rename_i b3 rz b4 sH b5 HS
 with_reducible first|apply aO|apply aP
 case he=>exact dN I I
 case hR=>
  intro w' aB;exact aC (b3,b5,b4) trivial (by exact .cons bE (.h2 .nil)) aB I
set_option maxHeartbeats 1000000 in
theorem La {r:Ro} {s d t p:Value} {b1 b2 b3:Nat} (v m:Int) {w0 w:World} {md:List Nat} (h:RR w0 r s d t p) (hn:RO md r s d t p) (c6:r.ti.length<=1000000) :
  Iter T_ 240 [] [.p b1,.p b2,.p b3] [JP b1 r s d t p,bu b2 (.cells #[.q m] 3 (0,0)),bu b3 (.cells #[.q v] 3 (0,0))] (Np r v m) w0 md w:=by
 intro l fp J E hB hF iB hs hy;have hR:=h.kb hn hB;have hO:=h.out hn hF;rw [vr];have h1:=Rd.one hR.sr;have h2:=Rd.one hR.de;have h4:=Rd.one hR.po;have hti:=hR.ti;have oti:=hO.ti;obtain ⟨a,cp,b,o',rfl,dC,ch,ha,hc⟩:=hti;rw [bS] at *;unfold maxLen at ch;refine dT func240 I I iB hs ?_
 (refine Jr<|bD I I ae<|JL I (.there .here) I<|JI I<|Jv I<|Jn<|J0 ?_)
 refine aV (fun k:Nat=>k<=r.ti.length) (fun k=>[(10,.q (k:Nat)),(9,.q (r.ti.length:Nat)),(8,.slice a r.ti.length cp),(0,.func (.yield l) #[] #[]),(1,.p b1),(2,.p b2),(3,.p b3)])
  (fun k=>[J (fY r v m k).length,JP b1 r s d (.slice a r.ti.length cp) p,bu b2 (.cells #[.q m] 3 (0,0)),bu b3 (.cells #[.q v] 3 (0,0))]) (fun k=>r.ti.length-k) ?_ ?_
 ·apply aH 0 (by omega)
  case hs1=>exact bT
  case ht=>
   exact .h4 .nil
 intro k hk;by_cases aL:k<r.ti.length
 ·have cY:=ha (fq aL);have aF:=(hc k _ (ep aL)).2;have hnb:b ∉ fp:=oti (fq aL) b (by rw [cY];rfl);unfold Ti.cells at aF;have Dn:∀ w',aI fp w w'->an T_ 121 [.agg #[.q r.lv,.q r.ma,s,d,.slice a r.ti.length cp,p],.q v,.string (r.ti[k]).nm] w' (.bool (gI r.po v (r.ti[k]).nm)):=fun w' hk=>rI v _ (hR.kb hO hk)
  have A7:=nZ aL;have uu:dq r k=(r.ti[k]).nm:=by unfold dq;rw [A7]
  by_cases Bg:(r.ti[k]).fr=m
  ·cases B1:gI r.po v (r.ti[k]).nm with
   | true =>
    have Dp:∀ w',aI fp w w'->an T_ 121 [.agg #[.q r.lv,.q r.ma,s,d,.slice a r.ti.length cp,p],.q v,.string (r.ti[k]).nm] w' (.bool true):=fun w' hk=>B1 ▸ Dn w' hk
    have hq:Dt r v m k=false:=by unfold Dt;rw [uu,B1];simp
    have LC:fY r v m (k+1)=fY r v m k:=by rw [tK,if_neg (by rw [hq];decide),ZK]
    (refine Jr<|JA I<|Jn<|Jq<|Jd I fun aA=>Jk<|Jq<|J0<|Jr<|Jv I<|ab (gE cY aA) I<|ab (jC (.of I) (fo.DK aF hnb) I) I<|Jz I I fun _ _=>Ja I<|ak (.of I) (.of I) .here I I (fc I I I) (br I) ai<|Ji<|bD I I ae<|JL I .here I<|JL I cI I<|ab (vh (.of I) (.of I) Bg) I<|Jv I<|JK I I<|ab (bU bE) I<|JK I I<|JL I c7 I<|JK I I<|bD I I ae<|JK I I<|JL I .here I<|JK I I<|ah dU I (fun w' aB=>(Dp w' (Mem.keeps aB)))<|JK I I<|JH I<|ab (di (.of I) (.of I) (.of I) I) I<|Jv I<|jZ I I I I<|jZ I I I I<|aM I I (fun hg bH=>(bQ (.of I) .here ai (by rfl))) I<|eG I I I I<|aM I I (fun hg bH=>(fu (.bW bH I))) I<|ab (di (.of I) (.of I) (.of I) I) I<|Jn<|cd (.of I)<|Jw<|Jj<|Jt<|Jg<|JB I (by omega)<|Jv I<|Jn ?_)
    apply aG (k+1) (by omega) (by omega)
    case hs1=>exact bT
    case ht=>
     rw [LC];exact .cons (.there .here) (.cons (.there .here) (.cons (.there .here) (.cons (.there .here) .nil)))
   | false =>
    have Dp:∀ w',aI fp w w'->an T_ 121 [.agg #[.q r.lv,.q r.ma,s,d,.slice a r.ti.length cp,p],.q v,.string (r.ti[k]).nm] w' (.bool false):=fun w' hk=>B1 ▸ Dn w' hk
    have hq:Dt r v m k=true:=by unfold Dt;rw [uu,B1,A7,decide_eq_true Bg];rfl
    have LC:fY r v m (k+1)=fY r v m k++[k]:=by rw [tK,if_pos hq]
    have WU:(fY r v m (k+1)).length=(fY r v m k).length+1:=by rw [LC];simp
    have Wh:=hy _ _ (O5 aL hq);rw [A7] at Wh
    (refine Jr<|JA I<|Jn<|Jq<|Jd I fun aA=>Jk<|Jq<|J0<|Jr<|Jv I<|ab (gE cY aA) I<|ab (jC (.of I) (fo.DK aF hnb) I) I<|Jz I I fun _ _=>Ja I<|ak (.of I) (.of I) .here I I (fc I I I) (br I) ai<|Ji<|bD I I ae<|JL I .here I<|JL I cI I<|ab (vh (.of I) (.of I) Bg) I<|Jv I<|JK I I<|ab (bU bE) I<|JK I I<|JL I c7 I<|JK I I<|bD I I ae<|JK I I<|JL I .here I<|JK I I<|ah dU I (fun w' aB=>(Dp w' (Mem.keeps aB)))<|JK I I<|JH I<|ab (fy (.of I) (.of I) (.of I) I) I<|Jv I<|JK I I<|Jv I<|JK I I<|Jv I<|JK I I<|ab (bU .here) I<|JK I I ?_)
    unfold Ti.cells at Wh
    with_reducible apply yS hB hF Wh
    case hx=>exact Is.of I
    case ha=>exact .o I (.o I .nil)
    case hd=>rfl
    case ht=>exact Take.there .here
    intro q;cases q with
    | false =>
     simp only [cond_false]
     (refine JK I I<|JH I<|ab (fy (.of I) (.of I) (.of I) I) I<|Jn<|c5 (.of I)<|Je<|Jm<|Jh<|Jh<|Jm ?_)
     with_reducible first|apply aO|apply aP
     case he=>exact oQ I
     case hR=>
      intro w' aB;exact aC false trivial (by exact .h1 (.cons (.there .here) (.cons (.there .here) (.cons (.there .here) .nil)))) aB I
    | true =>
     simp only [cond_true]
     (refine JK I I<|JH I<|ab (di (.of I) (.of I) (.of I) I) I<|Jn<|cd (.of I)<|Jw<|Jj<|Jt<|Jg<|JB I (by omega)<|Jv I<|Jn ?_)
     apply aG (k+1) (by omega) (by omega)
     case hs1=>exact bT
     case ht=>
      rw [WU];exact .h1 (.cons (.there .here) (.cons (.there .here) (.cons (.there .here) .nil)))
  ·have hq:Dt r v m k=false:=by unfold Dt;rw [A7,decide_eq_false Bg];rfl
   have LC:fY r v m (k+1)=fY r v m k:=by rw [tK,if_neg (by rw [hq];decide),ZK]
   (refine Jr<|JA I<|Jn<|Jq<|Jd I fun aA=>Jk<|Jq<|J0<|Jr<|Jv I<|ab (gE cY aA) I<|ab (jC (.of I) (fo.DK aF hnb) I) I<|Jz I I fun _ _=>Ja I<|ak (.of I) (.of I) .here I I (fc I I I) (br I) ai<|Ji<|bD I I ae<|JL I .here I<|JL I cI I<|ab (OF (.of I) (.of I) Bg) I<|Jv I<|aM I I (fun hg bH=>(bQ (.of I) bE ai (by rfl))) I<|aM I I (fun hg bH=>(ag (.of I) (At.lit c7 I))) I<|aM I I (fun hg bH=>(ar (.of I) ae)) I<|aM I I (fun hg bH=>(ag (.bW bH I) (At.lit .here I))) I<|eG I I I I<|aM I I (fun hg bH=>(fu (.bW bH I))) I<|ab (di (.of I) (.of I) (.of I) I) I<|Jv I<|jZ I I I I<|jZ I I I I<|aM I I (fun hg bH=>(bQ (.of I) .here ai (by rfl))) I<|eG I I I I<|aM I I (fun hg bH=>(fu (.bW bH I))) I<|ab (di (.of I) (.of I) (.of I) I) I<|Jn<|cd (.of I)<|Jw<|Jj<|Jt<|Jg<|JB I (by omega)<|Jv I<|Jn ?_)
   apply aG (k+1) (by omega) (by omega)
   case hs1=>exact bT
   case ht=>
    rw [LC];exact .cons (.there .here) (.cons (.there .here) (.cons (.there .here) (.cons (.there .here) .nil)))
 ·obtain rfl:k=r.ti.length:=by omega
  refine Jr<|JA I<|Jn<|Jq<|Jc I fun aA=>Jp<|Jl<|Jo ?_
  with_reducible first|apply aO|apply aP
  case he=>exact oQ I
  case hR=>
   intro w' aB;exact aC true trivial (by exact .h4 .nil) aB I
theorem Lt (l:List Int):∀ r∈ints l,∀ u∈r,u.oneCell'=true:=fun r hr=>by obtain ⟨x,_,rfl⟩:=Zw.1 hr;exact bR rfl ib
theorem zv (l:List Int):l.map (Value.int .i64)=(ints l).flatten:=by
 induction l with
 | nil=>rfl
 | cons x l ih=>show [Value.int .i64 x]++l.map (Value.int .i64)=_;rw [ih];rfl
theorem Qp {lv:Value} {l:List Int} {w:World} (h:Rd w lv 1 (ints l)) (hl:l.length<=1000) :
  a8 T_ 262 [lv] w [] (fun _:Value=>True) id (fun v=>[row 3 1 v l.length (l.map (.int .i64))]):=by
 have h':=h;obtain ⟨a,cp,b,o,rfl,dC,ch,ha,hc⟩:=h;refine aS func262 I I ?_;cases a with
 | none =>
  have nX:l=[]:=by
   cases l with
   | nil=>rfl
   | cons x r=>exact absurd (ha (by simp [ints])) (by simp)
  subst nX
  (refine Jr<|Ja I<|Jn<|Jq<|Jr<|Jv I<|ab (iq (.of I) (.of I)) I<|Jn<|c5 (.of I)<|Jr<|Ja I<|Jn<|Ju ?_)
  refine aJ 3 1 ?_
  with_reducible first|apply aO|apply aP
  case he=>exact dN I I
  case hR=>
   intro w' aB;exact aC (.z) trivial (by exact .h1 .nil) aB I
 | some ad =>
  (refine Jr<|Ja I<|Jn<|Jq<|Jr<|Jv I<|ab (iq (.of I) (.of I)) I<|Jn<|cd (.of I)<|Jk<|Jr<|bh (aD .nil I I I I) I fun _ _=>Jv I ?_)
  rename_i bq mV;refine bP (g:=bq) (E:=3) (ys:=[]) 0 1 (by exact .here) I I I ?_
  with_reducible apply eX
  case hx=>exact Is.of I
  case hy=>exact Is.of I
  case ht=>exact .here
  case hsrc=>exact fun w' aB=>h'.keeps aB.keeps
  case h1=>exact Lt l
  case hz=>exact I
  case hsz=>exact I
  case hb0=>exact I
  case hb=>rw [dz];omega
  case hd=>rfl
  intro v';rw [dz,<- zv,ZF,Za];refine Ja I<|Jn<|Je ?_
  with_reducible first|apply aO|apply aP
  case he=>exact dN I I
  case hR=>
   intro w' aB;exact aC v' trivial (by exact .h1 .nil) aB I
theorem wh {P:Program} {c:Cx} {sl:aN} {hs:List bd} {ty:TypeId} {pos:String} {af:Array Edge} {t u:TypeId} {a b:ByteArray} (hx:Is sl x (.string a)) (hy:Is sl y (.string b)) (e:a=b) :
  du P c sl hs ⟨dst,.binOp .eql t x y u,ty,pos,af,g⟩ (.bool true):=by
 have:=dD (P:=P) (c:=c) (hs:=hs) (dst:=dst) (ty:=ty) (pos:=pos) (af:=af) (g:=g) (t:=t) (u:=u) hx hy;rwa [decide_eq_true e] at this
theorem CL {P:Program} {c:Cx} {sl:aN} {hs:List bd} {ty:TypeId} {pos:String} {af:Array Edge} {t u:TypeId} {a b:ByteArray} (hx:Is sl x (.string a)) (hy:Is sl y (.string b)) (e:a≠b) :
  du P c sl hs ⟨dst,.binOp .eql t x y u,ty,pos,af,g⟩ (.bool false):=by
 have:=dD (P:=P) (c:=c) (hs:=hs) (dst:=dst) (ty:=ty) (pos:=pos) (af:=af) (g:=g) (t:=t) (u:=u) hx hy;rwa [decide_eq_false e] at this
def xX (r:Ro) (v:Int) (so:ByteArray) (i:Nat):Bool:=gI r.po v (dq r i)&&decide (jY r v (dq r i)=so)
def B3 (r:Ro) (v:Int) (so:ByteArray) (k:Nat):List Nat:=(List.range k).filter (xX r v so)
theorem xF (r:Ro) (v:Int) (so:ByteArray) (k:Nat):B3 r v so (k+1)=B3 r v so k++if xX r v so k then [k] else []:=by
 unfold B3;rw [ZbA,ZaL];congr 1;by_cases h:xX r v so k=true
 ·rw [Zbv h,if_pos h];rfl
 ·rw [List.filter_cons_of_neg h,if_neg h];rfl
def oV (r:Ro) (so:ByteArray):Int:=(r.sr.getD (bB (cN r) so).toNat ⟨⟨#[]⟩,0⟩).mx
def wk (x:Wy):Nat×List Nat:=(x.f,x.p)
def R6 (L:List (Nat×List Nat)) (W:List Wy):Prop:=W.map wk=L/\∀ y∈W,y.v.oneCell'=true
theorem R6.add {L:List (Nat×List Nat)} {W:List Wy} (h:R6 L W) (y:Wy) (hy:y.v.oneCell'=true):R6 (L++[wk y]) (W++[y]):=by
 refine ⟨by rw [Zy,h.1];rfl,fun z hz=>?_⟩;rcases Zz.1 hz with hz | hz
 ·exact h.2 z hz
 ·rw [ZD.1 hz];exact hy
theorem MQ (W:List Wy) (y:Wy):jk (W++[y])=iM 3 (W.map Wy.v++[y.v]) ((W.map fun x=>gR x.p)++[gR y.p]):=by unfold jk;rw [Zy,Zy];rfl
theorem zX (W:List Wy) (y:Wy):nS (W++[y])=nS W++[y.v,.q (y.f:Nat)]:=by rw [NL];rfl
theorem ql {c:Cx} {D:List Nat} {sl:aN} {hs h1 h2:List bd} {X:Act->World->Prop} {W:List Wy} (y:Wy) {n:Nat} {x:List Value} (ht:Take hs (jk W) h1) (ht2:Take h1 (row 3 1 y.v n x) h2) (hn:n=y.p.length) (hx:x=gR y.p)
  (k:Tr c D sl (jk (W++[y])::h2) X):Tr c D sl hs X:=by
 subst hx;refine lZ (vs:=W.map Wy.v) (xs:=W.map fun x=>gR x.p) (v:=y.v) (show Take hs (iM 3 (W.map Wy.v) (W.map fun x=>gR x.p)) h1 from ht) ht2 (by rw [hn];unfold gR;rw [Zd]) (by rw [Zd,Zd]) ?_;rw [<- MQ];exact k
theorem yX {c:Cx} {D:List Nat} {sl:aN} {hs:List bd} {X:Act->World->Prop} (k:Tr c D sl (jk []::hs) X):Tr c D sl hs X:=kE 3 k
set_option maxHeartbeats 1000000 in
theorem MO {r:Ro} {s d t p:Value} (v:Int) (so:ByteArray) {w:World} (h:RR w r s d t p) (c6:r.ti.length<=1000) (TL:so∈cN r) :
  a8 T_ 259 [RA r s d t p,.q v,.string so] w [] (fun x:Value×List Wy=>R6 ((B3 r v so r.ti.length).map (fun i=>(0,[i]))++(fY r v (oV r so) r.ti.length).map (fun i=>(1,[i]))) x.2) (fun x=>x.1)
   (fun x=>[row 244 2 x.1 x.2.length (nS x.2),jk x.2]):=by
 obtain ⟨h1,h2,h3,h4⟩:=h.one;have hti:=h.ti;obtain ⟨a,cp,b,o',rfl,dC,ch,ha,hc⟩:=hti;have TI:=h.sr;obtain ⟨a2,pe,b2,o2,rfl,jS,eV,jU,kg⟩:=TI;rw [bS] at *;rw [cG] at *;unfold maxLen at ch eV;obtain ⟨i0,vA⟩:∃ i:Nat,bB (cN r) so=(i:Nat):=⟨(bB (cN r) so).toNat,by have:=dK TL;omega⟩;have EV:i0<r.sr.length:=by
  obtain ⟨hl,_⟩:=fk (l:=cN r) (s:=so) (by omega);rw [vA,ZE] at hl;unfold cN at hl;rwa [Zd] at hl
 have pO:oV r so=(r.sr[i0]).mx:=by unfold oV;rw [vA,ZE,Zk,Zc EV];rfl
 have Wq:∀ w',aI [] w w'->an T_ 180 [.agg #[.q r.lv,.q r.ma,.slice a2 r.sr.length pe,d,.slice a r.ti.length cp,p],.string so] w' (.q (i0:Nat)):=fun w' hk=>vA ▸ pt so (h.keeps hk)
 have hsrc:=Wq;unfold RA;refine aS func259 I I ?_
 (refine Jr<|Jy I I fun _ _=>Ja I<|Ji<|Jz I I fun _ _=>Jn<|Jq<|Jr<|bD I I ae<|JL I (.there .here) I<|JI I<|Jv I<|Jn<|J0 ?_)
 rename_i b3 rz b7 Ud;refine aJ 244 2 ?_;refine yX ?_
 refine aV (ι:=Nat×Value×List Wy) (fun x=>x.1<=r.ti.length/\R6 ((B3 r v so x.1).map (fun i=>(0,[i]))) x.2.2)
  (fun x=>[(14,.q (x.1:Nat)),(13,.q (r.ti.length:Nat)),(12,.slice a r.ti.length cp),(7,.p b7),(3,.p b3),(1,.q v),(2,.string so)])
  (fun x=>[bu b7 (.cells #[x.2.1] 329 (0,0)),row 244 2 x.2.1 x.2.2.length (nS x.2.2),jk x.2.2,JP b3 r (.slice a2 r.sr.length pe) d (.slice a r.ti.length cp) p]) (fun x=>r.ti.length-x.1) ?_ ?_
 ·apply aH (0,.z,[]) ⟨Zi _,I,fun y hy=>by cases hy⟩
  case hs1=>exact bT
  case ht=>
   exact .cons bE (.cons (.there .here) (.h2 .nil))
 rintro ⟨k,wv,W⟩ ⟨hk,hW⟩;dsimp only at hk hW ⊢;have Ry:(nS W).length=W.length*2:=qj W;by_cases aL:k<r.ti.length
 ·have cY:=ha (fq aL);have aF:=(hc k _ (ep aL)).2;unfold Ti.cells at aF;have A7:=nZ aL;have uu:dq r k=(r.ti[k]).nm:=by unfold dq;rw [A7]
  have hWk:W.length<=k:=by
   have:=congrArg List.length hW.1;rw [Zd,Zd] at this;rw [this];have:=ZW (xX r v so) (List.range k);rw [ZaB] at this;exact this
  have Dn:∀ w',aI [] w w'->an T_ 121 [.agg #[.q r.lv,.q r.ma,.slice a2 r.sr.length pe,d,.slice a r.ti.length cp,p],.q v,.string (r.ti[k]).nm] w' (.bool (gI r.po v (r.ti[k]).nm)):=fun w' hk=>rI v _ (h.keeps hk)
  have te:∀ w',aI [] w w'->an T_ 126 [.agg #[.q r.lv,.q r.ma,.slice a2 r.sr.length pe,d,.slice a r.ti.length cp,p],.q v,.string (r.ti[k]).nm] w' (.string (jY r v (r.ti[k]).nm)):=fun w' hk=>qJ v _ (h.keeps hk) (by omega)
  cases B1:gI r.po v (r.ti[k]).nm with
  | false =>
   have Dp:∀ w',aI [] w w'->an T_ 121 [.agg #[.q r.lv,.q r.ma,.slice a2 r.sr.length pe,d,.slice a r.ti.length cp,p],.q v,.string (r.ti[k]).nm] w' (.bool false):=fun w' hk=>B1 ▸ Dn w' hk
   have hq:xX r v so k=false:=by unfold xX;rw [uu,B1];rfl
   have LC:B3 r v so (k+1)=B3 r v so k:=by rw [xF,if_neg (by rw [hq];decide),ZK]
   (refine Jr<|JA I<|Jn<|Jq<|Jd I fun aA=>Jk<|Jq<|J0<|Jr<|Jv I<|ab (gE cY aA) I<|ab (ja (fo.base aF I)) I<|Jz I I fun _ _=>Ja I<|ak (.of I) (.of I) .here I I (fc I I I) (br I) ai<|Ji<|ab (bU c7) I<|Jv I<|bD I I ae<|JL I .here I<|ah dU I (fun w' aB=>(Dp w' (Mem.keeps aB)))<|Jv I<|aM I I (fun hg bH=>(bQ (.of I) c7 ai (by rfl))) I<|jZ I I I I<|aM I I (fun hg bH=>(ar (.of I) ae)) I<|aM I I (fun hg bH=>(ag (.bW bH I) (At.lit .here I))) I<|eG I I I I<|jZ I I I I<|eG I I I I<|ab (di (.of I) (.of I) (.of I) I) I<|Jn<|cd (.of I)<|Jw<|Jj<|Jt<|Jg<|JB I (by omega)<|Jv I<|Jn ?_)
   apply aG (k+1,wv,W) ⟨show k+1<=r.ti.length by omega,by rw [LC];exact hW⟩ (show r.ti.length-(k+1)<r.ti.length-k by omega)
   case hs1=>exact bT
   case ht=>(try simp only [Ze,Zf,Za]);exact .cons (.there .here) (.cons (.there .here) (.cons (.there .here) (.cons (.there .here) .nil)))
  | true =>
   have Dp:∀ w',aI [] w w'->an T_ 121 [.agg #[.q r.lv,.q r.ma,.slice a2 r.sr.length pe,d,.slice a r.ti.length cp,p],.q v,.string (r.ti[k]).nm] w' (.bool true):=fun w' hk=>B1 ▸ Dn w' hk
   by_cases A9:jY r v (r.ti[k]).nm=so
   ·have hq:xX r v so k=true:=by unfold xX;rw [uu,B1,decide_eq_true A9];rfl
    have LC:B3 r v so (k+1)=B3 r v so k++[k]:=by rw [xF,if_pos hq]
    (refine Jr<|JA I<|Jn<|Jq<|Jd I fun aA=>Jk<|Jq<|J0<|Jr<|Jv I<|ab (gE cY aA) I<|ab (ja (fo.base aF I)) I<|Jz I I fun _ _=>Ja I<|ak (.of I) (.of I) .here I I (fc I I I) (br I) ai<|Ji<|ab (bU c7) I<|Jv I<|bD I I ae<|JL I .here I<|ah dU I (fun w' aB=>(Dp w' (Mem.keeps aB)))<|Jv I<|JK I I<|ab (bU c7) I<|JK I I<|Jv I<|JK I I<|bD I I ae<|JK I I<|JL I .here I<|JK I I<|ah dU I (fun w' aB=>(te w' (Mem.keeps aB)))<|JK I I<|Jv I<|JK I I<|ab (wh (.of I) (.of I) A9) I<|ab (fy (.of I) (.of I) (.of I) I) I<|Jn<|c5 (.of I)<|Jg<|JL I (.there .here) I<|Jv I<|bh (aD (.o I .nil) I I I I) I fun _ _=>ab (aU (.o I (.o I .nil)) ai) I<|bh (bz (.o I .nil) I I bI bI ai) I fun _ _=>?_)
    rename_i b9 hb9 bq mV bl PS;have L9:=hW.add ⟨.w bq 1 1,[k],0⟩ I;have TA:nS (W++[⟨.w bq 1 1,[k],0⟩])=nS W++[.w bq 1 1,.q 0]:=zX W _;have Wk:(W++[(⟨.w bq 1 1,[k],0⟩:Wy)]).length=W.length+1:=by simp
    refine bA (.of I) (.of I) c7 .here ai (by rfl) (ix I I) (by rfl) (by rfl) (by rfl) eC (by rfl) ?_;intro v';refine aK (by exact .here) fun a' iv e=>?_;subst e
    (refine ak (.of I) (.of I) c7 I I (dE I) (br I) ai<|Jx<|Jj<|Jt<|Jg<|JB I (by omega)<|Jv I<|Jn ?_)
    refine bP (g:=bq) (E:=3) (ys:=[.q (k:Nat)]) 1 1 cI I I I ?_;refine ql (W:=W) ⟨.w bq 1 1,[k],0⟩ (n:=1) (x:=[.q (k:Nat)]) ek (by exact .here) I I ?_;apply aG (k+1,.slice a' (W.length+1) iv,W++[⟨.w bq 1 1,[k],0⟩]) ⟨show k+1<=r.ti.length by omega,by rw [LC,Zy];exact L9⟩ (show r.ti.length-(k+1)<r.ti.length-k by omega)
    case hs1=>exact bT
    case ht=>
     show bj _ [bu b7 (.cells #[.slice a' (W.length+1) iv] 329 (0,0)),row 244 2 (.slice a' (W.length+1) iv) (W++[(⟨.w bq 1 1,[k],0⟩:Wy)]).length (nS (W++[⟨.w bq 1 1,[k],0⟩])),jk (W++[⟨.w bq 1 1,[k],0⟩]),JP b3 r (.slice a2 r.sr.length pe) d (.slice a r.ti.length cp) p] _;rw [Wk,TA];exact .cons (.there .here) (.cons (.there .here) (.h1 (.cons bE .nil)))
   ·have hq:xX r v so k=false:=by unfold xX;rw [uu,B1,decide_eq_false A9];rfl
    have LC:B3 r v so (k+1)=B3 r v so k:=by rw [xF,if_neg (by rw [hq];decide),ZK]
    (refine Jr<|JA I<|Jn<|Jq<|Jd I fun aA=>Jk<|Jq<|J0<|Jr<|Jv I<|ab (gE cY aA) I<|ab (ja (fo.base aF I)) I<|Jz I I fun _ _=>Ja I<|ak (.of I) (.of I) .here I I (fc I I I) (br I) ai<|Ji<|ab (bU c7) I<|Jv I<|bD I I ae<|JL I .here I<|ah dU I (fun w' aB=>(Dp w' (Mem.keeps aB)))<|Jv I<|JK I I<|ab (bU c7) I<|JK I I<|Jv I<|JK I I<|bD I I ae<|JK I I<|JL I .here I<|JK I I<|ah dU I (fun w' aB=>(te w' (Mem.keeps aB)))<|JK I I<|Jv I<|JK I I<|ab (CL (.of I) (.of I) A9) I<|ab (di (.of I) (.of I) (.of I) I) I<|Jn<|cd (.of I)<|Jw<|Jj<|Jt<|Jg<|JB I (by omega)<|Jv I<|Jn ?_)
    apply aG (k+1,wv,W) ⟨show k+1<=r.ti.length by omega,by rw [LC];exact hW⟩ (show r.ti.length-(k+1)<r.ti.length-k by omega)
    case hs1=>exact bT
    case ht=>(try simp only [Ze,Zf,Za]);exact .cons (.there .here) (.cons (.there .here) (.cons (.there .here) (.cons (.there .here) .nil)))
 ·obtain rfl:k=r.ti.length:=by omega
  refine Jr<|JA I<|Jn<|Jq<|Jc I fun aA=>Jp<|Jl<|Jo<|Jt<|Jq<|Jq ?_;have qO:=jU (iD EV);have fB:=(kg i0 _ (fW EV)).2;unfold Sr.cells at fB;have Vd:=fB 1 _ I
  with_reducible refine cz 10 (by kernel_rfl) ?_
  (refine aq (bU cI) I<|fw I I<|jH I I ae<|aq (gn cI) I<|aq (bU cI) I<|fw I I<|cW bn I (fun w' aB=>(hsrc w' (Mem.keeps aB)))<|aq (ao (.of I) (.of I) qO (by omega) (by omega) aW) I<|jH I I ae<|aq (ag (.of I) (At.base Vd I)) I ?_)
  with_reducible refine cC ?_
  rw [<- pO]
  with_reducible apply jd
  case hr=>exact dU
  case hd=>rfl
  case ht=>exact bj.nil
  case hc=>
   intro w1 fp aT _ hs1;obtain rfl:fp=[]:=hs1;exact tE (s:=.slice a2 r.sr.length pe) (d:=d) (t:=.slice a r.ti.length cp) (p:=p) v (oV r so) (h.keeps aT.keeps)
  intro y _;dsimp only [id_eq,Zb,Za];refine Jn<|J0 ?_;have uz:(fY r v (oV r so) r.ti.length).length<=r.ti.length:=by
   have:=ZW (Dt r v (oV r so)) (List.range r.ti.length);rw [ZaB] at this;exact this
  have iZ:(B3 r v so r.ti.length).length<=r.ti.length:=by
   have:=ZW (xX r v so) (List.range r.ti.length);rw [ZaB] at this;exact this
  refine jO (ps:=[51,52]) (f:=240) (first:=[]) (cap:=[.pointer (some ⟨y.1,0,none⟩),.pointer (some ⟨y.2.1,0,none⟩),.pointer (some ⟨y.2.2,0,none⟩)]) (ι:=Value×List Wy) (κ:=Empty) (rst:=[JP b3 r (.slice a2 r.sr.length pe) d (.slice a r.ti.length cp) p]) ?hg
   [JP y.1 r (.slice a2 r.sr.length pe) d (.slice a r.ti.length cp) p,bu y.2.1 (.cells #[.q (oV r so)] 3 (0,0)),bu y.2.2 (.cells #[.q v] 3 (0,0))] (Np r v (oV r so)) ?hit
   (fun k x=>R6 ((B3 r v so r.ti.length).map (fun i=>(0,[i]))++((fY r v (oV r so) r.ti.length).take k).map (fun i=>(1,[i]))) x.2)
   (fun x=>[bu b7 (.cells #[x.1] 329 (0,0)),row 244 2 x.1 x.2.length (nS x.2),jk x.2])
   (fun _=>False) (fun _=>[]) (fun _=>.ret) (wv,W) (by rw [Ze,Zf,ZK];exact hW) ?ht ?hlen ?hps ?round ?kn ?kj
  case hg=>exact Is.of I
  case hit=>intro w' aB;exact La v (oV r so) h RO.nil (by omega)
  case ht=>
   dsimp only [Zb,Za];exact .cons cI (.cons cI (.cons cI (.h3 .nil)))
  case hlen=>intro vs pK;obtain ⟨x,_,rfl⟩:=Zw.1 pK;rfl
  case hps=>intro t ht;simp only [ZQ,Zo,or_false] at ht;rcases ht with rfl | rfl <;> exact ZaA rfl
  case kj=>intro y;cases y
  case kn=>
   rintro ⟨wv,W⟩ D hq;dsimp only [Zb,Za] at hq ⊢;rw [vr,ZL] at hq;refine aK (E:=244) (sz:=2) (by exact Take.there .here) fun va vc e=>?_;subst e;refine Jj<|Jt<|Jr<|JL I .here I<|Ja I<|Jn<|Je ?_
   with_reducible first|apply aO|apply aP
   case he=>exact dN I I
   case hR=>
    intro w' aB;exact aC (.slice va W.length vc,W) hq (by exact .cons (.there .here) (.cons (.there .here) .nil)) aB I
  case round=>
   rintro l2 rc W2 XF k ⟨wv,W⟩ vs hsz hk hq hB hF;dsimp only at hq;obtain ⟨i,hi,rfl,kr,T3⟩:=EG hk;obtain ⟨nu,LS⟩:=Zl.1 hi;have htk:(fY r v (oV r so) r.ti.length).take (k+1)=(fY r v (oV r so) r.ti.length).take k++[i]:=by rw [Zm nu,LS]
   have Ry:(nS W).length=W.length*2:=qj W;have hWk:W.length<=2000:=by
    have:=congrArg List.length hq.1;rw [Zd,Zg,Zd,Zd,Zs] at this;omega
   dsimp only [Ti.cells,List.zip_cons_cons,List.zip_nil_right,nj,Zb,Za];refine Jg<|Ja I<|Jn ?_
   with_reducible apply nA
   case ht=>exact .here
   refine aK (E:=244) (sz:=2) bE fun v1 v2 e=>?_;subst e
   (refine J0<|Jg<|JL I (.there .here) I<|Jv I<|bh (aD (.o I .nil) I I I I) I fun _ _=>ab (aU (.o I (.o I .nil)) ai) I<|bh (bz (.o I .nil) I I bI bI ai) I fun _ _=>?_)
   rename_i bq mV bl PS;have L9:=hq.add ⟨.w bq 1 1,[i],1⟩ I;have TA:nS (W++[⟨.w bq 1 1,[i],1⟩])=nS W++[.w bq 1 1,.q 1]:=zX W _;have Wk:(W++[(⟨.w bq 1 1,[i],1⟩:Wy)]).length=W.length+1:=by simp
   refine bA (.of I) (.of I) c7 .here ai (by rfl) (ix I I) (by rfl) (by rfl) (by rfl) eC (by rfl) ?_;intro v';refine aK (by exact .here) fun a' iv e=>?_;subst e
   (refine ak (.of I) (.of I) c7 I I (dE I) (br I) ai<|Jx<|Jj ?_)
   refine bP (g:=bq) (E:=3) (ys:=[.q (i:Nat)]) 1 1 cI I I I ?_;refine ql (W:=W) ⟨.w bq 1 1,[i],1⟩ (n:=1) (x:=[.q (i:Nat)]) ek (by exact .here) I I ?_;apply mL (.slice a' (W.length+1) iv,W++[⟨.w bq 1 1,[i],1⟩])
   case ht=>exact c7
   case hx=>
    show R6 _ _;rw [htk,Zy,<- Zh];exact L9
   case h2=>
    show bj _ [bu b7 (.cells #[.slice a' (W.length+1) iv] 329 (0,0)),row 244 2 (.slice a' (W.length+1) iv) (W++[(⟨.w bq 1 1,[i],1⟩:Wy)]).length (nS (W++[⟨.w bq 1 1,[i],1⟩])),jk (W++[⟨.w bq 1 1,[i],1⟩])] _;rw [Wk,TA];exact .cons (.there .here) (.cons (.there .here) (.h1 .nil))
def yI (r:Ro) (v:Int) (so:ByteArray):List (Nat×List Nat):=(B3 r v so r.ti.length).map (fun i=>(0,[i]))++(fY r v (oV r so) r.ti.length).map (fun i=>(1,[i]))
theorem px {r:Ro} (h:so∈cN r):kD r so=oV r so:=by
 unfold kD oV;rw [if_pos (dK h)]
theorem rH {r:Ro} (hn:oS r) (h:jy r r.po) (v:Int) (so:ByteArray) (i:Nat):xX r v so i=(dJ r r.po v so).ca i:=by
 unfold xX dJ;rw [xG hn h]
theorem rA {r:Ro} (v:Int) (so:ByteArray) (m:Int) (i:Nat):Dt r v m i=(decide ((dJ r r.po v so).fr i=m)&&(dJ r r.po v so).fe i):=rfl
theorem MK {r:Ro} {v:Int} (h:(dJ r r.po v so).ca i=true):(dJ r r.po v so).fe i=false:=by
 unfold dJ at h ⊢;simp only [Zn] at h;simp [h.1]
theorem Gv (N:Wn) (i:Nat):N.sK [i]=if N.fe i then 1 else 0:=by
 unfold Wn.sK;cases h:N.fe i <;> simp [h]
theorem Mc (N:Wn) (p:List Nat) {i:Nat} (h:N.fe i=true):N.sK (p++[i])=N.sK p+1:=by
 unfold Wn.sK;rw [List.countP_append];simp [h]
theorem Kf (N:Wn) (j:Nat):N.step [] j=(decide (j<N.n)&&(N.ca j||(N.fe j&&decide (N.fr j=N.Fk)))):=by
 unfold Wn.step;simp [Wn.P5];rfl
theorem step_cons (N:Wn) {x:List Nat} (h:x≠[]) (j:Nat):N.step x j=(decide (j<N.n)&&(!x.contains j&&(N.fe j&&decide (N.fr j=N.fin x)))):=by
 unfold Wn.step;cases x with
 | nil=>exact absurd rfl h
 | cons a l=>simp
theorem MP {r:Ro} (hn:oS r) (h:jy r r.po) (v:Int) {so:ByteArray} (hs:so∈cN r) (q:List Nat):q∈(yI r v so).map Prod.snd↔q∈(dJ r r.po v so).exts []:=by
 unfold yI Wn.exts Wn.U3;rw [Zy,Zz,ZaE,ZaE];simp only [Zw,Za,Function.comp,Zu,ZU,B3,fY];have bb:∀ j,(dJ r r.po v so).step [] j=true↔j<r.ti.length/\(xX r v so j=true\/Dt r v (oV r so) j=true):=fun j=>by
  rw [Kf,rH hn h,rA v so];have e0:(dJ r r.po v so).Fk=oV r so:=px hs;rw [e0];simp only [Zn,ZS,decide_eq_true_eq];constructor
  ·rintro ⟨h1,h2 | ⟨h3,h4⟩⟩
   ·exact ⟨h1,.inl h2⟩
   ·exact ⟨h1,.inr ⟨h4,h3⟩⟩
  ·rintro ⟨h1,h2 | ⟨h3,h4⟩⟩
   ·exact ⟨h1,.inl h2⟩
   ·exact ⟨h1,.inr ⟨h4,h3⟩⟩
 constructor
 ·rintro (⟨j,⟨h1,h2⟩,rfl⟩ | ⟨j,⟨h1,h2⟩,rfl⟩)
  ·exact ⟨j,⟨h1,(bb j).2 ⟨h1,.inl h2⟩⟩,I⟩
  ·exact ⟨j,⟨h1,(bb j).2 ⟨h1,.inr h2⟩⟩,I⟩
 ·rintro ⟨j,⟨h1,h2⟩,rfl⟩;rcases ((bb j).1 h2).2 with h3 | h3
  ·exact .inl ⟨j,⟨h1,h3⟩,I⟩
  ·exact .inr ⟨j,⟨h1,h3⟩,I⟩
theorem UI {r:Ro} (hn:oS r) (h:jy r r.po) (v:Int) {so:ByteArray} {x:Nat×List Nat} (hx:x∈yI r v so):x.1=(dJ r r.po v so).sK x.2:=by
 unfold yI at hx;rcases Zz.1 hx with hx | hx
 ·obtain ⟨i,hi,rfl⟩:=Zw.1 hx;have:=(Zu.1 hi).2;rw [rH hn h] at this;rw [Gv,MK this];rfl
 ·obtain ⟨i,hi,rfl⟩:=Zw.1 hx;have:=(Zu.1 hi).2;rw [rA v so,Zn] at this;rw [Gv,this.2];rfl
theorem Qy {r:Ro} (hn:oS r) (h:jy r r.po) (v:Int) {so:ByteArray} (h6:r.ti.length<=6):(dJ r r.po v so).wt ((yI r v so).map Prod.snd)<=1957:=by
 have e:(yI r v so).map Prod.snd=(B3 r v so r.ti.length++fY r v (oV r so) r.ti.length).map (fun i=>([]:List Nat)++[i]):=by
  unfold yI;rw [Zy,ZaE,ZaE,Zy];rfl
 rw [e,Wn.D3];have hl:(B3 r v so r.ti.length++fY r v (oV r so) r.ti.length).length<=r.ti.length:=by
  refine lS _ _ ?_ ?_
  ·rw [ZI];refine ⟨List.nodup_range.filter _,List.nodup_range.filter _,?_⟩;intro a ha b hb e;subst e;have h1:=(Zu.1 ha).2;have h2:=(Zu.1 hb).2;rw [rH hn h] at h1;rw [rA v so,Zn] at h2;rw [MK h1] at h2;cases h2.2
  ·intro x hx;rcases Zz.1 hx with hx | hx <;> exact ZU.1 (Zu.1 hx).1
 have hN:(dJ r r.po v so).n=r.ti.length:=rfl;rw [hN];generalize (B3 r v so r.ti.length++fY r v (oV r so) r.ti.length).length=k at hl;generalize r.ti.length=n at hl h6;have:∀ n,n<=6->n*qV (n-1)<=1957:=by decide
 exact ZP (Z0 _ hl) (by simpa using this n h6)
theorem HZ {r:Ro} {v:Int} {x:List Nat} (hx:x≠[]):(dJ r r.po v so).exts x=((fY r v ((dJ r r.po v so).fin x) r.ti.length).filter fun i=>!x.contains i).map fun i=>x++[i]:=by
 unfold Wn.exts Wn.U3 fY;rw [Zbz];congr 1;apply Zbe;intro j hj;have pP:=ZU.1 hj;rw [step_cons _ hx,rA v so];have:decide (j<(dJ r r.po v so).n)=true:=decide_eq_true pP;rw [this,Zaz];congr 1;exact Bool.and_comm _ _
theorem Wa {r:Ro} {v:Int} (p q:List Nat):(dJ r r.po v so).lt p q=wl ((dJ r r.po v so).sK p,p) ((dJ r r.po v so).sK q,q):=rfl
def ll (r:Ro) (de:ByteArray):Int:=(r.de.getD (bB (cu r) de).toNat ⟨⟨#[]⟩,0,false⟩).mx
theorem Mo {r:Ro} {de:ByteArray} (h:de∈cu r):k6 r de=ll r de:=by
 unfold k6 ll;rw [if_pos (dK h)]
structure qP (N:Wn) (dm:Int) (Q ly:List Wy):Prop where
 sub:∀ x∈Q,x∈ly
 one:∀ x∈ly,x.v.oneCell'=true
 sK:∀ x∈Q,x.f=N.sK x.p
 inv:N.Inv dm (Q.map Wy.p)
 B2:N.wt (Q.map Wy.p)<=1957
theorem qP.len {Q ly:List Wy} (h:qP N dm Q ly):Q.length<=1957:=by
 have:=N.IP (Q.map Wy.p);rw [Zd] at this;exact ZP this h.B2
theorem qP.begin {r:Ro} (hn:oS r) (hv:jy r r.po) (v:Int) {so de:ByteArray} (hs:so∈cN r) (h6:r.ti.length<=6) (hne:oV r so≠ll r de) {W:List Wy} (hW:R6 (yI r v so) W):qP (dJ r r.po v so) (ll r de) W W:=by
 have hp:W.map Wy.p=(yI r v so).map Prod.snd:=by rw [<- hW.1,ZaE];rfl
 refine ⟨fun _ h=>h,hW.2,fun x hx=>?_,?_,?_⟩
 ·have:wk x∈yI r v so:=by rw [<- hW.1];exact Zaa hx
  exact UI hn hv v this
 ·refine Wn.HG (by rw [show (dJ r r.po v so).Fk=kD r so from I,px hs];exact hne) fun q=>?_;rw [hp];exact MP hn hv v hs q
 ·rw [hp];exact Qy hn hv v h6
theorem qP.perm {Q Q' ly:List Wy} (h:qP N dm Q ly) (hp:Q'.Perm Q):qP N dm Q' ly:=by
 have hm:=hp.map Wy.p;refine ⟨fun x hx=>h.sub x (hp.mem_iff.1 hx),h.one,fun x hx=>h.sK x (hp.mem_iff.1 hx),⟨fun q hq=>h.inv.ok q (hm.mem_iff.1 hq),fun p h1 h2=>?_⟩,by rw [Wn.Fw hm];exact h.B2⟩;obtain ⟨q,hq,h3⟩:=h.inv.cover p h1 h2;exact ⟨q,hm.mem_iff.2 hq,h3⟩
theorem qP.found {r:Ro} {v:Int} {x:Wy} {R ly:List Wy} (h:qP (dJ r r.po v so) dm (x::R) ly) (hs:(x::R).Pairwise (fun x y=>wl (y.f,y.p) (x.f,x.p)=false)) (hf:(dJ r r.po v so).fin x.p=dm):(dJ r r.po v so).least dm x.p:=by
 refine Wn.HF h.inv (by simp) (fun q hq=>?_) hf;obtain ⟨y,hy,rfl⟩:=Zw.1 hq;rw [Wa,<- h.sK x (by simp),<- h.sK y hy];rcases ZQ.1 hy with rfl | hy
 ·exact yM _
 ·exact (ZaX.1 hs).1 y hy
theorem qP.next {r:Ro} {v:Int} {x:Wy} {R W ly oY:List Wy} (h:qP (dJ r r.po v so) dm (x::R) ly) (hf:(dJ r r.po v so).fin x.p≠dm) (js:∀ y∈R++W,y∈oY) (iO:∀ y∈oY,y.v.oneCell'=true)
  (hW:W.map wk=((fY r v ((dJ r r.po v so).fin x.p) r.ti.length).filter fun i=>!x.p.contains i).map fun i=>(x.f+1,x.p++[i])):qP (dJ r r.po v so) dm (R++W) oY/\(dJ r r.po v so).wt ((R++W).map Wy.p)<(dJ r r.po v so).wt ((x::R).map Wy.p):=by
 have hx:=h.inv.ok x.p (by simp);have hWp:W.map Wy.p=(dJ r r.po v so).exts x.p:=by
  rw [HZ hx.2];have:=congrArg (fun l=>l.map Prod.snd) hW
  simp only [ZaE] at this;exact this
 have aL:(dJ r r.po v so).wt ((R++W).map Wy.p)<(dJ r r.po v so).wt ((x::R).map Wy.p):=by
  rw [Zy,hWp,Wn.yL,Z4,Wn.wt];have:=Wn.NM hx.1;omega
 refine ⟨⟨js,iO,fun y hy=>?_,?_,ZP (Nat.le_of_lt aL) h.B2⟩,aL⟩
 ·rcases Zz.1 hy with hy | hy
  ·exact h.sK y (ZM _ hy)
  ·have h1:wk y∈W.map wk:=Zaa hy;rw [hW] at h1;obtain ⟨i,hi,e⟩:=Zw.1 h1;have e1:x.f+1=y.f:=congrArg Prod.fst e;have e2:x.p++[i]=y.p:=congrArg Prod.snd e;have h2:=(Zu.1 (Zu.1 hi).1).2;rw [rA v so,Zn] at h2;rw [<- e1,<- e2,Mc _ _ h2.2,h.sK x (by simp)]
 ·rw [Zy,hWp];refine Wn.Lr h.inv (fun q=>?_) hf;rw [Z4,ZQ]
end Go.Proofs.A1
namespace Go.SL
open Go
theorem FY {h:Nat->Option Obj} {E:TypeId} {sz:Nat} {v:Value} {n:Nat} {xs:List Value} {fp:List Nat} (hr:(lD E sz v n xs).sat h fp):fp=v.ownBlock.toList:=by
 obtain ⟨_,h1⟩:=hr;rcases h1 with ⟨rfl,rfl,_⟩ | ⟨g,off,cap,cur,rfl,rfl,_⟩
 ·simp [Value.ownBlock]
 ·simp [Value.ownBlock]
section
variable {P:Program} {c:Cx} {D:List Nat} {sl:aN} {hs hs':List bd} {d:Nat} {ty:TypeId} {pos:String} {af:Array Edge} {r:Option Nat} {ops:Array Oper} {Q:Exit->Act->World->Prop} {rest:List Oper}
theorem Eb {t e:TypeId} {agg:Bool} {size bytes:Nat} {z:Value} {x y:Operand} {v:Value} {n b o m cp:Nat} {xs news:List Value} [hu:iI P t (.slice e)] [hT:Ty P e agg size] [hZ:mA P e z] [hB:uW P e bytes]
  (hx:Is sl x v) (hy:Is sl y (.slice (some ⟨b,o,none⟩) m cp)) (ht:Take hs (lD e size v n xs) hs') (hn:fo c hs b o news) (hl:news.length=m*size) (h1:∀ u∈news,u.oneCell'=true) (hz:z.cells.size=size) (hsz:Nat.blt 0 size=true) (hb0:Nat.blt 0 bytes=true)
  (hb:(n+m)*bytes<=140737488355328) (hd:Nat.blt d c.nt=true)
  (k:∀ v',Tr c D ((d,v')::sl) (lD e size v' (n+m) (xs++news)::hs') (WL P r ops Q rest)) :
  Tr c D sl hs (WL P r ops Q (⟨some d,.call ⟨.builtin .append,#[x,y],#[t,t]⟩,ty,pos,af,none⟩::rest)):=fun a w bb=>by
 obtain ⟨de,i,kz,hi,_,gK⟩:=Ty.parts (P:=P) (t:=e) (agg:=agg) (n:=size);have hzero:i.zero=some z:=by have:=hZ.eq;rw [hi] at this;simpa using this
 have gG:i.bytes=bytes:=by have:=hB.eq;rw [hi] at this;simpa using this
 have YI:=bb.pE;have hm:=bb.mem.take (ht.append _);obtain ⟨kk,fp,iB,⟨f1,f2,rfl,Rh,h2⟩,Bh⟩:=hm;obtain ⟨hlen,hrow⟩:=id Rh;have xi:0<bytes:=by simpa using hb0
 have Ws:0<size:=by simpa using hsz
 have ch:n+m<=maxLen:=by
  have:(n+m)*1<=(n+m)*bytes:=Zbg _ xi;unfold maxLen;omega
 have sC:∀ j u,news[j]? = some u->w.cell? ((⟨b,o,none⟩:Addr).add j)=some u:=fun j u hj=>by rw [eO];exact hn.get j u hj w YI
 have YJ:(xs++news).length=(n+m)*size:=by rw [Zg,hlen,hl,Nat.add_mul]
 have key:∃ v' w' mE,(Builtin.append_ #[t,t] ty #[v,.slice (some ⟨b,o,none⟩) m cp]).run P w=.ok v' w'/\aI f1 w w'/\mE.Nodup/\(lD e size v' (n+m) (xs++news)).sat (hp w') mE/\∀ q∈mE,q∈f1\/w.heap.size<=q:=by
  rcases hrow with ⟨rfl,rfl,rfl⟩ | ⟨g,off,cap,cur,rfl,rfl,hg,hnc,hcm,hfit,htk⟩
  ·have pN:w.ownsRow 0 e size (.z) 0 xs:=⟨hlen,.inl ⟨I,I⟩⟩;obtain ⟨v',w',iE,pM,sE,_⟩:=run_append_own (P:=P) w 0 t ty e i z size bytes hu.eq hi hzero gK gG hz (by simpa using hsz) _ 0 xs pN ⟨b,o,none⟩ m cp news hl sC h1 ch hb (Zi _);have tG:=oL (P:=P) (t:=t) (ty:=ty) hu.eq hi hzero (by rw [gK];exact pN) (a:=⟨b,o,none⟩) (m:=m) (cp:=cp) (by rw [gK];exact hl) sC h1 ch (by rw [gG];exact hb) iE;refine ⟨v',w',v'.ownBlock.toList,iE,⟨sE.os,sE.tape,sE.output,tG.2,sE.size,fun q hq _=>sE.block q hq (by simp [Value.ownBlock])⟩,by cases v'.ownBlock <;> simp,pz (kW pM),fun q hq=>?_⟩
   have ux:v'.ownBlock=some q:=by simpa [Option.mem_toList] using hq
   rcases tG.1 with h | h
   ·rw [ux] at h;simp [Value.ownBlock] at h
   ·rw [h] at ux;cases ux;exact .inr (Zv _)
  ·have W3:w.heap[g]? = some (.cells cur e (0,0)):=hg;have hgs:g<w.heap.size:=(Z3.1 W3).1;have TJ:cur.toList=cur.toList.take off++(xs++cur.toList.drop (off+n*size)):=by
    rw [<- htk]
    conv=>lhs;rw [<- ZX off cur.toList]
    congr 1
    conv=>lhs;rw [<- ZX (n*size) (cur.toList.drop off)]
    rw [Zbk]
   have Rv:cur.size=cur.toList.length:=by simp
   have hns:n*size<=cap*size:=Z0 _ hnc;have w9:(cur.toList.take off).length=off:=by rw [Zs];omega
   by_cases zw:n+m<=cap
   ·have hms:(n+m)*size<=cap*size:=Z0 _ zw;rw [Nat.add_mul] at hms;have Nw:w.heap[g]? = some (.cells cur.toList.toArray e (0,0)):=by rw [ZaZ];exact W3
    obtain ⟨w',h3,h4,h5⟩:=iy (P:=P) (o:=off+n*size) news 0 cur.toList w Nw h1 (by omega);have hfc:=run_firstCells_some (P:=P) w i.size m ⟨b,o,none⟩ m cp news (by rw [gK];exact hl) sC;refine ⟨.slice (some ⟨g,off,none⟩) (n+m) cap,w',[g],?_,h4,by simp,⟨YJ,.inr ⟨g,off,cap,_,I,I,h5,zw,hcm,?_,?_⟩⟩,fun q hq=>.inl hq⟩
    ·subst gK;have L9:(⟨g,off,none⟩:Addr).add (n*i.size)=⟨g,off+n*i.size,none⟩:=eO _ _ _;simp [Builtin.append_,aX hu.eq,sizeOf,typeInfo,hi,Builtin.lenOf,zw,hfc,L9,h3]
    ·rw [Zbq,lp,<- Rv];exact hfit
    ·show ((setCells cur.toList (off+n*size+0) news).drop off).take ((n+m)*size)=xs++news;have e1:setCells cur.toList (off+n*size+0) news=cur.toList.take off++xs++(news++(cur.toList.drop (off+n*size)).drop news.length):=by
      have Xb:cur.toList.drop (off+n*size)=(cur.toList.drop (off+n*size)).take news.length++(cur.toList.drop (off+n*size)).drop news.length:=(ZX _ _).symm;have hle:((cur.toList.drop (off+n*size)).take news.length).length=news.length:=by rw [Zs,ZaU];omega
      have e2:cur.toList=(cur.toList.take off++xs)++((cur.toList.drop (off+n*size)).take news.length++(cur.toList.drop (off+n*size)).drop news.length):=by rw [<- Xb,Zh];exact TJ
      have Uf:(cur.toList.take off++xs).length=off+n*size+0:=by rw [Zg,w9,hlen,Zas]
      conv=>lhs;rw [e2]
      rw [<- Uf];exact Au _ _ _ _ hle.symm
     rw [e1,Zh,<- w9]
     conv=>lhs;rw [w9]
     rw [List.drop_left' w9,<- YJ,<- Zh,List.take_left]
   ·have holds:∀ j u,xs[j]? = some u->w.cell? ((⟨g,off,none⟩:Addr).add j)=some u:=fun j u hj=>by
     rw [eO];simp only [World.cell?,W3];rw [<- htk] at hj;have aL:j<n*size:=by
      have:=(Zl.1 hj).1;rw [Zs] at this;omega
     rw [List.getElem?_take_of_lt aL,Zbl] at hj;simpa using hj
    obtain ⟨v',w',iE,pM,sE⟩:=run_append_arg_grows (P:=P) (w:=w) t ty e i z size bytes hu.eq hi hzero gK gG hz Ws ⟨g,off,none⟩ n cap xs hlen holds ⟨b,o,none⟩ m cp news hl sC (by omega) ch hb;have hr:=run_append_grow (P:=P) w t ty e i z hu.eq hi hzero ⟨g,off,none⟩ n cap xs (by rw [gK];exact hlen) holds ⟨b,o,none⟩ m cp news (by rw [gK];exact hl) sC (by omega) (by unfold maxLen at ch;omega) (growslice_fits (by omega) (by rw [gG];exact hb));have yy:w.drawn<=w'.drawn/\v'.ownBlock=some w.heap.size:=by
     rw [iE] at hr;cases hr;exact ⟨Nat.le_succ _,I⟩
    have WH:w'.ownsRow 0 e size v' (n+m) (xs++news):=⟨pM.1,pM.2.imp id fun ⟨g',iv,acu,e1,_,r⟩=>⟨g',iv,acu,e1,Zi _,r⟩⟩
    refine ⟨v',w',v'.ownBlock.toList,iE,⟨sE.os,sE.tape,sE.output,yy.1,sE.size,fun q hq _=>sE.block q hq (by simp)⟩,by cases v'.ownBlock <;> simp,pz (kW WH),fun q hq=>?_⟩
    rw [yy.2] at hq;simp at hq;exact .inr (by omega)
 obtain ⟨v',w',mE,iE,hk,hnf,gi,tG⟩:=key;refine mJ I ⟨eh _ _ _ _ _,?_⟩;rw [Oper.semAt_eq _ _ _ (by simp)];have:(execOp a.eval ⟨some d,.call ⟨.builtin .append,#[x,y],#[t,t]⟩,ty,pos,af,none⟩).run P w=.ok (.value v') w':=by
  simp [execOp,resolve,invoke,builtin,hx a bb.dw,hy a bb.dw,iE]
 rw [this];refine k v' _ _ ((bb.put (by simpa [Z8] using hd) v').heap ?_);have me:Mem c ([lD e size v n xs]++(hs'++nF D)) w:=bb.mem.take (ht.append _);have:=Mem.change (Bs:=[lD e size v' (n+m) (xs++news)]) (w':=w') me fun fp uy hf=>by
  obtain ⟨g1,g2,e1,hr,e2⟩:=hf;obtain rfl:g2=[]:=e2;have h3:=FY hr;have h4:=FY Rh;rw [ZK] at e1;subst e1;rw [h3,<- h4];exact ⟨hk,mE,hnf,⟨mE,[],by simp,gi,I⟩,tG⟩
 exact this
end
end Go.SL
